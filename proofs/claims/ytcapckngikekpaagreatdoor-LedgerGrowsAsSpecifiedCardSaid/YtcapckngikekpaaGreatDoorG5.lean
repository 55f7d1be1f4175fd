/-
  Known of the functions of this seat's laws, joined. Conditions: each theorem's own.
-/
import Derived.Test.YtcapckngikekpaaGreatDoorG4
import Derived.RangeFuncNested
import Derived.RangeFuncBound
import Derived.RangeFuncCalls
import Derived.RangeFuncLeaves
import Derived.Shelf.Abstract
import Derived.Shelf.RegionOpen
import Derived.OwnWalkIn
import Derived.TacticsInMore
import Derived.LoopNIn
import Derived.LoopIn
namespace Go.Proofs.YtcapckngikekpaaGreatDoor
set_option linter.unusedSimpArgs false
set_option linter.unusedVariables false
set_option maxRecDepth 100000
set_option maxHeartbeats 16000000
section
open Go.RowKit Exch Merk
theorem zol (nd : Nat → Nat → Nat) (leaf i n : Nat) (p : Pth) (h : ¬ 2 ≤ n) : z0v nd leaf i n p = (leaf, p) := by rw [z0v, dif_neg h]
theorem zoj (nd : Nat → Nat → Nat) (leaf i n : Nat) (p : Pth) (h : 2 ≤ n) (hi : i < Merk.split n) : z0v nd leaf i n p = (nd (z0v nd leaf i (Merk.split n) p.last.2).1 p.last.1, (z0v nd leaf i (Merk.split n) p.last.2).2) := by rw [z0v, dif_pos h, if_pos hi]
theorem zom (nd : Nat → Nat → Nat) (leaf i n : Nat) (p : Pth) (h : 2 ≤ n) (hi : ¬ i < Merk.split n) : z0v nd leaf i n p = (nd p.last.1 (z0v nd leaf (i - Merk.split n) (n - Merk.split n) p.last.2).1, (z0v nd leaf (i - Merk.split n) (n - Merk.split n) p.last.2).2) := by rw [z0v, dif_pos h, if_neg hi]
theorem z5u {P : Program} {w : World} {o : Oper} {a : Act} {K : Act → World → Prop} {Q : Exit → Act → World → Prop} {t : TypeId} (ho : o.op = .alloc t) {cs : Array Value} (hz : ∀ w, (zeroValue t).run P w = .ok (.agg cs) w)
  (h : ∀ w' g, g = w.heap.size → Blk w' g t cs → Below w.heap.size w w' → g < w'.heap.size → K (a.put o.dst (.pointer (some ⟨g, 0, none⟩))) w') : o.wp P a w K Q :=
 z82 (z := .agg cs) ho (hz w) (h _ _ rfl (Blk.new _ _ _) ((Below.refl _ _).alloc (Nat.le_refl _) _) (Blk.new _ _ _).lt)
theorem z4q {P : Program} {ops : Array Oper} {S : World → Prop} {o : Oper} {a : Act} {t : TypeId} {x : Operand} {g : Nat} {T : TypeId} {cs : Array Value} (ho : o.op = .load t x) (hg : o.guard = none) (ha : a.eval x = .pointer (some ⟨g, 0, none⟩))
  (hu : (P.underlying t).map z0g = some true) (hi : (P.info? t).map (·.size) = some cs.size) (hc : ∀ W, S W → Blk W g T cs) : YieldsIf P ops S o (.agg cs) a := by
 refine .inl ⟨by simp [Region.wanted, hg], fun w hS => ?_⟩
 unfold execOp
 simp only [ho, ha, Instr.loadAt, Instr.sureAddr, Sem.run_bind, Sem.run_pure, Result.andThen_ok, z5o w g T t cs (hc w hS) hu hi]
structure CkS (w0 : World) (gl gv gb gf : Nat) (leaf : Nat) (tf : TypeId) (F : Value) (p : Pth) (W : World) : Prop where
 path : z2t w0 gb p W
 leaf : Blk W gl 25 (dgC leaf)
 pv : Blk W gv 172 #[.pointer (some ⟨gb, 0, none⟩)]
 fn : Blk W gf tf #[F]
structure z6t (w0 : World) (gl gv gb gf : Nat) : Prop where
 lb : gl ≠ gb
 vb : gv ≠ gb
 fb : gf ≠ gb
 l0 : w0.heap.size ≤ gl
 v0 : w0.heap.size ≤ gv
 b0 : w0.heap.size ≤ gb
 f0 : w0.heap.size ≤ gf
section
variable {w0 W W' : World} {gl gv gb gf leaf : Nat} {tf : TypeId} {F : Value} {p p' : Pth}
theorem CkS.below (h : CkS w0 gl gv gb gf leaf tf F p W) (hb : Below W.heap.size W W') : CkS w0 gl gv gb gf leaf tf F p W' :=
 ⟨h.path.below hb, h.leaf.below hb, h.pv.below hb, h.fn.below hb⟩
theorem CkS.went (h : CkS w0 gl gv gb gf leaf tf F p W) (hp : z6t w0 gl gv gb gf) (hg : z08 [gb] W W') (h2 : z2t w0 gb p' W') : CkS w0 gl gv gb gf leaf tf F p' W' :=
 ⟨h2, hg.blk h.leaf (by simpa using hp.lb), hg.blk h.pv (by simpa using hp.vb), hg.blk h.fn (by simpa using hp.fb)⟩
theorem CkS.other (h : CkS w0 gl gv gb gf leaf tf F p W) (hp : z6t w0 gl gv gb gf) {g : Nat} (ht : z0y g W W') (hl : gl ≠ g) (hv : gv ≠ g) (hb : gb ≠ g) (hf : gf ≠ g) (h0 : w0.heap.size ≤ g) : CkS w0 gl gv gb gf leaf tf F p W' :=
 ⟨h.path.grew ((z08.refl [g] W).turned ht (.inl (by simp))) (by simpa using hb) (by simpa using h0), ht.blk h.leaf hl, ht.blk h.pv hv, ht.blk h.fn hf⟩
theorem CkS.lt (h : CkS w0 gl gv gb gf leaf tf F p W) : gl < W.heap.size ∧ gv < W.heap.size ∧ gb < W.heap.size ∧ gf < W.heap.size := by
 obtain ⟨_, _, _, _, _, _, _, hb⟩ := h.path.blk
 exact ⟨h.leaf.lt, h.pv.lt, hb.lt, h.fn.lt⟩
end
def zal (r : Nat × Pth) (w0 : World) (gl gv gb gf leaf : Nat) (tf : TypeId) (F : Value) (w : World) (e : Ending) (w' : World) : Prop := e = .returned (dgV r.1) ∧ CkS w0 gl gv gb gf leaf tf F r.2 w' ∧ z08 [gb] w w'
abbrev F51 (gl gv gf : Nat) : Value := fnV 134 [gl, gv, gf]
theorem zoi {nd : Nat → Nat → Nat} {em : Nat} (N : Nds nd em) (w0 : World) (gl gv gb gf leaf : Nat) (hpos : z6t w0 gl gv gb gf) (hg : GCon w0) (K : Nat) : ∀ (i n : Nat) (p : Pth) (w : World), n ≤ K → n ≤ 1099511627776 → i < n →
  CkS w0 gl gv gb gf leaf 177 (F51 gl gv gf) p w →
  Calls Tryz.prog 134 #[.int .i64 i, .int .i64 n, .pointer (some ⟨gl, 0, none⟩), .pointer (some ⟨gv, 0, none⟩), .pointer (some ⟨gf, 0, none⟩)] w (zal (z0v nd leaf i n p) w0 gl gv gb gf leaf 177 (F51 gl gv gf) w) := by
 induction K with
 | zero => intro i n p w hK hn hi; omega
 | succ K ih =>
  intro i n p w hK hn hi hs
  by_cases h1 : n = 1
  ·subst h1
   rw [zol nd leaf i 1 p (by omega)]
   unfold zal
   show Calls _ _ _ _ fun e w' => e = .returned (dgV leaf) ∧ CkS w0 gl gv gb gf leaf 177 (F51 gl gv gf) p w' ∧ z08 [gb] w w'
   generalize hF : F51 gl gv gf = F at *
   clear hF
   have HS := ya hs
   clear hs
   go_enter Tryz.func134, Tryz.ntmps134
   go_upto_region 1 with ((with_reducible show sl 7); refine z1a (cs := dgC 0) rfl rfl z0q ?_; intro w1 g7 hg7 q7 hb1 lt7; have HG7 := ya hg7; clear hg7)
   have hs1 := HS.out.below hb1
   have ql := hs1.leaf
   go_wp2_with (first
    | ((with_reducible show sl 12); refine z16 rfl rfl rfl ql yn (by rw [yf, yc]) ?_)
    | ((with_reducible show sn); refine z09 (vs := dgC leaf) rfl rfl rfl rfl q7 (by rw [yc, yc]) (by rw [yf, yc]) (z0d _) ?_; intro w9 ht9 b9))
   have hlt := HS.out.lt
   have h7 := HG7.out
   exact z04 rfl rfl rfl b9 yn (by rw [yf, yc]) ⟨rfl, hs1.other hpos ht9 (by omega) (by omega) (by omega) (by omega) (by have := HS.out.path.old.size; omega), (z08.of_below hb1).turned ht9 (.inr (by omega))⟩
  ·have hk1 := Merk.split_lt (n := n) (by omega)
   have hk0 := Merk.split_pos n
   have HS := ya (fun W => zbo n W (by omega) hn)
   have HSt := ya hs
   have HPOS := ya hpos
   have HG := ya hg
   have HL := ya (fun (q : Pth) (W : World) (h : z2t w0 gb q W) => zcs q w0 gb W h)
   have e1 : ((n : Int) == 1) = false := by simp; omega
   by_cases hik : i < Merk.split n
   ·
    rw [zoj nd leaf i n p (by omega) hik]
    have HI := ya (fun (W : World) (h : CkS w0 gl gv gb gf leaf 177 (F51 gl gv gf) p.last.2 W) => ih i (Merk.split n) p.last.2 W (by omega) (by omega) hik h)
    have HN := ya (fun (W : World) (h : GCon W) => N.node (z0v nd leaf i (Merk.split n) p.last.2).1 p.last.1 W h)
    have HL1 := ya (HL.out p)
    unfold zal at HI ⊢
    unfold z86 at HL1
    show Calls _ _ _ _ fun e w' => e = .returned (dgV (nd (z0v nd leaf i (Merk.split n) p.last.2).1 p.last.1)) ∧ CkS w0 gl gv gb gf leaf 177 (F51 gl gv gf) (z0v nd leaf i (Merk.split n) p.last.2).2 w' ∧ z08 [gb] w w'
    clear ih hs hpos hg HL
    generalize nd (z0v nd leaf i (Merk.split n) p.last.2).1 p.last.1 = Z at *
    generalize (z0v nd leaf i (Merk.split n) p.last.2).1 = D at *
    generalize (z0v nd leaf i (Merk.split n) p.last.2).2 = Q at *
    generalize p.last.1 = X at *
    generalize p.last.2 = P1 at *
    generalize Merk.split n = k at *
    generalize hF : F51 gl gv gf = F at *
    have HF := ya hF.symm
    clear hF
    have hik2 : (i : Int) < (k : Int) := by omega
    go_enter Tryz.func134, Tryz.ntmps134
    go_upto_region 3 with ((with_reducible show sl 7); refine z1a (cs := dgC 0) rfl rfl z0q ?_; intro w1 g7 hg7 q7 hb1 lt7; have HG7 := ya hg7; clear hg7)
    go_cut [8, 9] from 13 to 16 (fun v8 v9 W => ∃ g9, v9 = .pointer (some ⟨g9, 0, none⟩) ∧ v8 = .int .i64 k ∧ CkS w0 gl gv gb gf leaf 177 F P1 W ∧ Blk W g7 25 (dgC 0) ∧ Blk W g9 25 (dgC X) ∧ z08 [gb] w W ∧ w.heap.size ≤ g9 ∧ g7 < g9)
    case first =>
     have hst := (HSt.out.below hb1).below (Below.refl w1.heap.size w1).drew
     have HLT := ya HSt.out.lt
     have hgr : z08 [gb] w w1.drew := (z08.of_below hb1).later (Below.refl w1.heap.size w1).drew
     replace q7 := q7.below (Below.refl w1.heap.size w1).drew
     have hpv := hst.pv
     refine z2h (S := fun W => Blk W gv 172 #[.pointer (some ⟨gb, 0, none⟩)]) 6 (by kernel_rfl) ?_
     refine WpT.tk 0 hpv ?_
     simp only [nrm]
     refine WpT.tl 2 rfl (z4d rfl rfl rfl (by kernel_rfl) (fun W h => h.cell 0)) hpv ?_
     simp only [nrm]
     refine WpT.fork (i := 1) (j := 4) rfl rfl (by kernel_rfl) (fun K hK => ?_) (fun K hK => ?_)
     ·go_simp; refine (HS.out _).mono ?_; rintro e wS ⟨rfl, rfl⟩
      refine hK _ _ hpv ?_; clear hK K; try simp only [nrm]
      refine WpT.fork (i := 3) (j := 4) rfl rfl (by kernel_rfl) (fun K hK => ?_) (fun K hK => ?_)
      ·go_simp; refine (HL1.out _ hst.path).mono ?_; rintro e wL ⟨rfl, hpl, hgl⟩; replace hst := hst.went HPOS.out hgl hpl; replace q7 := hgl.blk q7 (by have := HG7.out; have := HLT.out; simp; omega); (try replace q9 := hgl.blk q9 (by have := HG9.out; have := HLT.out; simp; omega)); replace hgr := hgr.trans hgl; replace hpv := hst.pv
       refine hK _ _ hpv ?_; clear hK K; try simp only [nrm]
       refine WpT.on 4 rfl (fun K hK => ?_)
       refine (if_pos (by rfl)).mpr ?_; refine z5u (cs := dgC 0) rfl z0q ?_; intro wN g9 hg9 q9 hbN lt9; have HG9 := ya (show w.heap.size ≤ g9 ∧ g7 < g9 from ⟨by have := hgr.size; omega, by have := q7.lt; omega⟩); clear hg9; replace hst := hst.below hbN; replace q7 := q7.below hbN; replace hgr := hgr.later hbN; replace hpv := hst.pv
       refine hK _ _ hpv ?_; clear hK K; try simp only [nrm]
       refine WpT.on 5 rfl (fun K hK => ?_)
       go_simp; (try go_bits)
       refine hK _ _ hpv ?_; clear hK K; try simp only [nrm]
       refine WpT.ta 6 rfl (fun K hK => ?_)
       refine (if_pos (by rfl)).mpr ?_; refine yy (vs := dgC X) rfl rfl rfl q9 (by rw [yc, yc]) (by rw [yf, yc]) (z0d _) ?_; intro wP htP bP
       refine hK _ _ ?_; clear hK K; try simp only [nrm]
       refine WpT.done (by kernel_rfl) ?_ _
       have h9 := HG9.out; have hlt := HLT.out; have h7 := HG7.out; have hw0 := HPOS.out.l0; replace hst := hst.other HPOS.out htP (by omega) (by omega) (by omega) (by omega) (by have := HSt.out.path.old.size; omega); replace q7 := htP.blk q7 (by omega); replace hgr := hgr.turned htP (.inr (by omega)); clear h7 hlt; go_wp2_with fail; go_meet; exact ⟨g9, rfl, rfl, hst, q7, bP, hgr, h9.1, h9.2⟩
      ·refine (if_pos (by rfl)).mpr ?_; refine z5u (cs := dgC 0) rfl z0q ?_; intro wN g9 hg9 q9 hbN lt9; have HG9 := ya (show w.heap.size ≤ g9 ∧ g7 < g9 from ⟨by have := hgr.size; omega, by have := q7.lt; omega⟩); clear hg9; replace hst := hst.below hbN; replace q7 := q7.below hbN; replace hgr := hgr.later hbN; replace hpv := hst.pv
       refine hK _ _ hpv ?_; clear hK K; try simp only [nrm]
       refine WpT.on 3 rfl (fun K hK => ?_)
       go_simp; refine (HL1.out _ hst.path).mono ?_; rintro e wL ⟨rfl, hpl, hgl⟩; replace hst := hst.went HPOS.out hgl hpl; replace q7 := hgl.blk q7 (by have := HG7.out; have := HLT.out; simp; omega); (try replace q9 := hgl.blk q9 (by have := HG9.out; have := HLT.out; simp; omega)); replace hgr := hgr.trans hgl; replace hpv := hst.pv
       refine hK _ _ hpv ?_; clear hK K; try simp only [nrm]
       refine WpT.on 5 rfl (fun K hK => ?_)
       go_simp; (try go_bits)
       refine hK _ _ hpv ?_; clear hK K; try simp only [nrm]
       refine WpT.ta 6 rfl (fun K hK => ?_)
       refine (if_pos (by rfl)).mpr ?_; refine yy (vs := dgC X) rfl rfl rfl q9 (by rw [yc, yc]) (by rw [yf, yc]) (z0d _) ?_; intro wP htP bP
       refine hK _ _ ?_; clear hK K; try simp only [nrm]
       refine WpT.done (by kernel_rfl) ?_ _
       have h9 := HG9.out; have hlt := HLT.out; have h7 := HG7.out; have hw0 := HPOS.out.l0; replace hst := hst.other HPOS.out htP (by omega) (by omega) (by omega) (by omega) (by have := HSt.out.path.old.size; omega); replace q7 := htP.blk q7 (by omega); replace hgr := hgr.turned htP (.inr (by omega)); clear h7 hlt; go_wp2_with fail; go_meet; exact ⟨g9, rfl, rfl, hst, q7, bP, hgr, h9.1, h9.2⟩
     ·refine (if_pos (by rfl)).mpr ?_; refine z5u (cs := dgC 0) rfl z0q ?_; intro wN g9 hg9 q9 hbN lt9; have HG9 := ya (show w.heap.size ≤ g9 ∧ g7 < g9 from ⟨by have := hgr.size; omega, by have := q7.lt; omega⟩); clear hg9; replace hst := hst.below hbN; replace q7 := q7.below hbN; replace hgr := hgr.later hbN; replace hpv := hst.pv
      refine hK _ _ hpv ?_; clear hK K; try simp only [nrm]
      refine WpT.on 1 rfl (fun K hK => ?_)
      go_simp; refine (HS.out _).mono ?_; rintro e wS ⟨rfl, rfl⟩
      refine hK _ _ hpv ?_; clear hK K; try simp only [nrm]
      refine WpT.on 3 rfl (fun K hK => ?_)
      go_simp; refine (HL1.out _ hst.path).mono ?_; rintro e wL ⟨rfl, hpl, hgl⟩; replace hst := hst.went HPOS.out hgl hpl; replace q7 := hgl.blk q7 (by have := HG7.out; have := HLT.out; simp; omega); (try replace q9 := hgl.blk q9 (by have := HG9.out; have := HLT.out; simp; omega)); replace hgr := hgr.trans hgl; replace hpv := hst.pv
      refine hK _ _ hpv ?_; clear hK K; try simp only [nrm]
      refine WpT.on 5 rfl (fun K hK => ?_)
      go_simp; (try go_bits)
      refine hK _ _ hpv ?_; clear hK K; try simp only [nrm]
      refine WpT.ta 6 rfl (fun K hK => ?_)
      refine (if_pos (by rfl)).mpr ?_; refine yy (vs := dgC X) rfl rfl rfl q9 (by rw [yc, yc]) (by rw [yf, yc]) (z0d _) ?_; intro wP htP bP
      refine hK _ _ ?_; clear hK K; try simp only [nrm]
      refine WpT.done (by kernel_rfl) ?_ _
      have h9 := HG9.out; have hlt := HLT.out; have h7 := HG7.out; have hw0 := HPOS.out.l0; replace hst := hst.other HPOS.out htP (by omega) (by omega) (by omega) (by omega) (by have := HSt.out.path.old.size; omega); replace q7 := htP.blk q7 (by omega); replace hgr := hgr.turned htP (.inr (by omega)); clear h7 hlt; go_wp2_with fail; go_meet; exact ⟨g9, rfl, rfl, hst, q7, bP, hgr, h9.1, h9.2⟩
    case rest =>
     obtain ⟨g9, rfl, rfl, hst, q7, q9, hgr, h90, h97⟩ := hcut
     have HH := ya (And.intro h90 h97)
     have HLT := ya HSt.out.lt
     clear h90 h97
     go_upto_region 5 with (fail)
     replace hst := hst.below (Below.refl _ _).drew
     replace q7 := q7.below (Below.refl _ _).drew
     replace q9 := q9.below (Below.refl _ _).drew
     replace hgr := hgr.later (Below.refl _ _).drew
     have hS : Blk _ gf 177 #[F] ∧ Blk _ g9 25 (dgC X) := ⟨hst.fn, q9⟩
     rw [HF.out] at hS
     refine z2h (S := fun W => Blk W gf 177 #[F51 gl gv gf] ∧ Blk W g9 25 (dgC X)) 6 (by kernel_rfl) ?_
     refine WpT.tl 0 rfl (z4d rfl rfl rfl (by kernel_rfl) (fun W h => h.1.cell 0)) hS ?_
     simp only [nrm]
     refine WpT.tk 1 hS ?_
     simp only [nrm]
     refine WpT.tk 2 hS ?_
     simp only [nrm]
     refine WpT.tl 4 rfl (z4q rfl rfl rfl yn (by rw [yf, yc]) (fun W h => h.2)) hS ?_
     simp only [nrm]
     refine WpT.on 3 rfl (fun K hK => ?_)
     go_simp; refine (HI.out _ hst).mono ?_; rintro e wC ⟨rfl, hst2, hgC⟩; replace q7 := hgC.blk q7 (by have := HG7.out; have := HLT.out; simp; omega); replace q9 := hgC.blk q9 (by have := HH.out; have := HLT.out; simp; omega); replace hgr := hgr.trans hgC; replace hst := hst2; clear hst2; replace hS := And.intro hst.fn q9; rw [HF.out] at hS
     refine hK _ _ hS ?_; clear hK K; try simp only [nrm]
     refine WpT.on 5 rfl (fun K hK => ?_)
     go_simp; refine (HN.out _ (HG.out.below hst.path.old)).mono ?_; rintro e wM ⟨rfl, hbM⟩; replace hst := hst.below hbM; replace q7 := q7.below hbM; replace q9 := q9.below hbM; replace hgr := hgr.later hbM; replace hS := And.intro hst.fn q9; rw [HF.out] at hS
     refine hK _ _ hS ?_; clear hK K; try simp only [nrm]
     refine WpT.ta 6 rfl (fun K hK => ?_)
     refine (if_pos (by rfl)).mpr ?_; refine yy (vs := dgC Z) rfl rfl rfl q7 (by rw [yc, yc]) (by rw [yf, yc]) (z0d _) ?_; intro w9 ht9 b9
     refine hK _ _ ?_; clear hK K; try simp only [nrm]
     refine WpT.done (by kernel_rfl) ?_ _
     skip
     have hlt := HLT.out
     have h7 := HG7.out
     have hfin := hst.other HPOS.out ht9 (by omega) (by omega) (by omega) (by omega) (by have := HSt.out.path.old.size; omega)
     replace hgr := hgr.turned ht9 (.inr (by omega))
     clear hS q9 q7 hst h7 hlt
     go_wp2_with fail
     exact z04 rfl rfl rfl b9 yn (by rw [yf, yc]) ⟨rfl, hfin, hgr⟩
   ·
    rw [zom nd leaf i n p (by omega) hik]
    have HI := ya (fun (W : World) (h : CkS w0 gl gv gb gf leaf 177 (F51 gl gv gf) p.last.2 W) => ih (i - Merk.split n) (n - Merk.split n) p.last.2 W (by omega) (by omega) (by omega) h)
    have HN := ya (fun (W : World) (h : GCon W) => N.node p.last.1 (z0v nd leaf (i - Merk.split n) (n - Merk.split n) p.last.2).1 W h)
    have HL1 := ya (HL.out p)
    unfold zal at HI ⊢
    unfold z86 at HL1
    show Calls _ _ _ _ fun e w' => e = .returned (dgV (nd p.last.1 (z0v nd leaf (i - Merk.split n) (n - Merk.split n) p.last.2).1)) ∧ CkS w0 gl gv gb gf leaf 177 (F51 gl gv gf) (z0v nd leaf (i - Merk.split n) (n - Merk.split n) p.last.2).2 w' ∧ z08 [gb] w w'
    have hc1 : ((i - Merk.split n : Nat) : Int) = (i : Int) - (Merk.split n : Int) := by omega
    have hc2 : ((n - Merk.split n : Nat) : Int) = (n : Int) - (Merk.split n : Int) := by omega
    rw [hc1, hc2] at HI
    clear hc1 hc2
    clear ih hs hpos hg HL
    generalize nd p.last.1 (z0v nd leaf (i - Merk.split n) (n - Merk.split n) p.last.2).1 = Z at *
    generalize (z0v nd leaf (i - Merk.split n) (n - Merk.split n) p.last.2).1 = D at *
    generalize (z0v nd leaf (i - Merk.split n) (n - Merk.split n) p.last.2).2 = Q at *
    generalize p.last.1 = X at *
    generalize p.last.2 = P1 at *
    generalize Merk.split n = k at *
    generalize hF : F51 gl gv gf = F at *
    have HF := ya hF.symm
    clear hF
    have hik2 : ¬ (i : Int) < (k : Int) := by omega
    have hsub : 0 ≤ (i : Int) - (k : Int) ∧ (i : Int) - (k : Int) ≤ 1099511627776 := by omega
    have hsub2 : 0 ≤ (n : Int) - (k : Int) ∧ (n : Int) - (k : Int) ≤ 1099511627776 := by omega
    have HW : Hid ((wrap64 ((i : Int) - (k : Int)) = (i : Int) - (k : Int) ∧ IntKind.i64.wrap ((i : Int) - (k : Int)) = (i : Int) - (k : Int)) ∧ (wrap64 ((n : Int) - (k : Int)) = (n : Int) - (k : Int) ∧ IntKind.i64.wrap ((n : Int) - (k : Int)) = (n : Int) - (k : Int))) := ya ⟨⟨by unfold wrap64; omega, wrap_small _ (by omega) (by omega)⟩, by unfold wrap64; omega, wrap_small _ (by omega) (by omega)⟩
    go_enter Tryz.func134, Tryz.ntmps134
    go_upto_region 3 with ((with_reducible show sl 7); refine z1a (cs := dgC 0) rfl rfl z0q ?_; intro w1 g7 hg7 q7 hb1 lt7; have HG7 := ya hg7; clear hg7)
    go_cut [8, 9] from 13 to 16 (fun v8 v9 W => ∃ g9, v9 = .pointer (some ⟨g9, 0, none⟩) ∧ v8 = .int .i64 k ∧ CkS w0 gl gv gb gf leaf 177 F P1 W ∧ Blk W g7 25 (dgC 0) ∧ Blk W g9 25 (dgC X) ∧ z08 [gb] w W ∧ w.heap.size ≤ g9 ∧ g7 < g9)
    case first =>
     have hst := (HSt.out.below hb1).below (Below.refl w1.heap.size w1).drew
     have HLT := ya HSt.out.lt
     have hgr : z08 [gb] w w1.drew := (z08.of_below hb1).later (Below.refl w1.heap.size w1).drew
     replace q7 := q7.below (Below.refl w1.heap.size w1).drew
     have hpv := hst.pv
     refine z2h (S := fun W => Blk W gv 172 #[.pointer (some ⟨gb, 0, none⟩)]) 6 (by kernel_rfl) ?_
     refine WpT.tk 0 hpv ?_
     simp only [nrm]
     refine WpT.tl 2 rfl (z4d rfl rfl rfl (by kernel_rfl) (fun W h => h.cell 0)) hpv ?_
     simp only [nrm]
     refine WpT.fork (i := 1) (j := 4) rfl rfl (by kernel_rfl) (fun K hK => ?_) (fun K hK => ?_)
     ·go_simp; refine (HS.out _).mono ?_; rintro e wS ⟨rfl, rfl⟩
      refine hK _ _ hpv ?_; clear hK K; try simp only [nrm]
      refine WpT.fork (i := 3) (j := 4) rfl rfl (by kernel_rfl) (fun K hK => ?_) (fun K hK => ?_)
      ·go_simp; refine (HL1.out _ hst.path).mono ?_; rintro e wL ⟨rfl, hpl, hgl⟩; replace hst := hst.went HPOS.out hgl hpl; replace q7 := hgl.blk q7 (by have := HG7.out; have := HLT.out; simp; omega); (try replace q9 := hgl.blk q9 (by have := HG9.out; have := HLT.out; simp; omega)); replace hgr := hgr.trans hgl; replace hpv := hst.pv
       refine hK _ _ hpv ?_; clear hK K; try simp only [nrm]
       refine WpT.on 4 rfl (fun K hK => ?_)
       refine (if_pos (by rfl)).mpr ?_; refine z5u (cs := dgC 0) rfl z0q ?_; intro wN g9 hg9 q9 hbN lt9; have HG9 := ya (show w.heap.size ≤ g9 ∧ g7 < g9 from ⟨by have := hgr.size; omega, by have := q7.lt; omega⟩); clear hg9; replace hst := hst.below hbN; replace q7 := q7.below hbN; replace hgr := hgr.later hbN; replace hpv := hst.pv
       refine hK _ _ hpv ?_; clear hK K; try simp only [nrm]
       refine WpT.on 5 rfl (fun K hK => ?_)
       go_simp; (try go_bits)
       refine hK _ _ hpv ?_; clear hK K; try simp only [nrm]
       refine WpT.ta 6 rfl (fun K hK => ?_)
       refine (if_pos (by rfl)).mpr ?_; refine yy (vs := dgC X) rfl rfl rfl q9 (by rw [yc, yc]) (by rw [yf, yc]) (z0d _) ?_; intro wP htP bP
       refine hK _ _ ?_; clear hK K; try simp only [nrm]
       refine WpT.done (by kernel_rfl) ?_ _
       have h9 := HG9.out; have hlt := HLT.out; have h7 := HG7.out; have hw0 := HPOS.out.l0; replace hst := hst.other HPOS.out htP (by omega) (by omega) (by omega) (by omega) (by have := HSt.out.path.old.size; omega); replace q7 := htP.blk q7 (by omega); replace hgr := hgr.turned htP (.inr (by omega)); clear h7 hlt; go_wp2_with fail; go_meet; exact ⟨g9, rfl, rfl, hst, q7, bP, hgr, h9.1, h9.2⟩
      ·refine (if_pos (by rfl)).mpr ?_; refine z5u (cs := dgC 0) rfl z0q ?_; intro wN g9 hg9 q9 hbN lt9; have HG9 := ya (show w.heap.size ≤ g9 ∧ g7 < g9 from ⟨by have := hgr.size; omega, by have := q7.lt; omega⟩); clear hg9; replace hst := hst.below hbN; replace q7 := q7.below hbN; replace hgr := hgr.later hbN; replace hpv := hst.pv
       refine hK _ _ hpv ?_; clear hK K; try simp only [nrm]
       refine WpT.on 3 rfl (fun K hK => ?_)
       go_simp; refine (HL1.out _ hst.path).mono ?_; rintro e wL ⟨rfl, hpl, hgl⟩; replace hst := hst.went HPOS.out hgl hpl; replace q7 := hgl.blk q7 (by have := HG7.out; have := HLT.out; simp; omega); (try replace q9 := hgl.blk q9 (by have := HG9.out; have := HLT.out; simp; omega)); replace hgr := hgr.trans hgl; replace hpv := hst.pv
       refine hK _ _ hpv ?_; clear hK K; try simp only [nrm]
       refine WpT.on 5 rfl (fun K hK => ?_)
       go_simp; (try go_bits)
       refine hK _ _ hpv ?_; clear hK K; try simp only [nrm]
       refine WpT.ta 6 rfl (fun K hK => ?_)
       refine (if_pos (by rfl)).mpr ?_; refine yy (vs := dgC X) rfl rfl rfl q9 (by rw [yc, yc]) (by rw [yf, yc]) (z0d _) ?_; intro wP htP bP
       refine hK _ _ ?_; clear hK K; try simp only [nrm]
       refine WpT.done (by kernel_rfl) ?_ _
       have h9 := HG9.out; have hlt := HLT.out; have h7 := HG7.out; have hw0 := HPOS.out.l0; replace hst := hst.other HPOS.out htP (by omega) (by omega) (by omega) (by omega) (by have := HSt.out.path.old.size; omega); replace q7 := htP.blk q7 (by omega); replace hgr := hgr.turned htP (.inr (by omega)); clear h7 hlt; go_wp2_with fail; go_meet; exact ⟨g9, rfl, rfl, hst, q7, bP, hgr, h9.1, h9.2⟩
     ·refine (if_pos (by rfl)).mpr ?_; refine z5u (cs := dgC 0) rfl z0q ?_; intro wN g9 hg9 q9 hbN lt9; have HG9 := ya (show w.heap.size ≤ g9 ∧ g7 < g9 from ⟨by have := hgr.size; omega, by have := q7.lt; omega⟩); clear hg9; replace hst := hst.below hbN; replace q7 := q7.below hbN; replace hgr := hgr.later hbN; replace hpv := hst.pv
      refine hK _ _ hpv ?_; clear hK K; try simp only [nrm]
      refine WpT.on 1 rfl (fun K hK => ?_)
      go_simp; refine (HS.out _).mono ?_; rintro e wS ⟨rfl, rfl⟩
      refine hK _ _ hpv ?_; clear hK K; try simp only [nrm]
      refine WpT.on 3 rfl (fun K hK => ?_)
      go_simp; refine (HL1.out _ hst.path).mono ?_; rintro e wL ⟨rfl, hpl, hgl⟩; replace hst := hst.went HPOS.out hgl hpl; replace q7 := hgl.blk q7 (by have := HG7.out; have := HLT.out; simp; omega); (try replace q9 := hgl.blk q9 (by have := HG9.out; have := HLT.out; simp; omega)); replace hgr := hgr.trans hgl; replace hpv := hst.pv
      refine hK _ _ hpv ?_; clear hK K; try simp only [nrm]
      refine WpT.on 5 rfl (fun K hK => ?_)
      go_simp; (try go_bits)
      refine hK _ _ hpv ?_; clear hK K; try simp only [nrm]
      refine WpT.ta 6 rfl (fun K hK => ?_)
      refine (if_pos (by rfl)).mpr ?_; refine yy (vs := dgC X) rfl rfl rfl q9 (by rw [yc, yc]) (by rw [yf, yc]) (z0d _) ?_; intro wP htP bP
      refine hK _ _ ?_; clear hK K; try simp only [nrm]
      refine WpT.done (by kernel_rfl) ?_ _
      have h9 := HG9.out; have hlt := HLT.out; have h7 := HG7.out; have hw0 := HPOS.out.l0; replace hst := hst.other HPOS.out htP (by omega) (by omega) (by omega) (by omega) (by have := HSt.out.path.old.size; omega); replace q7 := htP.blk q7 (by omega); replace hgr := hgr.turned htP (.inr (by omega)); clear h7 hlt; go_wp2_with fail; go_meet; exact ⟨g9, rfl, rfl, hst, q7, bP, hgr, h9.1, h9.2⟩
    case rest =>
     obtain ⟨g9, rfl, rfl, hst, q7, q9, hgr, h90, h97⟩ := hcut
     have HH := ya (And.intro h90 h97)
     have HLT := ya HSt.out.lt
     clear h90 h97
     go_upto_region 6 with (fail)
     replace hst := hst.below (Below.refl _ _).drew
     replace q7 := q7.below (Below.refl _ _).drew
     replace q9 := q9.below (Below.refl _ _).drew
     replace hgr := hgr.later (Below.refl _ _).drew
     have hS : Blk _ gf 177 #[F] ∧ Blk _ g9 25 (dgC X) := ⟨hst.fn, q9⟩
     rw [HF.out] at hS
     refine z2h (S := fun W => Blk W gf 177 #[F51 gl gv gf] ∧ Blk W g9 25 (dgC X)) 10 (by kernel_rfl) ?_
     refine WpT.tl 0 rfl (z4q rfl rfl rfl yn (by rw [yf, yc]) (fun W h => h.2)) hS ?_
     simp only [nrm]
     refine WpT.tl 1 rfl (z4d rfl rfl rfl (by kernel_rfl) (fun W h => h.1.cell 0)) hS ?_
     simp only [nrm]
     refine WpT.tk 2 hS ?_
     simp only [nrm]
     refine WpT.tk 3 hS ?_
     simp only [nrm]
     refine WpT.tk 4 hS ?_
     simp only [nrm]
     refine WpT.tk 5 hS ?_
     simp only [nrm]
     refine WpT.tk 6 hS ?_
     simp only [nrm]
     refine WpT.tk 7 hS ?_
     simp only [nrm]
     refine WpT.on 8 rfl (fun K hK => ?_)
     go_simp; (try simp only [HW.out.1.1, HW.out.1.2, HW.out.2.1, HW.out.2.2]); refine (HI.out _ hst).mono ?_; rintro e wC ⟨rfl, hst2, hgC⟩; replace q7 := hgC.blk q7 (by have := HG7.out; have := HLT.out; simp; omega); replace q9 := hgC.blk q9 (by have := HH.out; have := HLT.out; simp; omega); replace hgr := hgr.trans hgC; replace hst := hst2; clear hst2; replace hS := And.intro hst.fn q9; rw [HF.out] at hS
     refine hK _ _ hS ?_; clear hK K; try simp only [nrm]
     refine WpT.on 9 rfl (fun K hK => ?_)
     go_simp; refine (HN.out _ (HG.out.below hst.path.old)).mono ?_; rintro e wM ⟨rfl, hbM⟩; replace hst := hst.below hbM; replace q7 := q7.below hbM; replace q9 := q9.below hbM; replace hgr := hgr.later hbM; replace hS := And.intro hst.fn q9; rw [HF.out] at hS
     refine hK _ _ hS ?_; clear hK K; try simp only [nrm]
     refine WpT.ta 10 rfl (fun K hK => ?_)
     refine (if_pos (by rfl)).mpr ?_; refine yy (vs := dgC Z) rfl rfl rfl q7 (by rw [yc, yc]) (by rw [yf, yc]) (z0d _) ?_; intro w9 ht9 b9
     refine hK _ _ ?_; clear hK K; try simp only [nrm]
     refine WpT.done (by kernel_rfl) ?_ _
     skip
     have hlt := HLT.out
     have h7 := HG7.out
     have hfin := hst.other HPOS.out ht9 (by omega) (by omega) (by omega) (by omega) (by have := HSt.out.path.old.size; omega)
     replace hgr := hgr.turned ht9 (.inr (by omega))
     clear hS q9 q7 hst h7 hlt
     go_wp2_with fail
     exact z04 rfl rfl rfl b9 yn (by rw [yf, yc]) ⟨rfl, hfin, hgr⟩
theorem zbv {P : Program} {w : World} {ops : Array Oper} {rest : List Oper} {o : Oper} {a : Act} {Q : Exit → Act → World → Prop} (hgd : o.guard = none) {t : TypeId} (ho : o.op = .alloc t) {z : Value} (hz : ∀ w, (zeroValue t).run P w = .ok z w) (hc : z.cells = #[z])
  (h : ∀ w' g, g = w.heap.size → Blk w' g t #[z] → Below w.heap.size w w' → g < w'.heap.size → wpList P ops Q rest (a.put o.dst (.pointer (some ⟨g, 0, none⟩))) w') : wpList P ops Q (o :: rest) a w :=
 wpList_plain hgd fun _ hK => z82 (z := z) ho (hz w) (hK _ _ (h _ _ rfl (by rw [hc]; exact Blk.new _ _ _) ((Below.refl _ _).alloc (Nat.le_refl _) _) (by rw [hc]; exact (Blk.new _ _ _).lt)))
theorem zok {nd : Nat → Nat → Nat} (h : ∀ a b, nd a b < 2 ^ 128) {leaf : Nat} (hl : leaf < 2 ^ 128) (i n : Nat) (p : Pth) : (z0v nd leaf i n p).1 < 2 ^ 128 := by
 rw [z0v]
 split
 ·split
  ·exact h _ _
  ·exact h _ _
 ·exact hl
def z6c (nd : Nat → Nat → Nat) (leaf : Nat) (i n : Int) (l : List Nat) (root : Nat) : Bool :=
 if 1 ≤ n ∧ n ≤ 1099511627776 ∧ 0 ≤ i ∧ i < n then z5p (decide ((z0v nd leaf i.toNat n.toNat ⟨l, false⟩).1 = root)) (z0v nd leaf i.toNat n.toNat ⟨l, false⟩).2 else false
theorem zgp (W : World) : (zeroValue 172).run Tryz.prog W = .ok (.pointer none) W := by kernel_rfl
theorem zx4 (W : World) : (zeroValue 177).run Tryz.prog W = .ok .nilFunc W := by kernel_rfl
theorem zed (A : Option Addr) (n c : Nat) (W : World) : (Instr.build 174 #[(0, .slice A n c)]).run Tryz.prog W = .ok (.agg #[.slice A n c, .bool false]) W := by kernel_rfl
theorem zn3 : (Tryz.prog.underlying 4).map z0g = some false := by kernel_rfl
theorem z65 {fn : Func} {p : Tmp} {tmps : Array Value} {w : World} {g : Nat} {b : Bool} (h : fn.results = #[.cell p 4]) (hp : tmps.getD p undef = .pointer (some ⟨g, 0, none⟩)) (hb : Blk w g 4 #[.bool b]) : (results fn tmps).run Tryz.prog w = .ok (.bool b) w := by
 have hc := hb.cell 0
 simp only [List.getElem?_toArray, List.getElem?_cons_zero] at hc
 have hp' : tmps[p]?.getD undef = .pointer (some ⟨g, 0, none⟩) := by simpa using hp
 simp [results, h, hp', asAddr, za0 w ⟨g, 0, none⟩ _ _ zn3 hc]
theorem z7l (w : World) (c1 c2 c3 : Array Value) (t1 t2 t3 : TypeId) : ∃ wa : World, wa = ((w.alloc (.cells c1 t1)).alloc (.cells c2 t2)).alloc (.cells c3 t3) ∧ Below w.heap.size w wa ∧ Blk wa w.heap.size t1 c1 ∧ Blk wa (w.heap.size + 1) t2 c2 ∧ Blk wa (w.heap.size + 1 + 1) t3 c3 ∧ wa.heap.size = w.heap.size + 1 + 1 + 1 := by
 refine ⟨_, rfl, (((Below.refl w.heap.size w).alloc (Nat.le_refl _) _).alloc (by simp) _).alloc (by simp; omega) _, ((Blk.new _ _ _).alloc _).alloc _, (Blk.new2 _ _ _ _).alloc _, ?_, by simp⟩
 have := Blk.new ((w.alloc (.cells c1 t1)).alloc (.cells c2 t2)) t3 c3
 simpa using this
theorem zf8 {P : Program} {fn : Func} {R : Ending → World → Prop} {tmps tmps' : Array Value} (h : results fn tmps = results fn tmps') : ∀ (ds : List Deferred) (u : FrameMode) (w : World), Leaves P fn tmps R ds u w → Leaves P fn tmps' R ds u w
 | [], .returning, w, ⟨v, h1, h2⟩ => ⟨v, by rw [← h]; exact h1, h2⟩
 | [], .panicking _, _, h1 => h1
 | [], .run, _, h1 => h1
 | d :: ds, u, w, ⟨hu, fv, cap, f, args, ht, hi, hc⟩ => ⟨hu, fv, cap, f, args, ht, hi, hc.mono fun e u' w' he => by
   cases e with
   | returned v => exact zf8 h ds _ _ he
   | panicked c => exact zf8 h ds _ _ he
   | outgrown => exact he⟩
theorem z8l {P : Program} {fn : Func} {R : Ending → World → Prop} {p d : Tmp} {ty : TypeId} (h : fn.results = #[.cell p ty]) (hd : d ≠ p) {c : List PanicEntry} {a : Act} {v : Value} {w : World}
  (hb : bodyPostD P fn R (.panic c) (a.put (some d) v) w) : bodyPostD P fn R (.panic c) a w := by
 refine zf8 ?_ _ _ _ hb
 have e : (a.put (some d) v).tmps.getD p undef = a.tmps.getD p undef := by
  simp [Act.put, hd]
 simp only [results, h, e, List.mapM_toArray, List.mapM_cons, List.mapM_nil]
def BIs (b : Bool) (w : World) (e : Ending) (w' : World) : Prop := e = .returned (.bool b) ∧ Below w.heap.size w w'
theorem zo8 {nd : Nat → Nat → Nat} {em : Nat} (N : Nds nd em) (leaf i n root : Nat) (l : List Nat) (A : Option Addr) (m c : Nat) (w : World) (hleaf : leaf < 2 ^ 128) (hroot : root < 2 ^ 128) (hn : n ≤ 1099511627776) (hi : i < n)
  (hm : m ≤ 1000000) (hr : RdD w A m l) (hmc : m ≤ c) (hcm : c ≤ maxLen) (hg : GCon w) :
  Calls Tryz.prog 94 #[dgV leaf, .int .i64 i, .int .i64 n, .slice A m c, dgV root] w (BIs (z5p (decide ((z0v nd leaf i n ⟨l, false⟩).1 = root)) (z0v nd leaf i n ⟨l, false⟩).2) w) := by
 have hmf : ∀ (fn : Fn) (first cap : Array Value) (w : World), (Instr.makeFunc fn first cap).run Tryz.prog w = .ok (.func fn first cap) w := fun _ _ _ _ => rfl
 have d0 : decide ((n : Int) < 1) = false := by simp; omega
 have d1 : decide ((n : Int) > 1099511627776) = false := by simp; omega
 have d2 : decide ((i : Int) < 0) = false := by simp
 have d3 : decide ((i : Int) ≥ (n : Int)) = false := by simp; omega
 have HI := ya (fun (gl gv gb gf : Nat) (hpos : z6t w gl gv gb gf) (W : World) (h : CkS w gl gv gb gf leaf 177 (F51 gl gv gf) ⟨l, false⟩ W) => zoi N w gl gv gb gf leaf hpos hg n i n ⟨l, false⟩ W (Nat.le_refl _) hn hi h)
 have hlt := zok N.lt hleaf i n ⟨l, false⟩
 have HQ := ya (fun W => zch hlt hroot W)
 have HP : Hid (∀ W gb, Below w.heap.size w W → w.heap.size ≤ gb → Blk W gb 174 #[.slice A m c, .bool false] → z2t w gb ⟨l, false⟩ W) := ya (fun W gb h1 h2 h3 => ⟨h1, h2, A, m, c, hr, hm, hmc, hcm, h3⟩)
 have HBP := ya (zed A m c)
 have HLF := ya (yc leaf)
 unfold zal at HI
 unfold BIs
 clear hr hg hlt hcm
 generalize (z0v nd leaf i n ⟨l, false⟩).1 = D at *
 generalize (z0v nd leaf i n ⟨l, false⟩).2 = Q at *
 generalize decide (D = root) = bq at *
 obtain ⟨wa, hwa, hba, ql, qr, qo, hsz⟩ := z7l w (dgC leaf) (dgC root) #[.bool false] 25 25 4
 have HWA := ya hwa
 have HSZ := ya hsz
 obtain ⟨gl, hgl⟩ : ∃ g, g = w.heap.size := ⟨_, rfl⟩
 obtain ⟨gr, hgr⟩ : ∃ g, g = w.heap.size + 1 := ⟨_, rfl⟩
 obtain ⟨go, hgo⟩ : ∃ g, g = w.heap.size + 1 + 1 := ⟨_, rfl⟩
 rw [← hgo] at qo
 rw [← hgr] at qr
 rw [← hgl] at ql
 have HG := ya (And.intro hgl (And.intro hgr hgo))
 clear hwa hsz hgl hgr hgo
 go_enter_defers Tryz.func94, Tryz.ntmps94
 go_upto_region 3 with (fail)
 change Code.wp _ _ _ _ (((w.alloc (.cells (dgC leaf) 25)).alloc (.cells (dgC root) 25)).alloc (.cells #[.bool false] 4))
 rw [← HWA.out, ← HG.out.2.2, ← HG.out.2.1, ← HG.out.1]
 clear HWA
 obtain ⟨w1, hw1, hb1, qb⟩ : ∃ w1 : World, w1 = wa.alloc (.cells #[.slice A m c, .bool false] 174) ∧ Below wa.heap.size wa w1 ∧ Blk w1 wa.heap.size 174 #[.slice A m c, .bool false] :=
  ⟨_, rfl, (Below.refl _ _).alloc (Nat.le_refl _) _, Blk.new _ _ _⟩
 have HW1 := ya hw1
 clear hw1
 go_upto_region 4 with (first
  | ((with_reducible show sl 29); refine z68 rfl rfl rfl HBP.out ?_)
  | ((with_reducible show sl 11); refine zbv rfl rfl zgp rfl ?_; intro w2 gv hgv qv hb2 lt2; rw [← HW1.out] at hgv hb2; have HGV := ya hgv; clear hgv)
  | ((with_reducible show sn); refine z1e (g := gv) (j := 0) (v := .pointer (some ⟨wa.heap.size, 0, none⟩)) (cs' := #[.pointer (some ⟨wa.heap.size, 0, none⟩)]) rfl rfl (by kernel_rfl) rfl rfl rfl qv (by simp) (by simp) ?_; intro w3 ht3 bv))
 have hsz1 : w1.heap.size = wa.heap.size + 1 := by rw [HW1.out]; simp
 have hgv := HGV.out
 have hgg := HG.out
 have hss := HSZ.out
 have hba3 : Below wa.heap.size wa w3 := (yb hb1 hb2).trans (ht3.below _ (by omega))
 have qb3 := ht3.blk (qb.below hb2) (by omega)
 replace ql := ql.below hba3
 replace qr := qr.below hba3
 replace qo := qo.below hba3
 have hbw := yb hba hba3
 have hw3 : w3.heap.size = w2.heap.size := ht3.size
 have hlt2 := hb2.size
 clear qb qv ht3 hb1 hb2 hba hba3 HW1
 obtain ⟨gb, hgb⟩ : ∃ g, g = wa.heap.size := ⟨_, rfl⟩
 rw [← hgb] at bv qb3
 have HB := ya (show (gl = w.heap.size ∧ gr = w.heap.size + 1 ∧ go = w.heap.size + 1 + 1) ∧ gb = w.heap.size + 1 + 1 + 1 ∧ gv = w.heap.size + 1 + 1 + 1 + 1 ∧ w.heap.size + 1 + 1 + 1 + 1 < w3.heap.size from ⟨hgg, by omega, by omega, by omega⟩)
 clear HG HSZ HGV hsz1 hgv hgg hss hw3 hlt2 lt2 hgb
 have cv := bv.cell 0
 simp only [List.getElem?_toArray, List.getElem?_cons_zero] at cv
 go_upto_region 7 with (first
  | ((with_reducible show sl 12); refine zbv rfl rfl zx4 rfl ?_; intro w4 gf hgf qf hb4 lt4; have HGF := ya hgf; clear hgf)
  | ((with_reducible show sn); refine z1e (g := gf) (j := 0) (v := F51 gl gv gf) (cs' := #[F51 gl gv gf]) rfl rfl (by kernel_rfl) rfl rfl rfl qf (by simp) (by simp) ?_; intro w5 ht5 bf))
 have hh := HB.out
 have hgf := HGF.out
 have hpos : z6t w gl gv gb gf := ⟨by omega, by omega, by omega, by omega, by omega, by omega, by omega⟩
 have hb35 : Below w3.heap.size w3 w5 := hb4.trans (ht5.below _ (by omega))
 have hbw5 := yb hbw hb35
 have hst0 : CkS w gl gv gb gf leaf 177 (F51 gl gv gf) ⟨l, false⟩ w5 := ⟨HP.out _ _ hbw5 (by omega) (qb3.below hb35), ql.below hb35, bv.below hb35, bf⟩
 have hst := hst0.below (Below.refl w5.heap.size w5).drew
 have qr5 := (qr.below hb35).below (Below.refl w5.heap.size w5).drew
 have qo5 := (qo.below hb35).below (Below.refl w5.heap.size w5).drew
 have hbwd := yb hbw5 (Below.refl w5.heap.size w5).drew
 have HI2 := ya (HI.out gl gv gb gf hpos)
 have HO := ya (show gr ≠ gb ∧ go ≠ gb ∧ go ≠ gr ∧ w.heap.size ≤ go ∧ w.heap.size ≤ gb from ⟨by omega, by omega, by omega, by omega, by omega⟩)
 clear hh hgf hpos hb35 hbw5 hst0 ql qr qo qb3 bv cv hb4 ht5 qf bf lt4 HGF HB hbw HI HP HBP
 have hS : Blk w5.drew gf 177 #[F51 gl gv gf] ∧ Blk w5.drew gr 25 (dgC root) := ⟨hst.fn, qr5⟩
 refine z2h (S := fun W => Blk W gf 177 #[F51 gl gv gf] ∧ Blk W gr 25 (dgC root)) 6 (by kernel_rfl) ?_
 refine WpT.take (i := 0) rfl (by kernel_rfl) (fun c a w h => z8l rfl (by decide) h) (z4d rfl rfl rfl (by kernel_rfl) (fun W h => h.1.cell 0)) (hS) ?_
 simp only [nrm]
 refine WpT.tq 1 rfl (fun c a w h => z8l rfl (by decide) h) (hS) ?_
 simp only [nrm]
 refine WpT.tq 2 rfl (fun c a w h => z8l rfl (by decide) h) (hS) ?_
 simp only [nrm]
 refine WpT.take (i := 4) rfl (by kernel_rfl) (fun c a w h => z8l rfl (by decide) h) (z4q rfl rfl rfl yn (by rw [yf, yc]) (fun W h => h.2)) (hS) ?_
 simp only [nrm]
 refine WpT.on 3 rfl (fun K hK => ?_)
 go_simp; refine (HI2.out _ hst).mono ?_; rintro e wC ⟨rfl, hst2, hgC⟩; replace qr5 := hgC.blk qr5 (by have := HO.out; simp; omega); replace qo5 := hgC.blk qo5 (by have := HO.out; simp; omega); replace hst := hst2; clear hst2; replace hS := And.intro hst.fn qr5; replace hbwd := hbwd.trans (hgC.below hbwd.size (by have := HO.out; simp; omega))
 refine hK _ _ hS ?_; clear hK K; try simp only [nrm]
 have hq := HQ.out
 refine WpT.tq 5 rfl (fun c a w h => z8l rfl (by decide) h) (hS) ?_
 simp only [nrm]
 refine WpT.ta 6 rfl (fun K hK => ?_)
 refine (if_pos (by rfl)).mpr ?_; refine z7e (j := 0) (v := .bool bq) (cs' := #[.bool bq]) rfl (by kernel_rfl) (by rfl) (by rfl) rfl qo5 (by simp) (by simp) ?_; intro w9 ht9 b9
 refine hK _ _ ?_; clear hK K; try simp only [nrm]
 refine WpT.done (by kernel_rfl) ?_ _
 skip
 have ho := HO.out
 have hp9 : z2t w gb Q w9 := hst.path.grew ((z08.refl [go] _).turned ht9 (.inl (by simp))) (by simp; omega) (by simp; omega)
 have hb9 := hbwd.trans (ht9.below _ (by omega))
 have hgo2 : w.heap.size ≤ go := ho.2.2.2.1
 clear hS qr5 qo5 hst ht9 ho hq hbwd
 go_wp2_with fail
 refine leaves_cons (f := 133) (args := #[.pointer (some ⟨gb, 0, none⟩), .pointer (some ⟨go, 0, none⟩)]) (by simp) (by simp [go_sem]) ?_
 refine (zdl bq Q w gb go .returning _ hp9 b9).mono ?_
 rintro e u' w'' ⟨rfl, rfl, hbS, hbel, _⟩
 exact ⟨_, z65 rfl rfl hbS, rfl, hb9.trans (hbel.mono hgo2)⟩
theorem zo7 (leaf root m c : Nat) (A : Option Addr) (i n : Int) (w : World) (h : ¬ (1 ≤ n ∧ n ≤ 1099511627776 ∧ 0 ≤ i ∧ i < n)) :
  Calls Tryz.prog 94 #[dgV leaf, .int .i64 i, .int .i64 n, .slice A m c, dgV root] w (BIs false w) := by
 obtain ⟨wa, hwa, hba, ql, qr, qo, hsz⟩ := z7l w (dgC leaf) (dgC root) #[.bool false] 25 25 4
 have HWA := ya hwa
 obtain ⟨go, hgo⟩ : ∃ g, g = w.heap.size + 1 + 1 := ⟨_, rfl⟩
 rw [← hgo] at qo
 have HGO := ya hgo
 clear hwa hsz hgo ql qr
 unfold BIs
 by_cases h0 : n < 1
 ·have d0 : decide (n < 1) = true := by simpa using h0
  go_enter Tryz.func94, Tryz.ntmps94
  go_upto_region 2 with (fail)
  change Code.wp _ _ _ _ (((w.alloc (.cells (dgC leaf) 25)).alloc (.cells (dgC root) 25)).alloc (.cells #[.bool false] 4))
  rw [← HWA.out, ← HGO.out]
  go_wp2_with ((with_reducible show sn); refine z1e (g := go) (j := 0) (v := .bool false) (cs' := #[.bool false]) rfl rfl (by kernel_rfl) rfl rfl rfl qo (by simp) (by simp) ?_; intro w9 ht9 b9)
  exact bodyPost_ret (z65 rfl rfl b9) rfl ⟨rfl, hba.trans (ht9.below _ (by have := HGO.out; omega))⟩
 ·have d0 : decide (n < 1) = false := by simpa using h0
  by_cases h1 : n > 1099511627776
  ·have d1 : decide (n > 1099511627776) = true := by simpa using h1
   go_enter Tryz.func94, Tryz.ntmps94
   go_upto_region 2 with (fail)
   change Code.wp _ _ _ _ (((w.alloc (.cells (dgC leaf) 25)).alloc (.cells (dgC root) 25)).alloc (.cells #[.bool false] 4))
   rw [← HWA.out, ← HGO.out]
   go_wp2_with ((with_reducible show sn); refine z1e (g := go) (j := 0) (v := .bool false) (cs' := #[.bool false]) rfl rfl (by kernel_rfl) rfl rfl rfl qo (by simp) (by simp) ?_; intro w9 ht9 b9)
   exact bodyPost_ret (z65 rfl rfl b9) rfl ⟨rfl, hba.trans (ht9.below _ (by have := HGO.out; omega))⟩
  ·have d1 : decide (n > 1099511627776) = false := by simpa using h1
   by_cases h2 : i < 0
   ·have d2 : decide (i < 0) = true := by simpa using h2
    go_enter Tryz.func94, Tryz.ntmps94
    go_upto_region 2 with (fail)
    change Code.wp _ _ _ _ (((w.alloc (.cells (dgC leaf) 25)).alloc (.cells (dgC root) 25)).alloc (.cells #[.bool false] 4))
    rw [← HWA.out, ← HGO.out]
    go_wp2_with ((with_reducible show sn); refine z1e (g := go) (j := 0) (v := .bool false) (cs' := #[.bool false]) rfl rfl (by kernel_rfl) rfl rfl rfl qo (by simp) (by simp) ?_; intro w9 ht9 b9)
    exact bodyPost_ret (z65 rfl rfl b9) rfl ⟨rfl, hba.trans (ht9.below _ (by have := HGO.out; omega))⟩
   ·have d2 : decide (i < 0) = false := by simpa using h2
    have d3 : decide (i ≥ n) = true := by simp; omega
    go_enter Tryz.func94, Tryz.ntmps94
    go_upto_region 2 with (fail)
    change Code.wp _ _ _ _ (((w.alloc (.cells (dgC leaf) 25)).alloc (.cells (dgC root) 25)).alloc (.cells #[.bool false] 4))
    rw [← HWA.out, ← HGO.out]
    go_wp2_with ((with_reducible show sn); refine z1e (g := go) (j := 0) (v := .bool false) (cs' := #[.bool false]) rfl rfl (by kernel_rfl) rfl rfl rfl qo (by simp) (by simp) ?_; intro w9 ht9 b9)
    exact bodyPost_ret (z65 rfl rfl b9) rfl ⟨rfl, hba.trans (ht9.below _ (by have := HGO.out; omega))⟩
theorem zo6 {nd : Nat → Nat → Nat} {em : Nat} (N : Nds nd em) (leaf root : Nat) (i n : Int) (l : List Nat) (A : Option Addr) (m c : Nat) (w : World) (hleaf : leaf < 2 ^ 128) (hroot : root < 2 ^ 128)
  (hm : m ≤ 1000000) (hr : RdD w A m l) (hmc : m ≤ c) (hcm : c ≤ maxLen) (hg : GCon w) :
  Calls Tryz.prog 94 #[dgV leaf, .int .i64 i, .int .i64 n, .slice A m c, dgV root] w (BIs (z6c nd leaf i n l root) w) := by
 unfold z6c
 by_cases h : 1 ≤ n ∧ n ≤ 1099511627776 ∧ 0 ≤ i ∧ i < n
 ·rw [if_pos h]
  obtain ⟨k, rfl⟩ : ∃ k : Nat, i = k := ⟨i.toNat, by omega⟩
  obtain ⟨N', rfl⟩ : ∃ k : Nat, n = k := ⟨n.toNat, by omega⟩
  exact zo8 N leaf k N' root l A m c w hleaf hroot (by omega) (by omega) hm hr hmc hcm hg
 ·rw [if_neg h]
  exact zo7 leaf root m c A i n w h
theorem zdg {P : Program} {fn : Func} {R : Ending → World → Prop} {a : Act} {w : World} {g h : Nat} {t s : TypeId} {cs ds : Array Value} {p q : Tmp} {ty tz : TypeId}
  (hf : fn.results = #[.cell p ty, .cell q tz]) (hd : a.defers = []) (hp : a.tmps.getD p undef = .pointer (some ⟨g, 0, none⟩)) (hq : a.tmps.getD q undef = .pointer (some ⟨h, 0, none⟩)) (hb : Blk w g t cs) (hc : Blk w h s ds)
  (hu : (P.underlying ty).map z0g = some true) (hi : (P.info? ty).map (·.size) = some cs.size) (hu2 : (P.underlying tz).map z0g = some true) (hi2 : (P.info? tz).map (·.size) = some ds.size) (hR : R (.returned (.tuple #[.agg cs, .agg ds])) w) : bodyPost P fn R .ret a w := by
 refine bodyPost_ret ?_ hd hR
 have hp' : a.tmps[p]?.getD undef = .pointer (some ⟨g, 0, none⟩) := by simpa using hp
 have hq' : a.tmps[q]?.getD undef = .pointer (some ⟨h, 0, none⟩) := by simpa using hq
 simp [results, hf, hp', hq', asAddr, z5o w g t ty cs hb hu hi, z5o w h s tz ds hc hu2 hi2]
abbrev F53 (gl gv gf : Nat) : Value := fnV 137 [gl, gv, gf]
def z8w (r : Nat × Nat × Pth) (w0 : World) (gl gv gb gf old : Nat) (F : Value) (w : World) (e : Ending) (w' : World) : Prop := e = .returned (.tuple #[dgV r.1, dgV r.2.1]) ∧ CkS w0 gl gv gb gf old 181 F r.2.2 w' ∧ z08 [gb] w w'
theorem zoe (w0 : World) (gl gv gb gf old : Nat) (hpos : z6t w0 gl gv gb gf) (n : Nat) (mark : Bool) (p : Pth) (w : World) (hs : CkS w0 gl gv gb gf old 181 (F53 gl gv gf) p w) :
  Calls Tryz.prog 137 #[.int .i64 n, .int .i64 n, .bool mark, .pointer (some ⟨gl, 0, none⟩), .pointer (some ⟨gv, 0, none⟩), .pointer (some ⟨gf, 0, none⟩)] w
   (z8w (if mark then (old, old, p) else (p.last.1, p.last.1, p.last.2)) w0 gl gv gb gf old (F53 gl gv gf) w) := by
 have e1 : ((n : Int) == n) = true := by simp
 have HPOS := ya hpos
 have HLT := ya (And.intro hs.lt hs.path.old.size)
 have HSt := ya hs
 have HL1 := ya (fun (W : World) (h : z2t w0 gb p W) => zcs p w0 gb W h)
 unfold z86 at HL1
 unfold z8w
 cases mark with
 | true =>
  show Calls _ _ _ _ fun e w' => e = .returned (.tuple #[dgV old, dgV old]) ∧ CkS w0 gl gv gb gf old 181 (F53 gl gv gf) p w' ∧ z08 [gb] w w'
  clear hs hpos HL1
  generalize F53 gl gv gf = F at *
  go_enter Tryz.func137, Tryz.ntmps137
  go_upto_region 2 with (first
   | ((with_reducible show sl 9); refine z1a (cs := dgC 0) rfl rfl z0q ?_; intro w1 g9 hg9 q9 hb1 lt9; have HG9 := ya hg9; clear hg9)
   | ((with_reducible show sl 10); refine z1a (cs := dgC 0) rfl rfl z0q ?_; intro w2 g10 hg10 q10 hb2 lt10; have HG10 := ya hg10; clear hg10))
  have hst := (HSt.out.below hb1).below hb2
  have ql := hst.leaf
  go_upto_region 5 with (first
   | ((with_reducible show sl 21); refine z16 rfl rfl rfl ql yn (by rw [yf, yc]) ?_)
   | ((with_reducible show sl 11); refine z1a (cs := dgC 0) rfl rfl z0q ?_; intro w3 g11 hg11 q11 hb3 lt11; have HG11 := ya hg11; clear hg11)
   | ((with_reducible show sn); refine z09 (vs := dgC old) rfl rfl rfl rfl q11 (by rw [yc, yc]) (by rw [yf, yc]) (z0d _) ?_; intro w4 ht4 b11))
  have HH := ya (show w.heap.size ≤ g9 ∧ g9 < g10 ∧ g10 < g11 from ⟨by have := HG9.out; omega, by have := HG10.out; omega, by have := HG11.out; have := hb2.size; omega⟩)
  replace hst := (hst.below hb3).other HPOS.out ht4 (by have := HLT.out; have := HH.out; omega) (by have := HLT.out; have := HH.out; omega) (by have := HLT.out; have := HH.out; omega) (by have := HLT.out; have := HH.out; omega) (by have := HLT.out; have := HH.out; omega)
  have hgr : z08 [gb] w w4.drew := ((((z08.of_below hb1).later hb2).later hb3).turned ht4 (.inr (by have := HH.out; omega))).later (Below.refl _ _).drew
  replace q9 := (ht4.blk ((q9.below hb2).below hb3) (by have := HH.out; omega)).below (Below.refl w4.heap.size w4).drew
  replace q10 := (ht4.blk (q10.below hb3) (by have := HH.out; omega)).below (Below.refl w4.heap.size w4).drew
  replace hst := hst.below (Below.refl _ _).drew
  have hS := b11.below (Below.refl w4.heap.size w4).drew
  clear b11 q11 ht4 hb1 hb2 hb3 ql HG9 HG10 HG11 lt9 lt10 lt11
  refine z2h (S := fun W => Blk W g11 25 (dgC old)) 3 (by kernel_rfl) ?_
  refine WpT.tl 0 rfl (z4q rfl rfl rfl yn (by rw [yf, yc]) (fun W h => h)) hS ?_
  simp only [nrm]
  refine WpT.tl 1 rfl (z4q rfl rfl rfl yn (by rw [yf, yc]) (fun W h => h)) hS ?_
  simp only [nrm]
  refine WpT.on 2 rfl (fun K hK => ?_)
  refine (if_pos (by rfl)).mpr ?_; refine yy (vs := dgC old) rfl rfl rfl q9 (by rw [yc, yc]) (by rw [yf, yc]) (z0d _) ?_; intro wA htA bA; replace hS := htA.blk hS (by have := HH.out; omega); replace q10 := htA.blk q10 (by have := HH.out; omega)
  refine hK _ _ hS ?_; clear hK K; try simp only [nrm]
  refine WpT.ta 3 rfl (fun K hK => ?_)
  refine (if_pos (by rfl)).mpr ?_; refine yy (vs := dgC old) rfl rfl rfl q10 (by rw [yc, yc]) (by rw [yf, yc]) (z0d _) ?_; intro wB htB bB
  refine hK _ _ ?_; clear hK K; try simp only [nrm]
  refine WpT.done (by kernel_rfl) ?_ _
  skip
  have hh := HH.out
  have hlt := HLT.out
  have bA2 := htB.blk bA (by omega)
  have hfin := (hst.other HPOS.out htA (by omega) (by omega) (by omega) (by omega) (by omega)).other HPOS.out htB (by omega) (by omega) (by omega) (by omega) (by omega)
  have hgr9 := (hgr.turned htA (.inr (by omega))).turned htB (.inr (by omega))
  clear hh hlt hst hgr htA htB hS bA q9 q10
  go_wp2_with fail
  exact zdg rfl rfl rfl rfl bA2 bB yn (by rw [yf, yc]) yn (by rw [yf, yc]) ⟨rfl, hfin, hgr9⟩
 | false =>
  show Calls _ _ _ _ fun e w' => e = .returned (.tuple #[dgV p.last.1, dgV p.last.1]) ∧ CkS w0 gl gv gb gf old 181 (F53 gl gv gf) p.last.2 w' ∧ z08 [gb] w w'
  clear hs hpos
  generalize p.last.1 = X at *
  generalize p.last.2 = P1 at *
  generalize F53 gl gv gf = F at *
  go_enter Tryz.func137, Tryz.ntmps137
  go_upto_region 2 with (first
   | ((with_reducible show sl 9); refine z1a (cs := dgC 0) rfl rfl z0q ?_; intro w1 g9 hg9 q9 hb1 lt9; have HG9 := ya hg9; clear hg9)
   | ((with_reducible show sl 10); refine z1a (cs := dgC 0) rfl rfl z0q ?_; intro w2 g10 hg10 q10 hb2 lt10; have HG10 := ya hg10; clear hg10))
  have hst := (HSt.out.below hb1).below hb2
  have ql := hst.leaf
  go_upto_region 3 with (first
   | ((with_reducible show sl 21); refine z16 rfl rfl rfl ql yn (by rw [yf, yc]) ?_)
   | ((with_reducible show sl 11); refine z1a (cs := dgC 0) rfl rfl z0q ?_; intro w3 g11 hg11 q11 hb3 lt11; have HG11 := ya hg11; clear hg11)
   | ((with_reducible show sn); refine z09 (vs := dgC old) rfl rfl rfl rfl q11 (by rw [yc, yc]) (by rw [yf, yc]) (z0d _) ?_; intro w4 ht4 b11))
  have HH := ya (show w.heap.size ≤ g9 ∧ g9 < g10 ∧ g10 < g11 from ⟨by have := HG9.out; omega, by have := HG10.out; omega, by have := HG11.out; have := hb2.size; omega⟩)
  replace hst := (hst.below hb3).other HPOS.out ht4 (by have := HLT.out; have := HH.out; omega) (by have := HLT.out; have := HH.out; omega) (by have := HLT.out; have := HH.out; omega) (by have := HLT.out; have := HH.out; omega) (by have := HLT.out; have := HH.out; omega)
  have hgr : z08 [gb] w w4 := (((z08.of_below hb1).later hb2).later hb3).turned ht4 (.inr (by have := HH.out; omega))
  replace q9 := ht4.blk ((q9.below hb2).below hb3) (by have := HH.out; omega)
  replace q10 := ht4.blk (q10.below hb3) (by have := HH.out; omega)
  clear q11 ht4 hb1 hb2 hb3 ql HG9 HG10 HG11 lt9 lt10 lt11
  have cv := hst.pv.cell 0
  simp only [List.getElem?_toArray, List.getElem?_cons_zero] at cv
  go_upto_region 4 with (fail)
  go_wp2_with fail
  refine (HL1.out _ hst.path).mono ?_
  rintro e w5 ⟨rfl, hpl, hgl⟩
  replace hst := hst.went HPOS.out hgl hpl
  replace q9 := hgl.blk q9 (by have := HH.out; have := HLT.out; simp; omega)
  replace q10 := hgl.blk q10 (by have := HH.out; have := HLT.out; simp; omega)
  replace b11 := hgl.blk b11 (by have := HH.out; have := HLT.out; simp; omega)
  replace hgr := hgr.trans hgl
  clear cv hpl hgl
  go_upto_region 5 with ((with_reducible show sn); refine z09 (vs := dgC X) rfl rfl rfl rfl b11 (by rw [yc, yc]) (by rw [yf, yc]) (z0d _) ?_; intro w6 ht6 c11)
  replace hst := (hst.other HPOS.out ht6 (by have := HLT.out; have := HH.out; omega) (by have := HLT.out; have := HH.out; omega) (by have := HLT.out; have := HH.out; omega) (by have := HLT.out; have := HH.out; omega) (by have := HLT.out; have := HH.out; omega)).below (Below.refl _ _).drew
  replace hgr := (hgr.turned ht6 (.inr (by have := HH.out; omega))).later (Below.refl _ _).drew
  replace q9 := (ht6.blk q9 (by have := HH.out; omega)).below (Below.refl w6.heap.size w6).drew
  replace q10 := (ht6.blk q10 (by have := HH.out; omega)).below (Below.refl w6.heap.size w6).drew
  have hS := c11.below (Below.refl w6.heap.size w6).drew
  clear b11 ht6 c11
  refine z2h (S := fun W => Blk W g11 25 (dgC X)) 3 (by kernel_rfl) ?_
  refine WpT.tl 0 rfl (z4q rfl rfl rfl yn (by rw [yf, yc]) (fun W h => h)) hS ?_
  simp only [nrm]
  refine WpT.tl 1 rfl (z4q rfl rfl rfl yn (by rw [yf, yc]) (fun W h => h)) hS ?_
  simp only [nrm]
  refine WpT.on 2 rfl (fun K hK => ?_)
  refine (if_pos (by rfl)).mpr ?_; refine yy (vs := dgC X) rfl rfl rfl q9 (by rw [yc, yc]) (by rw [yf, yc]) (z0d _) ?_; intro wA htA bA; replace hS := htA.blk hS (by have := HH.out; omega); replace q10 := htA.blk q10 (by have := HH.out; omega)
  refine hK _ _ hS ?_; clear hK K; try simp only [nrm]
  refine WpT.ta 3 rfl (fun K hK => ?_)
  refine (if_pos (by rfl)).mpr ?_; refine yy (vs := dgC X) rfl rfl rfl q10 (by rw [yc, yc]) (by rw [yf, yc]) (z0d _) ?_; intro wB htB bB
  refine hK _ _ ?_; clear hK K; try simp only [nrm]
  refine WpT.done (by kernel_rfl) ?_ _
  skip
  have hh := HH.out
  have hlt := HLT.out
  have bA2 := htB.blk bA (by omega)
  have hfin := (hst.other HPOS.out htA (by omega) (by omega) (by omega) (by omega) (by omega)).other HPOS.out htB (by omega) (by omega) (by omega) (by omega) (by omega)
  have hgr9 := (hgr.turned htA (.inr (by omega))).turned htB (.inr (by omega))
  clear hh hlt hst hgr htA htB hS bA q9 q10
  go_wp2_with fail
  exact zdg rfl rfl rfl rfl bA2 bB yn (by rw [yf, yc]) yn (by rw [yf, yc]) ⟨rfl, hfin, hgr9⟩
theorem zoc {nd : Nat → Nat → Nat} {em : Nat} (N : Nds nd em) (w0 : World) (gl gv gb gf old : Nat) (hpos : z6t w0 gl gv gb gf) (hg : GCon w0) (K : Nat) : ∀ (m n : Nat) (mark : Bool) (p : Pth) (w : World), n ≤ K → n ≤ 1099511627776 → 1 ≤ m → m ≤ n →
  CkS w0 gl gv gb gf old 181 (F53 gl gv gf) p w →
  Calls Tryz.prog 137 #[.int .i64 m, .int .i64 n, .bool mark, .pointer (some ⟨gl, 0, none⟩), .pointer (some ⟨gv, 0, none⟩), .pointer (some ⟨gf, 0, none⟩)] w
   (z8w (z0i nd old m n mark p) w0 gl gv gb gf old (F53 gl gv gf) w) := by
 induction K with
 | zero => intro m n mark p w hK hn hm hmn; omega
 | succ K ih =>
  intro m n mark p w hK hn hm hmn hs
  by_cases h1 : m = n
  ·subst h1
   have := zoe w0 gl gv gb gf old hpos m mark p w hs
   cases mark with
   | true => rw [zek]; exact this
   | false => rw [zce]; exact this
  ·replace hmn : m < n := by omega
   have hk1 := Merk.split_lt (n := n) (by omega)
   have hk0 := Merk.split_pos n
   have HS := ya (fun W => zbo n W (by omega) hn)
   have HSt := ya hs
   have HLT := ya (And.intro hs.lt hs.path.old.size)
   have HPOS := ya hpos
   have HG := ya hg
   have e1 : ((m : Int) == n) = false := by simp; omega
   by_cases hmk : m ≤ Merk.split n
   ·
    rw [z97 nd old mark p hmn hm hmk]
    have HI := ya (fun (W : World) (h : CkS w0 gl gv gb gf old 181 (F53 gl gv gf) p.last.2 W) => ih m (Merk.split n) mark p.last.2 W (by omega) (by omega) hm hmk h)
    have HL1 := ya (fun (W : World) (h : z2t w0 gb p W) => zcs p w0 gb W h)
    unfold z8w at HI ⊢
    unfold z86 at HL1
    have HN := ya (fun (W : World) (h : GCon W) => N.node (z0i nd old m (Merk.split n) mark p.last.2).2.1 p.last.1 W h)
    show Calls _ _ _ _ fun e w' => e = .returned (.tuple #[dgV (z0i nd old m (Merk.split n) mark p.last.2).1, dgV (nd (z0i nd old m (Merk.split n) mark p.last.2).2.1 p.last.1)]) ∧ CkS w0 gl gv gb gf old 181 (F53 gl gv gf) (z0i nd old m (Merk.split n) mark p.last.2).2.2 w' ∧ z08 [gb] w w'
    clear ih hs hpos hg
    generalize nd (z0i nd old m (Merk.split n) mark p.last.2).2.1 p.last.1 = Z at *
    generalize (z0i nd old m (Merk.split n) mark p.last.2).1 = D at *
    generalize (z0i nd old m (Merk.split n) mark p.last.2).2.1 = E at *
    generalize (z0i nd old m (Merk.split n) mark p.last.2).2.2 = Q at *
    generalize p.last.1 = X at *
    generalize p.last.2 = P1 at *
    generalize Merk.split n = k at *
    generalize hF : F53 gl gv gf = F at *
    have HF := ya hF.symm
    clear hF
    have hmk2 : (m : Int) ≤ (k : Int) := by omega
    go_enter Tryz.func137, Tryz.ntmps137
    go_upto_region 6 with (first
     | ((with_reducible show sl 9); refine z1a (cs := dgC 0) rfl rfl z0q ?_; intro w1 g9 hg9 q9 hb1 lt9; have HG9 := ya hg9; clear hg9)
     | ((with_reducible show sl 10); refine z1a (cs := dgC 0) rfl rfl z0q ?_; intro w2 g10 hg10 q10 hb2 lt10; have HG10 := ya hg10; clear hg10))
    have HH := ya (show w.heap.size ≤ g9 ∧ g9 < g10 from ⟨by have := HG9.out; omega, by have := HG10.out; omega⟩)
    have hst := (HSt.out.below hb1).below hb2
    have hgr : z08 [gb] w w2 := (z08.of_below hb1).later hb2
    replace q9 := q9.below hb2
    clear hb1 hb2 HG9 HG10 lt9 lt10
    go_cut [12, 13] from 28 to 31 (fun v8 v9 W => ∃ g13, v9 = .pointer (some ⟨g13, 0, none⟩) ∧ v8 = .int .i64 k ∧ CkS w0 gl gv gb gf old 181 F P1 W ∧ Blk W g9 25 (dgC 0) ∧ Blk W g10 25 (dgC 0) ∧ Blk W g13 25 (dgC X) ∧ z08 [gb] w W ∧ g10 < g13)
    case first =>
     replace hst := hst.below (Below.refl w2.heap.size w2).drew
     replace hgr := hgr.later (Below.refl w2.heap.size w2).drew
     replace q9 := q9.below (Below.refl w2.heap.size w2).drew
     replace q10 := q10.below (Below.refl w2.heap.size w2).drew
     have hpv := hst.pv
     refine z2h (S := fun W => Blk W gv 172 #[.pointer (some ⟨gb, 0, none⟩)]) 6 (by kernel_rfl) ?_
     refine WpT.tk 0 hpv ?_
     simp only [nrm]
     refine WpT.tl 2 rfl (z4d rfl rfl rfl (by kernel_rfl) (fun W h => h.cell 0)) hpv ?_
     simp only [nrm]
     refine WpT.fork (i := 1) (j := 4) rfl rfl (by kernel_rfl) (fun K hK => ?_) (fun K hK => ?_)
     ·go_simp; refine (HS.out _).mono ?_; rintro e wS ⟨rfl, rfl⟩
      refine hK _ _ hpv ?_; clear hK K; try simp only [nrm]
      refine WpT.fork (i := 3) (j := 4) rfl rfl (by kernel_rfl) (fun K hK => ?_) (fun K hK => ?_)
      ·go_simp; refine (HL1.out _ hst.path).mono ?_; rintro e wL ⟨rfl, hpl, hgl⟩; replace hst := hst.went HPOS.out hgl hpl; replace q9 := hgl.blk q9 (by have := HH.out; have := HLT.out; simp; omega); replace q10 := hgl.blk q10 (by have := HH.out; have := HLT.out; simp; omega); (try replace q13 := hgl.blk q13 (by have := H13.out; have := HH.out; have := HLT.out; simp; omega)); replace hgr := hgr.trans hgl; replace hpv := hst.pv
       refine hK _ _ hpv ?_; clear hK K; try simp only [nrm]
       refine WpT.on 4 rfl (fun K hK => ?_)
       refine (if_pos (by rfl)).mpr ?_; refine z5u (cs := dgC 0) rfl z0q ?_; intro wN g13 hg13 q13 hbN lt13; have H13 := ya (show g10 < g13 from by have := q10.lt; omega); clear hg13; replace hst := hst.below hbN; replace q9 := q9.below hbN; replace q10 := q10.below hbN; replace hgr := hgr.later hbN; replace hpv := hst.pv
       refine hK _ _ hpv ?_; clear hK K; try simp only [nrm]
       refine WpT.on 5 rfl (fun K hK => ?_)
       go_simp; (try go_bits)
       refine hK _ _ hpv ?_; clear hK K; try simp only [nrm]
       refine WpT.ta 6 rfl (fun K hK => ?_)
       refine (if_pos (by rfl)).mpr ?_; refine yy (vs := dgC X) rfl rfl rfl q13 (by rw [yc, yc]) (by rw [yf, yc]) (z0d _) ?_; intro wP htP bP
       refine hK _ _ ?_; clear hK K; try simp only [nrm]
       refine WpT.done (by kernel_rfl) ?_ _
       have h9 := H13.out; have hlt := HLT.out; have h7 := HH.out; replace hst := hst.other HPOS.out htP (by omega) (by omega) (by omega) (by omega) (by omega); replace q9 := htP.blk q9 (by omega); replace q10 := htP.blk q10 (by omega); replace hgr := hgr.turned htP (.inr (by omega)); clear h7 hlt; go_wp2_with fail; go_meet; exact ⟨g13, rfl, rfl, hst, q9, q10, bP, hgr, h9⟩
      ·refine (if_pos (by rfl)).mpr ?_; refine z5u (cs := dgC 0) rfl z0q ?_; intro wN g13 hg13 q13 hbN lt13; have H13 := ya (show g10 < g13 from by have := q10.lt; omega); clear hg13; replace hst := hst.below hbN; replace q9 := q9.below hbN; replace q10 := q10.below hbN; replace hgr := hgr.later hbN; replace hpv := hst.pv
       refine hK _ _ hpv ?_; clear hK K; try simp only [nrm]
       refine WpT.on 3 rfl (fun K hK => ?_)
       go_simp; refine (HL1.out _ hst.path).mono ?_; rintro e wL ⟨rfl, hpl, hgl⟩; replace hst := hst.went HPOS.out hgl hpl; replace q9 := hgl.blk q9 (by have := HH.out; have := HLT.out; simp; omega); replace q10 := hgl.blk q10 (by have := HH.out; have := HLT.out; simp; omega); (try replace q13 := hgl.blk q13 (by have := H13.out; have := HH.out; have := HLT.out; simp; omega)); replace hgr := hgr.trans hgl; replace hpv := hst.pv
       refine hK _ _ hpv ?_; clear hK K; try simp only [nrm]
       refine WpT.on 5 rfl (fun K hK => ?_)
       go_simp; (try go_bits)
       refine hK _ _ hpv ?_; clear hK K; try simp only [nrm]
       refine WpT.ta 6 rfl (fun K hK => ?_)
       refine (if_pos (by rfl)).mpr ?_; refine yy (vs := dgC X) rfl rfl rfl q13 (by rw [yc, yc]) (by rw [yf, yc]) (z0d _) ?_; intro wP htP bP
       refine hK _ _ ?_; clear hK K; try simp only [nrm]
       refine WpT.done (by kernel_rfl) ?_ _
       have h9 := H13.out; have hlt := HLT.out; have h7 := HH.out; replace hst := hst.other HPOS.out htP (by omega) (by omega) (by omega) (by omega) (by omega); replace q9 := htP.blk q9 (by omega); replace q10 := htP.blk q10 (by omega); replace hgr := hgr.turned htP (.inr (by omega)); clear h7 hlt; go_wp2_with fail; go_meet; exact ⟨g13, rfl, rfl, hst, q9, q10, bP, hgr, h9⟩
     ·refine (if_pos (by rfl)).mpr ?_; refine z5u (cs := dgC 0) rfl z0q ?_; intro wN g13 hg13 q13 hbN lt13; have H13 := ya (show g10 < g13 from by have := q10.lt; omega); clear hg13; replace hst := hst.below hbN; replace q9 := q9.below hbN; replace q10 := q10.below hbN; replace hgr := hgr.later hbN; replace hpv := hst.pv
      refine hK _ _ hpv ?_; clear hK K; try simp only [nrm]
      refine WpT.on 1 rfl (fun K hK => ?_)
      go_simp; refine (HS.out _).mono ?_; rintro e wS ⟨rfl, rfl⟩
      refine hK _ _ hpv ?_; clear hK K; try simp only [nrm]
      refine WpT.on 3 rfl (fun K hK => ?_)
      go_simp; refine (HL1.out _ hst.path).mono ?_; rintro e wL ⟨rfl, hpl, hgl⟩; replace hst := hst.went HPOS.out hgl hpl; replace q9 := hgl.blk q9 (by have := HH.out; have := HLT.out; simp; omega); replace q10 := hgl.blk q10 (by have := HH.out; have := HLT.out; simp; omega); (try replace q13 := hgl.blk q13 (by have := H13.out; have := HH.out; have := HLT.out; simp; omega)); replace hgr := hgr.trans hgl; replace hpv := hst.pv
      refine hK _ _ hpv ?_; clear hK K; try simp only [nrm]
      refine WpT.on 5 rfl (fun K hK => ?_)
      go_simp; (try go_bits)
      refine hK _ _ hpv ?_; clear hK K; try simp only [nrm]
      refine WpT.ta 6 rfl (fun K hK => ?_)
      refine (if_pos (by rfl)).mpr ?_; refine yy (vs := dgC X) rfl rfl rfl q13 (by rw [yc, yc]) (by rw [yf, yc]) (z0d _) ?_; intro wP htP bP
      refine hK _ _ ?_; clear hK K; try simp only [nrm]
      refine WpT.done (by kernel_rfl) ?_ _
      have h9 := H13.out; have hlt := HLT.out; have h7 := HH.out; replace hst := hst.other HPOS.out htP (by omega) (by omega) (by omega) (by omega) (by omega); replace q9 := htP.blk q9 (by omega); replace q10 := htP.blk q10 (by omega); replace hgr := hgr.turned htP (.inr (by omega)); clear h7 hlt; go_wp2_with fail; go_meet; exact ⟨g13, rfl, rfl, hst, q9, q10, bP, hgr, h9⟩
    case rest =>
     clear hst hgr q9 q10
     obtain ⟨g13, rfl, rfl, hst, q9, q10, q13, hgr, h13⟩ := hcut
     have H13 := ya h13
     clear h13
     have cf := hst.fn.cell 0
     simp only [List.getElem?_toArray, List.getElem?_cons_zero] at cf
     rw [HF.out] at cf
     go_upto_region 8 with (fail)
     go_wp2_with fail
     refine (HI.out _ hst).mono ?_
     rintro e w5 ⟨rfl, hst2, hgC⟩
     replace q9 := hgC.blk q9 (by have := HH.out; have := HLT.out; simp; omega)
     replace q10 := hgC.blk q10 (by have := HH.out; have := HLT.out; simp; omega)
     replace q13 := hgC.blk q13 (by have := HH.out; have := H13.out; have := HLT.out; simp; omega)
     replace hgr := hgr.trans hgC
     clear hst cf hgC
     go_upto_region 9 with (first
      | ((with_reducible show sl 14); refine z1a (cs := dgC 0) rfl rfl z0q ?_; intro w6 g14 hg14 q14 hb6 lt14; have HG14 := ya hg14; clear hg14)
      | ((with_reducible show sl 15); refine z1a (cs := dgC 0) rfl rfl z0q ?_; intro w7 g15 hg15 q15 hb7 lt15; have HG15 := ya hg15; clear hg15; replace q14 := q14.below hb7)
      | ((with_reducible show sn); refine z09 (vs := dgC D) rfl rfl rfl rfl q14 (by rw [yc, yc]) (by rw [yf, yc]) (z0d _) ?_; intro w8 ht8 b14; replace q15 := ht8.blk q15 (by have := HG15.out; omega))
      | ((with_reducible show sn); refine z09 (vs := dgC E) rfl rfl rfl rfl q15 (by rw [yc, yc]) (by rw [yf, yc]) (z0d _) ?_; intro w9 ht9 b15; replace b14 := ht9.blk b14 (by have := HG15.out; omega)))
     have H14 := ya (show g13 < g14 ∧ g14 < g15 from ⟨by have := HG14.out; have := q13.lt; omega, by have := HG15.out; omega⟩)
     replace hst2 := (((hst2.below hb6).below hb7).other HPOS.out ht8 (by have := H14.out; have := H13.out; have := HH.out; have := HLT.out; omega) (by have := H14.out; have := H13.out; have := HH.out; have := HLT.out; omega) (by have := H14.out; have := H13.out; have := HH.out; have := HLT.out; omega) (by have := H14.out; have := H13.out; have := HH.out; have := HLT.out; omega) (by have := H14.out; have := H13.out; have := HH.out; have := HLT.out; omega)).other HPOS.out ht9 (by have := H14.out; have := H13.out; have := HH.out; have := HLT.out; omega) (by have := H14.out; have := H13.out; have := HH.out; have := HLT.out; omega) (by have := H14.out; have := H13.out; have := HH.out; have := HLT.out; omega) (by have := H14.out; have := H13.out; have := HH.out; have := HLT.out; omega) (by have := H14.out; have := H13.out; have := HH.out; have := HLT.out; omega)
     replace hst2 := hst2.below (Below.refl w9.heap.size w9).drew
     replace hgr := ((((hgr.later hb6).later hb7).turned ht8 (.inr (by have := H14.out; have := H13.out; have := HH.out; omega))).turned ht9 (.inr (by have := H14.out; have := H13.out; have := HH.out; omega))).later (Below.refl w9.heap.size w9).drew
     replace q9 := (ht9.blk (ht8.blk ((q9.below hb6).below hb7) (by have := H14.out; have := H13.out; have := HH.out; omega)) (by have := H14.out; have := H13.out; have := HH.out; omega)).below (Below.refl w9.heap.size w9).drew
     replace q10 := (ht9.blk (ht8.blk ((q10.below hb6).below hb7) (by have := H14.out; have := H13.out; omega)) (by have := H14.out; have := H13.out; omega)).below (Below.refl w9.heap.size w9).drew
     replace q13 := (ht9.blk (ht8.blk ((q13.below hb6).below hb7) (by have := H14.out; omega)) (by have := H14.out; omega)).below (Below.refl w9.heap.size w9).drew
     replace b14 := b14.below (Below.refl w9.heap.size w9).drew
     replace b15 := b15.below (Below.refl w9.heap.size w9).drew
     clear q14 q15 ht8 ht9 hb6 hb7 HG14 HG15 lt14 lt15
     have hS := And.intro q13 (And.intro b14 b15)
     refine z2h (S := fun W => Blk W g13 25 (dgC X) ∧ Blk W g14 25 (dgC D) ∧ Blk W g15 25 (dgC E)) 5 (by kernel_rfl) ?_
     refine WpT.tl 0 rfl (z4q rfl rfl rfl yn (by rw [yf, yc]) (fun W h => h.2.1)) hS ?_
     simp only [nrm]
     refine WpT.tl 1 rfl (z4q rfl rfl rfl yn (by rw [yf, yc]) (fun W h => h.2.2)) hS ?_
     simp only [nrm]
     refine WpT.tl 2 rfl (z4q rfl rfl rfl yn (by rw [yf, yc]) (fun W h => h.1)) hS ?_
     simp only [nrm]
     refine WpT.on 3 rfl (fun K hK => ?_)
     go_simp; refine (HN.out _ (HG.out.below hst2.path.old)).mono ?_; rintro e wM ⟨rfl, hbM⟩; replace hst2 := hst2.below hbM; replace q9 := q9.below hbM; replace q10 := q10.below hbM; replace hgr := hgr.later hbM; replace hS := And.intro (hS.1.below hbM) (And.intro (hS.2.1.below hbM) (hS.2.2.below hbM))
     refine hK _ _ hS ?_; clear hK K; try simp only [nrm]
     refine WpT.on 4 rfl (fun K hK => ?_)
     refine (if_pos (by rfl)).mpr ?_; refine yy (vs := dgC D) rfl rfl rfl q9 (by rw [yc, yc]) (by rw [yf, yc]) (z0d _) ?_; intro wA htA bA; replace hS := And.intro (htA.blk hS.1 (by have := H14.out; have := H13.out; have := HH.out; omega)) (And.intro (htA.blk hS.2.1 (by have := H14.out; have := H13.out; have := HH.out; omega)) (htA.blk hS.2.2 (by have := H14.out; have := H13.out; have := HH.out; omega))); replace q10 := htA.blk q10 (by have := H14.out; have := H13.out; have := HH.out; omega)
     refine hK _ _ hS ?_; clear hK K; try simp only [nrm]
     refine WpT.ta 5 rfl (fun K hK => ?_)
     refine (if_pos (by rfl)).mpr ?_; refine yy (vs := dgC Z) rfl rfl rfl q10 (by rw [yc, yc]) (by rw [yf, yc]) (z0d _) ?_; intro wB htB bB
     refine hK _ _ ?_; clear hK K; try simp only [nrm]
     refine WpT.done (by kernel_rfl) ?_ _
     skip
     have hh := HH.out
     have hlt := HLT.out
     have bA2 := htB.blk bA (by omega)
     have hfin := (hst2.other HPOS.out htA (by omega) (by omega) (by omega) (by omega) (by omega)).other HPOS.out htB (by omega) (by omega) (by omega) (by omega) (by omega)
     have hgr9 := (hgr.turned htA (.inr (by omega))).turned htB (.inr (by omega))
     clear hh hlt hst2 hgr htA htB hS bA q9 q10
     go_wp2_with fail
     exact zdg rfl rfl rfl rfl bA2 bB yn (by rw [yf, yc]) yn (by rw [yf, yc]) ⟨rfl, hfin, hgr9⟩
   ·
    rw [z98 nd old mark p hmn hm hmk]
    have HI := ya (fun (W : World) (h : CkS w0 gl gv gb gf old 181 (F53 gl gv gf) p.last.2 W) => ih (m - Merk.split n) (n - Merk.split n) false p.last.2 W (by omega) (by omega) (by omega) (by omega) h)
    have HL1 := ya (fun (W : World) (h : z2t w0 gb p W) => zcs p w0 gb W h)
    unfold z8w at HI ⊢
    unfold z86 at HL1
    have HN := ya (fun (W : World) (h : GCon W) => N.node p.last.1 (z0i nd old (m - Merk.split n) (n - Merk.split n) false p.last.2).1 W h)
    have HN2 := ya (fun (W : World) (h : GCon W) => N.node p.last.1 (z0i nd old (m - Merk.split n) (n - Merk.split n) false p.last.2).2.1 W h)
    show Calls _ _ _ _ fun e w' => e = .returned (.tuple #[dgV (nd p.last.1 (z0i nd old (m - Merk.split n) (n - Merk.split n) false p.last.2).1), dgV (nd p.last.1 (z0i nd old (m - Merk.split n) (n - Merk.split n) false p.last.2).2.1)]) ∧ CkS w0 gl gv gb gf old 181 (F53 gl gv gf) (z0i nd old (m - Merk.split n) (n - Merk.split n) false p.last.2).2.2 w' ∧ z08 [gb] w w'
    have hc1 : ((m - Merk.split n : Nat) : Int) = (m : Int) - (Merk.split n : Int) := by omega
    have hc2 : ((n - Merk.split n : Nat) : Int) = (n : Int) - (Merk.split n : Int) := by omega
    rw [hc1, hc2] at HI
    clear ih hs hpos hg hc1 hc2
    generalize nd p.last.1 (z0i nd old (m - Merk.split n) (n - Merk.split n) false p.last.2).1 = Y at *
    generalize nd p.last.1 (z0i nd old (m - Merk.split n) (n - Merk.split n) false p.last.2).2.1 = Z at *
    generalize (z0i nd old (m - Merk.split n) (n - Merk.split n) false p.last.2).1 = D at *
    generalize (z0i nd old (m - Merk.split n) (n - Merk.split n) false p.last.2).2.1 = E at *
    generalize (z0i nd old (m - Merk.split n) (n - Merk.split n) false p.last.2).2.2 = Q at *
    generalize p.last.1 = X at *
    generalize p.last.2 = P1 at *
    generalize Merk.split n = k at *
    generalize hF : F53 gl gv gf = F at *
    have HF := ya hF.symm
    clear hF
    have hmk2 : ¬ (m : Int) ≤ (k : Int) := by omega
    have hsub : 0 ≤ (m : Int) - (k : Int) ∧ (m : Int) - (k : Int) ≤ 1099511627776 := by omega
    have hsub2 : 0 ≤ (n : Int) - (k : Int) ∧ (n : Int) - (k : Int) ≤ 1099511627776 := by omega
    go_enter Tryz.func137, Tryz.ntmps137
    go_upto_region 6 with (first
     | ((with_reducible show sl 9); refine z1a (cs := dgC 0) rfl rfl z0q ?_; intro w1 g9 hg9 q9 hb1 lt9; have HG9 := ya hg9; clear hg9)
     | ((with_reducible show sl 10); refine z1a (cs := dgC 0) rfl rfl z0q ?_; intro w2 g10 hg10 q10 hb2 lt10; have HG10 := ya hg10; clear hg10))
    have HH := ya (show w.heap.size ≤ g9 ∧ g9 < g10 from ⟨by have := HG9.out; omega, by have := HG10.out; omega⟩)
    have hst := (HSt.out.below hb1).below hb2
    have hgr : z08 [gb] w w2 := (z08.of_below hb1).later hb2
    replace q9 := q9.below hb2
    clear hb1 hb2 HG9 HG10 lt9 lt10
    go_cut [12, 13] from 28 to 31 (fun v8 v9 W => ∃ g13, v9 = .pointer (some ⟨g13, 0, none⟩) ∧ v8 = .int .i64 k ∧ CkS w0 gl gv gb gf old 181 F P1 W ∧ Blk W g9 25 (dgC 0) ∧ Blk W g10 25 (dgC 0) ∧ Blk W g13 25 (dgC X) ∧ z08 [gb] w W ∧ g10 < g13)
    case first =>
     replace hst := hst.below (Below.refl w2.heap.size w2).drew
     replace hgr := hgr.later (Below.refl w2.heap.size w2).drew
     replace q9 := q9.below (Below.refl w2.heap.size w2).drew
     replace q10 := q10.below (Below.refl w2.heap.size w2).drew
     have hpv := hst.pv
     refine z2h (S := fun W => Blk W gv 172 #[.pointer (some ⟨gb, 0, none⟩)]) 6 (by kernel_rfl) ?_
     refine WpT.tk 0 hpv ?_
     simp only [nrm]
     refine WpT.tl 2 rfl (z4d rfl rfl rfl (by kernel_rfl) (fun W h => h.cell 0)) hpv ?_
     simp only [nrm]
     refine WpT.fork (i := 1) (j := 4) rfl rfl (by kernel_rfl) (fun K hK => ?_) (fun K hK => ?_)
     ·go_simp; refine (HS.out _).mono ?_; rintro e wS ⟨rfl, rfl⟩
      refine hK _ _ hpv ?_; clear hK K; try simp only [nrm]
      refine WpT.fork (i := 3) (j := 4) rfl rfl (by kernel_rfl) (fun K hK => ?_) (fun K hK => ?_)
      ·go_simp; refine (HL1.out _ hst.path).mono ?_; rintro e wL ⟨rfl, hpl, hgl⟩; replace hst := hst.went HPOS.out hgl hpl; replace q9 := hgl.blk q9 (by have := HH.out; have := HLT.out; simp; omega); replace q10 := hgl.blk q10 (by have := HH.out; have := HLT.out; simp; omega); (try replace q13 := hgl.blk q13 (by have := H13.out; have := HH.out; have := HLT.out; simp; omega)); replace hgr := hgr.trans hgl; replace hpv := hst.pv
       refine hK _ _ hpv ?_; clear hK K; try simp only [nrm]
       refine WpT.on 4 rfl (fun K hK => ?_)
       refine (if_pos (by rfl)).mpr ?_; refine z5u (cs := dgC 0) rfl z0q ?_; intro wN g13 hg13 q13 hbN lt13; have H13 := ya (show g10 < g13 from by have := q10.lt; omega); clear hg13; replace hst := hst.below hbN; replace q9 := q9.below hbN; replace q10 := q10.below hbN; replace hgr := hgr.later hbN; replace hpv := hst.pv
       refine hK _ _ hpv ?_; clear hK K; try simp only [nrm]
       refine WpT.on 5 rfl (fun K hK => ?_)
       go_simp; (try go_bits)
       refine hK _ _ hpv ?_; clear hK K; try simp only [nrm]
       refine WpT.ta 6 rfl (fun K hK => ?_)
       refine (if_pos (by rfl)).mpr ?_; refine yy (vs := dgC X) rfl rfl rfl q13 (by rw [yc, yc]) (by rw [yf, yc]) (z0d _) ?_; intro wP htP bP
       refine hK _ _ ?_; clear hK K; try simp only [nrm]
       refine WpT.done (by kernel_rfl) ?_ _
       have h9 := H13.out; have hlt := HLT.out; have h7 := HH.out; replace hst := hst.other HPOS.out htP (by omega) (by omega) (by omega) (by omega) (by omega); replace q9 := htP.blk q9 (by omega); replace q10 := htP.blk q10 (by omega); replace hgr := hgr.turned htP (.inr (by omega)); clear h7 hlt; go_wp2_with fail; go_meet; exact ⟨g13, rfl, rfl, hst, q9, q10, bP, hgr, h9⟩
      ·refine (if_pos (by rfl)).mpr ?_; refine z5u (cs := dgC 0) rfl z0q ?_; intro wN g13 hg13 q13 hbN lt13; have H13 := ya (show g10 < g13 from by have := q10.lt; omega); clear hg13; replace hst := hst.below hbN; replace q9 := q9.below hbN; replace q10 := q10.below hbN; replace hgr := hgr.later hbN; replace hpv := hst.pv
       refine hK _ _ hpv ?_; clear hK K; try simp only [nrm]
       refine WpT.on 3 rfl (fun K hK => ?_)
       go_simp; refine (HL1.out _ hst.path).mono ?_; rintro e wL ⟨rfl, hpl, hgl⟩; replace hst := hst.went HPOS.out hgl hpl; replace q9 := hgl.blk q9 (by have := HH.out; have := HLT.out; simp; omega); replace q10 := hgl.blk q10 (by have := HH.out; have := HLT.out; simp; omega); (try replace q13 := hgl.blk q13 (by have := H13.out; have := HH.out; have := HLT.out; simp; omega)); replace hgr := hgr.trans hgl; replace hpv := hst.pv
       refine hK _ _ hpv ?_; clear hK K; try simp only [nrm]
       refine WpT.on 5 rfl (fun K hK => ?_)
       go_simp; (try go_bits)
       refine hK _ _ hpv ?_; clear hK K; try simp only [nrm]
       refine WpT.ta 6 rfl (fun K hK => ?_)
       refine (if_pos (by rfl)).mpr ?_; refine yy (vs := dgC X) rfl rfl rfl q13 (by rw [yc, yc]) (by rw [yf, yc]) (z0d _) ?_; intro wP htP bP
       refine hK _ _ ?_; clear hK K; try simp only [nrm]
       refine WpT.done (by kernel_rfl) ?_ _
       have h9 := H13.out; have hlt := HLT.out; have h7 := HH.out; replace hst := hst.other HPOS.out htP (by omega) (by omega) (by omega) (by omega) (by omega); replace q9 := htP.blk q9 (by omega); replace q10 := htP.blk q10 (by omega); replace hgr := hgr.turned htP (.inr (by omega)); clear h7 hlt; go_wp2_with fail; go_meet; exact ⟨g13, rfl, rfl, hst, q9, q10, bP, hgr, h9⟩
     ·refine (if_pos (by rfl)).mpr ?_; refine z5u (cs := dgC 0) rfl z0q ?_; intro wN g13 hg13 q13 hbN lt13; have H13 := ya (show g10 < g13 from by have := q10.lt; omega); clear hg13; replace hst := hst.below hbN; replace q9 := q9.below hbN; replace q10 := q10.below hbN; replace hgr := hgr.later hbN; replace hpv := hst.pv
      refine hK _ _ hpv ?_; clear hK K; try simp only [nrm]
      refine WpT.on 1 rfl (fun K hK => ?_)
      go_simp; refine (HS.out _).mono ?_; rintro e wS ⟨rfl, rfl⟩
      refine hK _ _ hpv ?_; clear hK K; try simp only [nrm]
      refine WpT.on 3 rfl (fun K hK => ?_)
      go_simp; refine (HL1.out _ hst.path).mono ?_; rintro e wL ⟨rfl, hpl, hgl⟩; replace hst := hst.went HPOS.out hgl hpl; replace q9 := hgl.blk q9 (by have := HH.out; have := HLT.out; simp; omega); replace q10 := hgl.blk q10 (by have := HH.out; have := HLT.out; simp; omega); (try replace q13 := hgl.blk q13 (by have := H13.out; have := HH.out; have := HLT.out; simp; omega)); replace hgr := hgr.trans hgl; replace hpv := hst.pv
      refine hK _ _ hpv ?_; clear hK K; try simp only [nrm]
      refine WpT.on 5 rfl (fun K hK => ?_)
      go_simp; (try go_bits)
      refine hK _ _ hpv ?_; clear hK K; try simp only [nrm]
      refine WpT.ta 6 rfl (fun K hK => ?_)
      refine (if_pos (by rfl)).mpr ?_; refine yy (vs := dgC X) rfl rfl rfl q13 (by rw [yc, yc]) (by rw [yf, yc]) (z0d _) ?_; intro wP htP bP
      refine hK _ _ ?_; clear hK K; try simp only [nrm]
      refine WpT.done (by kernel_rfl) ?_ _
      have h9 := H13.out; have hlt := HLT.out; have h7 := HH.out; replace hst := hst.other HPOS.out htP (by omega) (by omega) (by omega) (by omega) (by omega); replace q9 := htP.blk q9 (by omega); replace q10 := htP.blk q10 (by omega); replace hgr := hgr.turned htP (.inr (by omega)); clear h7 hlt; go_wp2_with fail; go_meet; exact ⟨g13, rfl, rfl, hst, q9, q10, bP, hgr, h9⟩
    case rest =>
     clear hst hgr q9 q10
     obtain ⟨g13, rfl, rfl, hst, q9, q10, q13, hgr, h13⟩ := hcut
     have H13 := ya h13
     clear h13
     have cf := hst.fn.cell 0
     simp only [List.getElem?_toArray, List.getElem?_cons_zero] at cf
     rw [HF.out] at cf
     go_upto_region 10 with (fail)
     go_wp2_with fail
     refine (HI.out _ hst).mono ?_
     rintro e w5 ⟨rfl, hst2, hgC⟩
     replace q9 := hgC.blk q9 (by have := HH.out; have := HLT.out; simp; omega)
     replace q10 := hgC.blk q10 (by have := HH.out; have := HLT.out; simp; omega)
     replace q13 := hgC.blk q13 (by have := HH.out; have := H13.out; have := HLT.out; simp; omega)
     replace hgr := hgr.trans hgC
     clear hst cf hgC
     go_upto_region 11 with (first
      | ((with_reducible show sl 16); refine z1a (cs := dgC 0) rfl rfl z0q ?_; intro w6 g14 hg14 q14 hb6 lt14; have HG14 := ya hg14; clear hg14)
      | ((with_reducible show sl 17); refine z1a (cs := dgC 0) rfl rfl z0q ?_; intro w7 g15 hg15 q15 hb7 lt15; have HG15 := ya hg15; clear hg15; replace q14 := q14.below hb7)
      | ((with_reducible show sn); refine z09 (vs := dgC D) rfl rfl rfl rfl q14 (by rw [yc, yc]) (by rw [yf, yc]) (z0d _) ?_; intro w8 ht8 b14; replace q15 := ht8.blk q15 (by have := HG15.out; omega))
      | ((with_reducible show sn); refine z09 (vs := dgC E) rfl rfl rfl rfl q15 (by rw [yc, yc]) (by rw [yf, yc]) (z0d _) ?_; intro w9 ht9 b15; replace b14 := ht9.blk b14 (by have := HG15.out; omega)))
     have H14 := ya (show g13 < g14 ∧ g14 < g15 from ⟨by have := HG14.out; have := q13.lt; omega, by have := HG15.out; omega⟩)
     replace hst2 := (((hst2.below hb6).below hb7).other HPOS.out ht8 (by have := H14.out; have := H13.out; have := HH.out; have := HLT.out; omega) (by have := H14.out; have := H13.out; have := HH.out; have := HLT.out; omega) (by have := H14.out; have := H13.out; have := HH.out; have := HLT.out; omega) (by have := H14.out; have := H13.out; have := HH.out; have := HLT.out; omega) (by have := H14.out; have := H13.out; have := HH.out; have := HLT.out; omega)).other HPOS.out ht9 (by have := H14.out; have := H13.out; have := HH.out; have := HLT.out; omega) (by have := H14.out; have := H13.out; have := HH.out; have := HLT.out; omega) (by have := H14.out; have := H13.out; have := HH.out; have := HLT.out; omega) (by have := H14.out; have := H13.out; have := HH.out; have := HLT.out; omega) (by have := H14.out; have := H13.out; have := HH.out; have := HLT.out; omega)
     replace hst2 := hst2.below (Below.refl w9.heap.size w9).drew
     replace hgr := ((((hgr.later hb6).later hb7).turned ht8 (.inr (by have := H14.out; have := H13.out; have := HH.out; omega))).turned ht9 (.inr (by have := H14.out; have := H13.out; have := HH.out; omega))).later (Below.refl w9.heap.size w9).drew
     replace q9 := (ht9.blk (ht8.blk ((q9.below hb6).below hb7) (by have := H14.out; have := H13.out; have := HH.out; omega)) (by have := H14.out; have := H13.out; have := HH.out; omega)).below (Below.refl w9.heap.size w9).drew
     replace q10 := (ht9.blk (ht8.blk ((q10.below hb6).below hb7) (by have := H14.out; have := H13.out; omega)) (by have := H14.out; have := H13.out; omega)).below (Below.refl w9.heap.size w9).drew
     replace q13 := (ht9.blk (ht8.blk ((q13.below hb6).below hb7) (by have := H14.out; omega)) (by have := H14.out; omega)).below (Below.refl w9.heap.size w9).drew
     replace b14 := b14.below (Below.refl w9.heap.size w9).drew
     replace b15 := b15.below (Below.refl w9.heap.size w9).drew
     clear q14 q15 ht8 ht9 hb6 hb7 HG14 HG15 lt14 lt15
     have hS := And.intro q13 (And.intro b14 b15)
     refine z2h (S := fun W => Blk W g13 25 (dgC X) ∧ Blk W g14 25 (dgC D) ∧ Blk W g15 25 (dgC E)) 7 (by kernel_rfl) ?_
     refine WpT.tl 0 rfl (z4q rfl rfl rfl yn (by rw [yf, yc]) (fun W h => h.1)) hS ?_
     simp only [nrm]
     refine WpT.tl 1 rfl (z4q rfl rfl rfl yn (by rw [yf, yc]) (fun W h => h.2.1)) hS ?_
     simp only [nrm]
     refine WpT.tl 3 rfl (z4q rfl rfl rfl yn (by rw [yf, yc]) (fun W h => h.1)) hS ?_
     simp only [nrm]
     refine WpT.tl 4 rfl (z4q rfl rfl rfl yn (by rw [yf, yc]) (fun W h => h.2.2)) hS ?_
     simp only [nrm]
     refine WpT.on 2 rfl (fun K hK => ?_)
     go_simp; refine (HN.out _ (HG.out.below hst2.path.old)).mono ?_; rintro e wM ⟨rfl, hbM⟩; replace hst2 := hst2.below hbM; replace q9 := q9.below hbM; replace q10 := q10.below hbM; replace hgr := hgr.later hbM; replace hS := And.intro (hS.1.below hbM) (And.intro (hS.2.1.below hbM) (hS.2.2.below hbM))
     refine hK _ _ hS ?_; clear hK K; try simp only [nrm]
     refine WpT.on 5 rfl (fun K hK => ?_)
     go_simp; refine (HN2.out _ (HG.out.below hst2.path.old)).mono ?_; rintro e wM2 ⟨rfl, hbM⟩; replace hst2 := hst2.below hbM; replace q9 := q9.below hbM; replace q10 := q10.below hbM; replace hgr := hgr.later hbM; replace hS := And.intro (hS.1.below hbM) (And.intro (hS.2.1.below hbM) (hS.2.2.below hbM))
     refine hK _ _ hS ?_; clear hK K; try simp only [nrm]
     refine WpT.on 6 rfl (fun K hK => ?_)
     refine (if_pos (by rfl)).mpr ?_; refine yy (vs := dgC Y) rfl rfl rfl q9 (by rw [yc, yc]) (by rw [yf, yc]) (z0d _) ?_; intro wA htA bA; replace hS := And.intro (htA.blk hS.1 (by have := H14.out; have := H13.out; have := HH.out; omega)) (And.intro (htA.blk hS.2.1 (by have := H14.out; have := H13.out; have := HH.out; omega)) (htA.blk hS.2.2 (by have := H14.out; have := H13.out; have := HH.out; omega))); replace q10 := htA.blk q10 (by have := H14.out; have := H13.out; have := HH.out; omega)
     refine hK _ _ hS ?_; clear hK K; try simp only [nrm]
     refine WpT.ta 7 rfl (fun K hK => ?_)
     refine (if_pos (by rfl)).mpr ?_; refine yy (vs := dgC Z) rfl rfl rfl q10 (by rw [yc, yc]) (by rw [yf, yc]) (z0d _) ?_; intro wB htB bB
     refine hK _ _ ?_; clear hK K; try simp only [nrm]
     refine WpT.done (by kernel_rfl) ?_ _
     skip
     have hh := HH.out
     have hlt := HLT.out
     have bA2 := htB.blk bA (by omega)
     have hfin := (hst2.other HPOS.out htA (by omega) (by omega) (by omega) (by omega) (by omega)).other HPOS.out htB (by omega) (by omega) (by omega) (by omega) (by omega)
     have hgr9 := (hgr.turned htA (.inr (by omega))).turned htB (.inr (by omega))
     clear hh hlt hst2 hgr htA htB hS bA q9 q10
     go_wp2_with fail
     exact zdg rfl rfl rfl rfl bA2 bB yn (by rw [yf, yc]) yn (by rw [yf, yc]) ⟨rfl, hfin, hgr9⟩
section
variable {P : Program} {w : World} {ops : Array Oper} {a : Act} {rest : List Oper} {o : Oper} {Q : Exit → Act → World → Prop}
theorem zwb (hw : Region.wanted o (yielded ops a.tmps) = true) {t u : TypeId} {x y : Operand} {vx vy v : Value} (ho : o.op = .binOp .eql t x y u) (hx : a.eval x = vx) (hy : a.eval y = vy)
    (hg : ∀ W, (eqGuard .eql t x y vx vy).run P W = .ok () W) (hr : (binOp .eql t vx vy).run P w = .ok v w) (h : wpList P ops Q rest (a.put o.dst v) w) : wpList P ops Q (o :: rest) a w := by
  refine zby hw fun K hK => ?_
  unfold Oper.wp execOp
  simp only [ho, hx, hy, Sem.run_bind, hg, hr, Result.andThen_ok, Sem.run_pure]
  exact hK _ _ h
end
theorem zi0 {w : World} {g : Nat} {t : TypeId} {n : Nat} (h : Blk w g t (dgC n)) : ∀ j u, (bv (dg n))[j]? = some u → w.cell? ((⟨g, 0, none⟩ : Addr).add j) = some u := fun j u hj => by
  obtain ⟨ad, e, hc⟩ := (z7n h).at_ j u hj
  injection e with e
  subst e
  exact hc
def LtP (p : Pth) : Prop := ∀ x ∈ p.l, x < 2 ^ 128
theorem LtP.last {p : Pth} (h : LtP p) : LtP p.last.2 ∧ p.last.1 < 2 ^ 128 := by
  obtain ⟨l, s⟩ := p
  rcases List.eq_nil_or_concat l with rfl | ⟨l0, x, rfl⟩
  · rw [zf5]; exact ⟨fun x hx => by simp at hx, Nat.pow_pos (by omega)⟩
  · rw [List.concat_eq_append, z9g]
    exact ⟨fun y hy => h y (by simp; exact .inl hy), h x (by simp)⟩
theorem zoh {nd : Nat → Nat → Nat} (h : ∀ a b, nd a b < 2 ^ 128) {old : Nat} (ho : old < 2 ^ 128) (K : Nat) : ∀ (m n : Nat) (mark : Bool) (p : Pth), n ≤ K → 1 ≤ m → m ≤ n → LtP p → (z0i nd old m n mark p).1 < 2 ^ 128 ∧ (z0i nd old m n mark p).2.1 < 2 ^ 128 := by
  induction K with
  | zero => intro m n mark p hK h1 h2; omega
  | succ K ih =>
    intro m n mark p hK h1 h2 hp
    by_cases he : m = n
    · subst he
      cases mark with
      | true => rw [zek]; exact ⟨ho, ho⟩
      | false => rw [zce]; exact ⟨hp.last.2, hp.last.2⟩
    · have k1 := Merk.split_lt (n := n) (by omega)
      have k2 := Merk.split_pos n
      by_cases hk : m ≤ Merk.split n
      · rw [z97 nd old mark p (by omega) h1 hk]
        exact ⟨(ih m (Merk.split n) mark p.last.2 (by omega) h1 hk hp.last.1).1, h _ _⟩
      · rw [z98 nd old mark p (by omega) h1 hk]
        exact ⟨h _ _, h _ _⟩
def z6z (nd : Nat → Nat → Nat) (em : Nat) (m n : Int) (old root : Nat) (l : List Nat) : Bool :=
  if 0 ≤ m ∧ m ≤ n ∧ n ≤ 1099511627776 then
    (if m = 0 then z5p (decide (old = em)) ⟨l, false⟩
     else z5p (decide ((z0i nd old m.toNat n.toNat true ⟨l, false⟩).1 = old) && decide ((z0i nd old m.toNat n.toNat true ⟨l, false⟩).2.1 = root)) (z0i nd old m.toNat n.toNat true ⟨l, false⟩).2.2)
  else false
theorem zx5 (W : World) : (zeroValue 181).run Tryz.prog W = .ok .nilFunc W := by kernel_rfl
theorem zo4 {nd : Nat → Nat → Nat} {em : Nat} (N : Nds nd em) (old root n : Nat) (l : List Nat) (A : Option Addr) (m c : Nat) (w : World) (hold : old < 2 ^ 128) (hn : n ≤ 1099511627776)
    (hm : m ≤ 1000000) (hr : RdD w A m l) (hmc : m ≤ c) (hcm : c ≤ maxLen) (hg : GCon w) :
    Calls Tryz.prog 96 #[.int .i64 0, .int .i64 n, dgV old, dgV root, .slice A m c] w (BIs (z5p (decide (old = em)) ⟨l, false⟩) w) := by
  have d0 : decide ((0 : Int) < 0) = false := by simp
  have d1 : decide ((0 : Int) > (n : Int)) = false := by simp
  have d2 : decide ((n : Int) > 1099511627776) = false := by simp; omega
  have HE := ya (fun (W : World) (hb : Below w.heap.size w W) => N.empty W (hg.below hb))
  have HQ := ya (fun W => zch hold N.lt0 W)
  have HP : Hid (∀ W gb, Below w.heap.size w W → w.heap.size ≤ gb → Blk W gb 174 #[.slice A m c, .bool false] → z2t w gb ⟨l, false⟩ W) := ya (fun W gb h1 h2 h3 => ⟨h1, h2, A, m, c, hr, hm, hmc, hcm, h3⟩)
  have HBP := ya (zed A m c)
  unfold BIs
  clear hr hg hcm
  generalize decide (old = em) = bq at *
  obtain ⟨wa, hwa, hba, ql, qr, qo, hsz⟩ := z7l w (dgC old) (dgC root) #[.bool false] 25 25 4
  have HWA := ya hwa
  have HSZ := ya hsz
  obtain ⟨gl, hgl⟩ : ∃ g, g = w.heap.size := ⟨_, rfl⟩
  obtain ⟨gr, hgr⟩ : ∃ g, g = w.heap.size + 1 := ⟨_, rfl⟩
  obtain ⟨go, hgo⟩ : ∃ g, g = w.heap.size + 1 + 1 := ⟨_, rfl⟩
  rw [← hgo] at qo
  rw [← hgr] at qr
  rw [← hgl] at ql
  have HG := ya (And.intro hgl (And.intro hgr hgo))
  clear hwa hsz hgl hgr hgo
  go_enter_defers Tryz.func96, Tryz.ntmps96
  go_upto_region 3 with (fail)
  change Code.wp _ _ _ _ (((w.alloc (.cells (dgC old) 25)).alloc (.cells (dgC root) 25)).alloc (.cells #[.bool false] 4))
  rw [← HWA.out, ← HG.out.2.2, ← HG.out.2.1, ← HG.out.1]
  clear HWA
  obtain ⟨w1, hw1, hb1, qb⟩ : ∃ w1 : World, w1 = wa.alloc (.cells #[.slice A m c, .bool false] 174) ∧ Below wa.heap.size wa w1 ∧ Blk w1 wa.heap.size 174 #[.slice A m c, .bool false] :=
    ⟨_, rfl, (Below.refl _ _).alloc (Nat.le_refl _) _, Blk.new _ _ _⟩
  have HW1 := ya hw1
  clear hw1
  go_upto_region 4 with (first
    | ((with_reducible show sl 27); refine z68 rfl rfl rfl HBP.out ?_)
    | ((with_reducible show sl 11); refine zbv rfl rfl zgp rfl ?_; intro w2 gv hgv qv hb2 lt2; rw [← HW1.out] at hgv hb2; have HGV := ya hgv; clear hgv)
    | ((with_reducible show sn); refine z1e (g := gv) (j := 0) (v := .pointer (some ⟨wa.heap.size, 0, none⟩)) (cs' := #[.pointer (some ⟨wa.heap.size, 0, none⟩)]) rfl rfl (by kernel_rfl) rfl rfl rfl qv (by simp) (by simp) ?_; intro w3 ht3 bv))
  have hsz1 : w1.heap.size = wa.heap.size + 1 := by rw [HW1.out]; simp
  have hgv := HGV.out
  have hgg := HG.out
  have hss := HSZ.out
  have hba3 : Below wa.heap.size wa w3 := (yb hb1 hb2).trans (ht3.below _ (by omega))
  have qb3 := ht3.blk (qb.below hb2) (by omega)
  replace ql := ql.below hba3
  replace qr := qr.below hba3
  replace qo := qo.below hba3
  have hbw := yb hba hba3
  have hw3 : w3.heap.size = w2.heap.size := ht3.size
  have hlt2 := hb2.size
  clear qb qv ht3 hb1 hb2 hba hba3 HW1
  obtain ⟨gb, hgb⟩ : ∃ g, g = wa.heap.size := ⟨_, rfl⟩
  rw [← hgb] at bv qb3
  have HB := ya (show (gl = w.heap.size ∧ gr = w.heap.size + 1 ∧ go = w.heap.size + 1 + 1) ∧ gb = w.heap.size + 1 + 1 + 1 ∧ gv = w.heap.size + 1 + 1 + 1 + 1 ∧ w.heap.size + 1 + 1 + 1 + 1 < w3.heap.size from ⟨hgg, by omega, by omega, by omega⟩)
  clear HG HSZ HGV hsz1 hgv hgg hss hw3 hlt2 lt2 hgb
  have cv := bv.cell 0
  simp only [List.getElem?_toArray, List.getElem?_cons_zero] at cv
  have hh := HB.out
  have hp3 := HP.out w3 gb hbw (by omega) qb3
  have HO := ya (show go ≠ gb ∧ go ≠ gl ∧ w.heap.size ≤ go ∧ w.heap.size ≤ gb from ⟨by omega, by omega, by omega, by omega⟩)
  have hbwd := yb hbw (Below.refl w3.heap.size w3).drew
  replace ql := ql.below (Below.refl w3.heap.size w3).drew
  replace qo := qo.below (Below.refl w3.heap.size w3).drew
  replace hp3 := hp3.below (Below.refl w3.heap.size w3).drew
  have hS := ql
  clear hh qr qb3 bv HB hbw HP HBP
  go_upto_region 6 with (fail)
  refine z2h (S := fun W => Blk W gl 25 (dgC old)) 3 (by kernel_rfl) ?_
  refine WpT.take (i := 0) rfl (by kernel_rfl) (fun c a w h => z8l rfl (by decide) h) (z4q rfl rfl rfl yn (by rw [yf, yc]) (fun W h => h)) (hS) ?_
  simp only [nrm]
  refine WpT.on 1 rfl (fun K hK => ?_)
  go_simp; refine (HE.out _ hbwd).mono ?_; rintro e wE ⟨rfl, hbE⟩; replace hS := hS.below hbE; replace qo := qo.below hbE; replace hp3 := hp3.below hbE; replace hbwd := yb hbwd hbE
  refine hK _ _ hS ?_; clear hK K; try simp only [nrm]
  have hq := HQ.out
  refine WpT.tq 2 rfl (fun c a w h => z8l rfl (by decide) h) (hS) ?_
  simp only [nrm]
  refine WpT.ta 3 rfl (fun K hK => ?_)
  refine (if_pos (by rfl)).mpr ?_; refine z7e (j := 0) (v := .bool bq) (cs' := #[.bool bq]) rfl (by kernel_rfl) (by rfl) (by rfl) rfl qo (by simp) (by simp) ?_; intro w9 ht9 b9
  refine hK _ _ ?_; clear hK K; try simp only [nrm]
  refine WpT.done (by kernel_rfl) ?_ _
  skip
  have ho := HO.out
  have hp9 : z2t w gb ⟨l, false⟩ w9 := hp3.grew ((z08.refl [go] _).turned ht9 (.inl (by simp))) (by simp; omega) (by simp; omega)
  have hb9 := hbwd.trans (ht9.below _ (by omega))
  have hgo2 : w.heap.size ≤ go := ho.2.2.1
  clear hS ql qo hp3 ht9 ho hq hbwd
  go_wp2_with fail
  refine leaves_cons (f := 133) (args := #[.pointer (some ⟨gb, 0, none⟩), .pointer (some ⟨go, 0, none⟩)]) (by simp) (by simp [go_sem]) ?_
  refine (zdl bq ⟨l, false⟩ w gb go .returning _ hp9 b9).mono ?_
  rintro e u' w'' ⟨rfl, rfl, hbS, hbel, _⟩
  exact ⟨_, z65 rfl rfl hbS, rfl, hb9.trans (hbel.mono hgo2)⟩
theorem zo3 {nd : Nat → Nat → Nat} {em : Nat} (N : Nds nd em) (old root k n : Nat) (l : List Nat) (A : Option Addr) (m c : Nat) (w : World) (hold : old < 2 ^ 128) (hroot : root < 2 ^ 128) (hn : n ≤ 1099511627776) (h1 : 1 ≤ k) (hkn : k ≤ n)
    (hm : m ≤ 1000000) (hr : RdD w A m l) (hll : ∀ x ∈ l, x < 2 ^ 128) (hmc : m ≤ c) (hcm : c ≤ maxLen) (hg : GCon w) :
    Calls Tryz.prog 96 #[.int .i64 k, .int .i64 n, dgV old, dgV root, .slice A m c] w (BIs (z5p (decide ((z0i nd old k n true ⟨l, false⟩).1 = old) && decide ((z0i nd old k n true ⟨l, false⟩).2.1 = root)) (z0i nd old k n true ⟨l, false⟩).2.2) w) := by
  have hmf : ∀ (fn : Fn) (first cap : Array Value) (w : World), (Instr.makeFunc fn first cap).run Tryz.prog w = .ok (.func fn first cap) w := fun _ _ _ _ => rfl
  have d0 : decide ((k : Int) < 0) = false := by simp
  have d1 : decide ((k : Int) > (n : Int)) = false := by simp; omega
  have d2 : decide ((n : Int) > 1099511627776) = false := by simp; omega
  have d3 : ((k : Int) == 0) = false := by simp; omega
  have HI := ya (fun (gl gv gb gf : Nat) (hpos : z6t w gl gv gb gf) (W : World) (h : CkS w gl gv gb gf old 181 (F53 gl gv gf) ⟨l, false⟩ W) => zoc N w gl gv gb gf old hpos hg n k n true ⟨l, false⟩ W (Nat.le_refl _) hn h1 hkn h)
  have hlt := zoh N.lt hold n k n true ⟨l, false⟩ (Nat.le_refl _) h1 hkn hll
  have HQ1 := ya (fun W => zch hlt.1 hold W)
  have HQ2 := ya (fun W => zch hlt.2 hroot W)
  have HP : Hid (∀ W gb, Below w.heap.size w W → w.heap.size ≤ gb → Blk W gb 174 #[.slice A m c, .bool false] → z2t w gb ⟨l, false⟩ W) := ya (fun W gb h1 h2 h3 => ⟨h1, h2, A, m, c, hr, hm, hmc, hcm, h3⟩)
  have HBP := ya (zed A m c)
  unfold z8w at HI
  unfold BIs
  clear hr hg hlt hcm hll
  generalize (z0i nd old k n true ⟨l, false⟩).1 = D at *
  generalize (z0i nd old k n true ⟨l, false⟩).2.1 = E at *
  generalize (z0i nd old k n true ⟨l, false⟩).2.2 = Q at *
  generalize decide (D = old) = b1 at *
  generalize decide (E = root) = b2 at *
  obtain ⟨wa, hwa, hba, ql, qr, qo, hsz⟩ := z7l w (dgC old) (dgC root) #[.bool false] 25 25 4
  have HWA := ya hwa
  have HSZ := ya hsz
  obtain ⟨gl, hgl⟩ : ∃ g, g = w.heap.size := ⟨_, rfl⟩
  obtain ⟨gr, hgr⟩ : ∃ g, g = w.heap.size + 1 := ⟨_, rfl⟩
  obtain ⟨go, hgo⟩ : ∃ g, g = w.heap.size + 1 + 1 := ⟨_, rfl⟩
  rw [← hgo] at qo
  rw [← hgr] at qr
  rw [← hgl] at ql
  have HG := ya (And.intro hgl (And.intro hgr hgo))
  clear hwa hsz hgl hgr hgo
  go_enter_defers Tryz.func96, Tryz.ntmps96
  go_upto_region 3 with (fail)
  change Code.wp _ _ _ _ (((w.alloc (.cells (dgC old) 25)).alloc (.cells (dgC root) 25)).alloc (.cells #[.bool false] 4))
  rw [← HWA.out, ← HG.out.2.2, ← HG.out.2.1, ← HG.out.1]
  clear HWA
  obtain ⟨w1, hw1, hb1, qb⟩ : ∃ w1 : World, w1 = wa.alloc (.cells #[.slice A m c, .bool false] 174) ∧ Below wa.heap.size wa w1 ∧ Blk w1 wa.heap.size 174 #[.slice A m c, .bool false] :=
    ⟨_, rfl, (Below.refl _ _).alloc (Nat.le_refl _) _, Blk.new _ _ _⟩
  have HW1 := ya hw1
  clear hw1
  go_upto_region 4 with (first
    | ((with_reducible show sl 27); refine z68 rfl rfl rfl HBP.out ?_)
    | ((with_reducible show sl 11); refine zbv rfl rfl zgp rfl ?_; intro w2 gv hgv qv hb2 lt2; rw [← HW1.out] at hgv hb2; have HGV := ya hgv; clear hgv)
    | ((with_reducible show sn); refine z1e (g := gv) (j := 0) (v := .pointer (some ⟨wa.heap.size, 0, none⟩)) (cs' := #[.pointer (some ⟨wa.heap.size, 0, none⟩)]) rfl rfl (by kernel_rfl) rfl rfl rfl qv (by simp) (by simp) ?_; intro w3 ht3 bv))
  have hsz1 : w1.heap.size = wa.heap.size + 1 := by rw [HW1.out]; simp
  have hgv := HGV.out
  have hgg := HG.out
  have hss := HSZ.out
  have hba3 : Below wa.heap.size wa w3 := (yb hb1 hb2).trans (ht3.below _ (by omega))
  have qb3 := ht3.blk (qb.below hb2) (by omega)
  replace ql := ql.below hba3
  replace qr := qr.below hba3
  replace qo := qo.below hba3
  have hbw := yb hba hba3
  have hw3 : w3.heap.size = w2.heap.size := ht3.size
  have hlt2 := hb2.size
  clear qb qv ht3 hb1 hb2 hba hba3 HW1
  obtain ⟨gb, hgb⟩ : ∃ g, g = wa.heap.size := ⟨_, rfl⟩
  rw [← hgb] at bv qb3
  have HB := ya (show (gl = w.heap.size ∧ gr = w.heap.size + 1 ∧ go = w.heap.size + 1 + 1) ∧ gb = w.heap.size + 1 + 1 + 1 ∧ gv = w.heap.size + 1 + 1 + 1 + 1 ∧ w.heap.size + 1 + 1 + 1 + 1 < w3.heap.size from ⟨hgg, by omega, by omega, by omega⟩)
  clear HG HSZ HGV hsz1 hgv hgg hss hw3 hlt2 lt2 hgb
  have cv := bv.cell 0
  simp only [List.getElem?_toArray, List.getElem?_cons_zero] at cv
  go_upto_region 9 with (first
    | ((with_reducible show sl 12); refine zbv rfl rfl zx5 rfl ?_; intro w4 gf hgf qf hb4 lt4; have HGF := ya hgf; clear hgf)
    | ((with_reducible show sn); refine z1e (g := gf) (j := 0) (v := F53 gl gv gf) (cs' := #[F53 gl gv gf]) rfl rfl (by kernel_rfl) rfl rfl rfl qf (by simp) (by simp) ?_; intro w5 ht5 bf))
  have hh := HB.out
  have hgf := HGF.out
  have hpos : z6t w gl gv gb gf := ⟨by omega, by omega, by omega, by omega, by omega, by omega, by omega⟩
  have hb35 : Below w3.heap.size w3 w5 := hb4.trans (ht5.below _ (by omega))
  have hbw5 := yb hbw hb35
  have hst : CkS w gl gv gb gf old 181 (F53 gl gv gf) ⟨l, false⟩ w5 := ⟨HP.out _ _ hbw5 (by omega) (qb3.below hb35), ql.below hb35, bv.below hb35, bf⟩
  have qr5 := qr.below hb35
  have qo5 := qo.below hb35
  have HI2 := ya (HI.out gl gv gb gf hpos)
  have HO := ya (show gr ≠ gb ∧ go ≠ gb ∧ go ≠ gr ∧ w.heap.size ≤ go ∧ w.heap.size ≤ gb from ⟨by omega, by omega, by omega, by omega, by omega⟩)
  have cf := bf.cell 0
  simp only [List.getElem?_toArray, List.getElem?_cons_zero] at cf
  clear hh hgf hpos hb35 ql qr qo qb3 bv cv hb4 ht5 qf bf lt4 HGF HB hbw HI HP HBP
  go_wp2_with fail
  refine (HI2.out _ hst).mono ?_
  rintro e w6 ⟨rfl, hst2, hgC⟩
  replace qr5 := hgC.blk qr5 (by have := HO.out; simp; omega)
  replace qo5 := hgC.blk qo5 (by have := HO.out; simp; omega)
  replace hbw5 := hbw5.trans (hgC.below hbw5.size (by have := HO.out; simp; omega))
  clear hst hgC cf
  go_upto_region 10 with (first
    | ((with_reducible show sl 13); refine z1a (cs := dgC 0) rfl rfl z0q ?_; intro w7 g13 hg13 q13 hb7 lt13; have HG13 := ya hg13; clear hg13)
    | ((with_reducible show sl 14); refine z1a (cs := dgC 0) rfl rfl z0q ?_; intro w8 g14 hg14 q14 hb8 lt14; have HG14 := ya hg14; clear hg14; replace q13 := q13.below hb8)
    | ((with_reducible show sn); refine z09 (vs := dgC D) rfl rfl rfl rfl q13 (by rw [yc, yc]) (by rw [yf, yc]) (z0d _) ?_; intro wA htA b13; replace q14 := htA.blk q14 (by have := HG14.out; omega))
    | ((with_reducible show sn); refine z09 (vs := dgC E) rfl rfl rfl rfl q14 (by rw [yc, yc]) (by rw [yf, yc]) (z0d _) ?_; intro wB htB b14; replace b13 := htB.blk b13 (by have := HG14.out; omega)))
  have hbB : Below w6.heap.size w6 wB := ((hb7.trans (hb8.mono (by have := hb7.size; omega))).trans (htA.below _ (by have := HG13.out; omega))).trans (htB.below _ (by have := HG13.out; have := HG14.out; omega))
  have ql5 := hst2.leaf.below hbB
  replace qr5 := qr5.below hbB
  replace qo5 := qo5.below hbB
  have hp5 := hst2.path.below hbB
  replace hbw5 := yb hbw5 hbB
  clear q13 q14 htA htB hb7 hb8 HG13 HG14 lt13 lt14 hbB hst2
  have hgo2 : w.heap.size ≤ go := HO.out.2.2.2.1
  have hgb2 : gb ≠ go := fun e => HO.out.2.1 e.symm
  have hq1 := HQ1.out
  have hq2 := HQ2.out
  cases b1 with
  | false =>
    go_wp2_with (first
      | ((with_reducible show sl 43); refine z16 rfl rfl rfl b13 yn (by rw [yf, yc]) ?_)
      | ((with_reducible show sl 44); refine z16 rfl rfl rfl ql5 yn (by rw [yf, yc]) ?_)
      | ((with_reducible show sn); refine z1e (g := go) (j := 0) (v := .bool false) (cs' := #[.bool false]) rfl rfl (by kernel_rfl) rfl rfl rfl qo5 (by simp) (by simp) ?_; intro w9 ht9 b9))
    have hp9 : z2t w gb Q w9 := hp5.grew ((z08.refl [go] _).turned ht9 (.inl (by simp))) (by simpa using hgb2) (by simpa using hgo2)
    have hb9 := hbw5.trans (ht9.below _ hgo2)
    refine leaves_cons (f := 133) (args := #[.pointer (some ⟨gb, 0, none⟩), .pointer (some ⟨go, 0, none⟩)]) (by simp) (by simp [go_sem]) ?_
    refine (zdl false Q w gb go .returning _ hp9 b9).mono ?_
    rintro e u' w'' ⟨rfl, rfl, hbS, hbel, _⟩
    exact ⟨_, z65 rfl rfl hbS, rfl, hb9.trans (hbel.mono hgo2)⟩
  | true =>
    go_wp2_with (first
      | ((with_reducible show sl 43); refine z16 rfl rfl rfl b13 yn (by rw [yf, yc]) ?_)
      | ((with_reducible show sl 44); refine z16 rfl rfl rfl ql5 yn (by rw [yf, yc]) ?_)
      | ((with_reducible show sl 47); refine z0o (by rfl) rfl rfl (us := bv (dg E)) yn (by rw [yf, z01]) (zi0 b14) ?_)
      | ((with_reducible show sl 48); refine z0o (by rfl) rfl rfl (us := bv (dg root)) yn (by rw [yf, z01]) (zi0 qr5) ?_)
      | ((with_reducible show sl 49); refine zwb (by rfl) rfl rfl rfl (fun W => by rfl) (hq2 _) ?_)
      | ((with_reducible show sn); refine z1e (g := go) (j := 0) (v := .bool b2) (cs' := #[.bool b2]) rfl rfl (by kernel_rfl) rfl rfl rfl qo5 (by simp) (by simp) ?_; intro w9 ht9 b9))
    have hp9 : z2t w gb Q w9 := hp5.grew ((z08.refl [go] _).turned ht9 (.inl (by simp))) (by simpa using hgb2) (by simpa using hgo2)
    have hb9 := hbw5.trans (ht9.below _ hgo2)
    refine leaves_cons (f := 133) (args := #[.pointer (some ⟨gb, 0, none⟩), .pointer (some ⟨go, 0, none⟩)]) (by simp) (by simp [go_sem]) ?_
    refine (zdl b2 Q w gb go .returning _ hp9 b9).mono ?_
    rintro e u' w'' ⟨rfl, rfl, hbS, hbel, _⟩
    exact ⟨_, z65 rfl rfl hbS, rfl, hb9.trans (hbel.mono hgo2)⟩
theorem zo1 (old root m c : Nat) (A : Option Addr) (k n : Int) (w : World) (h : ¬ (0 ≤ k ∧ k ≤ n ∧ n ≤ 1099511627776)) :
    Calls Tryz.prog 96 #[.int .i64 k, .int .i64 n, dgV old, dgV root, .slice A m c] w (BIs false w) := by
  obtain ⟨wa, hwa, hba, ql, qr, qo, hsz⟩ := z7l w (dgC old) (dgC root) #[.bool false] 25 25 4
  have HWA := ya hwa
  obtain ⟨go, hgo⟩ : ∃ g, g = w.heap.size + 1 + 1 := ⟨_, rfl⟩
  rw [← hgo] at qo
  have HGO := ya hgo
  clear hwa hsz hgo ql qr
  unfold BIs
  by_cases h0 : k < 0
  · have d0 : decide (k < 0) = true := by simpa using h0
    go_enter Tryz.func96, Tryz.ntmps96
    go_upto_region 2 with (fail)
    change Code.wp _ _ _ _ (((w.alloc (.cells (dgC old) 25)).alloc (.cells (dgC root) 25)).alloc (.cells #[.bool false] 4))
    rw [← HWA.out, ← HGO.out]
    go_wp2_with ((with_reducible show sn); refine z1e (g := go) (j := 0) (v := .bool false) (cs' := #[.bool false]) rfl rfl (by kernel_rfl) rfl rfl rfl qo (by simp) (by simp) ?_; intro w9 ht9 b9)
    exact bodyPost_ret (z65 rfl rfl b9) rfl ⟨rfl, hba.trans (ht9.below _ (by have := HGO.out; omega))⟩
  · have d0 : decide (k < 0) = false := by simpa using h0
    by_cases h1 : k > n
    · have d1 : decide (k > n) = true := by simpa using h1
      go_enter Tryz.func96, Tryz.ntmps96
      go_upto_region 2 with (fail)
      change Code.wp _ _ _ _ (((w.alloc (.cells (dgC old) 25)).alloc (.cells (dgC root) 25)).alloc (.cells #[.bool false] 4))
      rw [← HWA.out, ← HGO.out]
      go_wp2_with ((with_reducible show sn); refine z1e (g := go) (j := 0) (v := .bool false) (cs' := #[.bool false]) rfl rfl (by kernel_rfl) rfl rfl rfl qo (by simp) (by simp) ?_; intro w9 ht9 b9)
      exact bodyPost_ret (z65 rfl rfl b9) rfl ⟨rfl, hba.trans (ht9.below _ (by have := HGO.out; omega))⟩
    · have d1 : decide (k > n) = false := by simpa using h1
      have d2 : decide (n > 1099511627776) = true := by simp; omega
      go_enter Tryz.func96, Tryz.ntmps96
      go_upto_region 2 with (fail)
      change Code.wp _ _ _ _ (((w.alloc (.cells (dgC old) 25)).alloc (.cells (dgC root) 25)).alloc (.cells #[.bool false] 4))
      rw [← HWA.out, ← HGO.out]
      go_wp2_with ((with_reducible show sn); refine z1e (g := go) (j := 0) (v := .bool false) (cs' := #[.bool false]) rfl rfl (by kernel_rfl) rfl rfl rfl qo (by simp) (by simp) ?_; intro w9 ht9 b9)
      exact bodyPost_ret (z65 rfl rfl b9) rfl ⟨rfl, hba.trans (ht9.below _ (by have := HGO.out; omega))⟩
theorem zo0 {nd : Nat → Nat → Nat} {em : Nat} (N : Nds nd em) (old root : Nat) (k n : Int) (l : List Nat) (A : Option Addr) (m c : Nat) (w : World) (hold : old < 2 ^ 128) (hroot : root < 2 ^ 128)
    (hm : m ≤ 1000000) (hr : RdD w A m l) (hll : ∀ x ∈ l, x < 2 ^ 128) (hmc : m ≤ c) (hcm : c ≤ maxLen) (hg : GCon w) :
    Calls Tryz.prog 96 #[.int .i64 k, .int .i64 n, dgV old, dgV root, .slice A m c] w (BIs (z6z nd em k n old root l) w) := by
  unfold z6z
  by_cases h : 0 ≤ k ∧ k ≤ n ∧ n ≤ 1099511627776
  · rw [if_pos h]
    obtain ⟨j, rfl⟩ : ∃ j : Nat, k = j := ⟨k.toNat, by omega⟩
    obtain ⟨N', rfl⟩ : ∃ j : Nat, n = j := ⟨n.toNat, by omega⟩
    by_cases h0 : j = 0
    · subst h0
      exact zo4 N old root N' l A m c w hold (by omega) hm hr hmc hcm hg
    · rw [if_neg (by omega)]
      exact zo3 N old root j N' l A m c w hold hroot (by omega) (by omega) (by omega) hm hr hll hmc hcm hg
  · rw [if_neg h]
    exact zo1 old root m c A k n w h
end
section
open Go.RowKit Exch Merk Go.Shelf
attribute [local go_sem] Oper.semAt_some
section
variable {F : Fence} {n : Nat} {P : Program} {w : World} {ops : Array Oper} {rest : List Oper} {o : Oper} {a : Act} {Q : Exit → Act → World → Prop}
theorem zm9 (hgd : o.guard = none) {t : TypeId} {x : Operand} (ho : o.op = .load t x) {p : Addr} (ha : a.eval x = .pointer (some p)) {us : List Value}
  (hu : (P.underlying t).map z0g = some true) (hi : (P.info? t).map (·.size) = some us.length) (hc : ∀ j u, us[j]? = some u → w.cell? (p.add j) = some u) (h : wpListIn F n P ops Q rest (a.put o.dst (.agg us.toArray)) w) : wpListIn F n P ops Q (o :: rest) a w := by
 refine wpListIn_plain hgd fun K hK => ?_
 unfold Oper.wpIn
 refine ⟨by simp [Oper.about, ho], ?_⟩
 rw [Oper.semAt_plain F _ _ (by rw [ho]; intro c hc'; cases hc')]
 unfold execOp
 simp only [ho, ha, Instr.loadAt, Instr.sureAddr, Sem.run_bind, Sem.run_pure, Result.andThen_ok, z9z (w := w) hu hi hc]
 exact hK _ _ h
theorem zbt (hgd : o.guard = none) {ty : TypeId} {x : Operand} (ho : o.op = .load ty x) {g : Nat} (hx : a.eval x = .pointer (some ⟨g, 0, none⟩)) {T : TypeId} {cs : Array Value} (hb : Blk w g T cs)
  (hu : (P.underlying ty).map z0g = some true) (hi : (P.info? ty).map (·.size) = some cs.size) (h : wpListIn F n P ops Q rest (a.put o.dst (.agg cs)) w) : wpListIn F n P ops Q (o :: rest) a w := by
 refine wpListIn_plain hgd fun K hK => ?_
 unfold Oper.wpIn
 refine ⟨by simp [Oper.about, ho], ?_⟩
 rw [Oper.semAt_plain F _ _ (by rw [ho]; intro c hc'; cases hc')]
 unfold execOp
 simp only [ho, hx, Instr.loadAt, Instr.sureAddr, Sem.run_bind, Sem.run_pure, Result.andThen_ok, z5o w g T ty cs hb hu hi]
 exact hK _ _ h
theorem zaa (hgd : o.guard = none) {ty : TypeId} {x y : Operand} (ho : o.op = .store ty x y) {g : Nat} (hx : a.eval x = .pointer (some ⟨g, 0, none⟩)) {T : TypeId} {cs vs : Array Value} (hy : a.eval y = .agg vs) (hb : Blk w g T cs) (hs : vs.size = cs.size)
  (hi : (P.info? ty).map (·.size) = some vs.size) (h1 : vs.all (·.oneCell') = true)
  (h : ∀ w', w' = w.setCells g 0 vs.toList → Blk w' g T vs → Below g w w' → wpListIn F n P ops Q rest (a.put o.dst undef) w') : wpListIn F n P ops Q (o :: rest) a w := by
 refine wpListIn_plain hgd fun K hK => ?_
 unfold Oper.wpIn
 refine ⟨by simp [Oper.about, ho], ?_⟩
 rw [Oper.semAt_plain F _ _ (by rw [ho]; intro c hc'; cases hc')]
 unfold execOp
 simp only [ho, hx, hy, Instr.storeAt, Instr.sureAddr, Sem.run_bind, Sem.run_pure, Result.andThen_ok, run_storeVar_mid w g 0 ty vs (hb.there (by omega)) hi h1]
 exact hK _ _ (h _ rfl (hb.all vs hs) (z0u (Below.refl _ _) (Nat.le_refl _) 0 _))
theorem zw5 {o : Oper} {rest : List Oper} (hgd : o.guard = none) {x : Operand} (ho : o.op = .load 25 x) {p : Addr} (ha : a.eval x = .pointer (some p)) {k : Nat}
  (hc : ∀ j u, (bv (dg k))[j]? = some u → w.cell? (p.add j) = some u) (h : wpListIn F n Tryz.prog ops Q rest (a.put o.dst (dgV k)) w) : wpListIn F n Tryz.prog ops Q (o :: rest) a w :=
 zm9 (us := bv (dg k)) hgd ho ha yn (by rw [yf, z01]) hc h
end
structure z0n (g B : Nat) (w w' : World) : Prop where
 os : w'.os = w.os
 tape : w'.tape = w.tape
 output : w'.output = w.output
 size : w.heap.size ≤ w'.heap.size
 block : ∀ k, k < B → k ≠ g → w'.heap[k]? = w.heap[k]?
section
variable {g B : Nat} {w w1 w2 : World}
theorem z0n.refl (g B : Nat) (w : World) : z0n g B w w := ⟨rfl, rfl, rfl, Nat.le_refl _, fun _ _ _ => rfl⟩
theorem z0n.trans (h : z0n g B w w1) (k : z0n g B w1 w2) : z0n g B w w2 :=
 ⟨k.os.trans h.os, k.tape.trans h.tape, k.output.trans h.output, Nat.le_trans h.size k.size, fun i hi hg => (k.block i hi hg).trans (h.block i hi hg)⟩
theorem z0n.of_below (h : Below B w w1) : z0n g B w w1 := ⟨h.os, h.tape, h.output, h.size, fun k hk _ => h.block k hk⟩
theorem z0n.cell (h : z0n g B w w1) {p : Addr} (hp : p.block < B) (hg : p.block ≠ g) : w1.cell? p = w.cell? p := World.cell?_of_block (h.block _ hp hg)
theorem z0n.setCells (w : World) (g B o : Nat) (vs : List Value) : z0n g B w (w.setCells g o vs) := by
 have h := zbc g vs o w
 exact ⟨h.1, h.2.1, h.2.2, by rw [z77]; exact Nat.le_refl _, fun k _ hk => z8f g vs o w k hk⟩
theorem z0n.grown (h : z0n g B w w1) {row : Option Nat} (hg : w1.grownBy w2 row) (hn : B ≤ w1.heap.size) (hr : ∀ r, row = some r → B ≤ r) : z0n g B w w2 :=
 ⟨hg.os.trans h.os, hg.tape.trans h.tape, hg.output.trans h.output, Nat.le_trans h.size hg.size, fun k hk hne => (hg.block k (by omega) (fun e => by have := hr k e.symm; omega)).trans (h.block k hk hne)⟩
theorem zh7 {w : World} (hn : B ≤ w.heap.size) (W : World) (l : Nat) (o o' : Obj) (hl : w.heap.size ≤ l) (h : W.heap[l]? = some o) (_ : o.isCells = false) (_ : o.isWalk = false) : z0n g B W (W.putObj l o') :=
 (z0n.refl g B W).grown (grownBy_putObj' W l o') (by have := (Array.getElem?_eq_some_iff.1 h).1; omega) (fun k e => by cases e; omega)
theorem zjy {β : Type} {n₀ : Nat} {w₀ : World} (hn : n₀ ≤ w₀.heap.size) (hB : n₀ ≤ B) : OwnFrom B (fun (_ : β) W => z0n g n₀ w₀ W) :=
 fun _ _ _ _ hs hg hr => hs.grown hg (Nat.le_trans hn hs.size) (fun k e => Nat.le_trans hB (hr k e).1)
theorem z0n.blk (h : z0n g B w w1) {k : Nat} {T : TypeId} {cs : Array Value} (hb : Blk w k T cs) (hk : k < B) (hg : k ≠ g) : Blk w1 k T cs := (h.block k hk hg).trans hb
theorem z0n.below {C : Nat} (h : z0n g B w w1) (hC : C ≤ B) (hg : C ≤ g) : Below C w w1 := ⟨h.os, h.tape, h.output, h.size, fun k hk => h.block k (by omega) (by omega)⟩
end
def z4p {α : Type} (f : Nat → α) (k : Nat) : List α := (List.range k).map f
theorem zm1 {α : Type} (f : Nat → α) (k : Nat) : z4p f (k + 1) = z4p f k ++ [f k] := by simp [z4p, List.range_succ]
theorem zvo {α : Type} (f : Nat → α) (k : Nat) : (z4p f k).length = k := by simp [z4p]
def z57 (m : Nat) (L : Nat → Nat) (j : Nat) : Nat × Nat := (m - 1 - j, L (m - 1 - j))
theorem zn0 (F : Fence) (n : Nat) (h7 : F.fn 153) (hro : F.round = none) (hn : 1 ≤ n) (l Bs gx n₀ : Nat) (A : Option Addr) (m cap : Nat) (hm : m ≤ 1000) (hmc : m ≤ cap) (hcap : cap ≤ 9223372036854775807) (L : Nat → Nat)
  (J Jx : List (Nat × Nat) → World → Prop)
  (hY : ∀ pre x W, J pre W → pre.length < m → YieldAt F (n - 1) Tryz.prog l #[.int .i64 (x.1 : Int), dgV x.2] W fun e W' =>
   (e = .returned (.bool true) ∧ J (pre ++ [x]) W' ∧ z0n gx n₀ W W') ∨ (e = .returned (.bool false) ∧ Jx (pre ++ [x]) W'))
  (W : World) (hBn : Bs < n₀) (hBx : Bs ≠ gx) (hBs : W.cell? ⟨Bs, 0, none⟩ = some (.slice A m cap)) (hc : ∀ W', z0n gx n₀ W W' → ∀ i, i < m → ∃ ad, A = some ad ∧ ∀ j u, (bv (dg (L i)))[j]? = some u → W'.cell? ((ad.add (i * 16)).add j) = some u) (h0 : J [] W) :
  CallsIn F n Tryz.prog 153 #[.func (.yield l) #[] #[], .pointer (some ⟨Bs, 0, none⟩)] W fun e W' => (∃ v, e = .returned v) ∧
   ((∃ ys, ys = z4p (z57 m L) m ∧ J ys W') ∨ (∃ pre, (∃ k, k ≤ m ∧ pre = z4p (z57 m L) k) ∧ Jx pre W')) := by
 refine callsIn_of_wp Tryz.func153 rfl h7 ?_ hro
 simp only [Tryz.ntmps153, List.size_toArray, List.length_cons, List.length_nil, Nat.reduceAdd, Nat.reduceSub, Array.replicate_succ, Array.replicate_zero, List.push_toArray, List.append_toArray, List.nil_append, List.cons_append]
 gi_wp2
 gi_loopw [3] (fun i wr => ∃ q : Nat, q ≤ m ∧ i = .int .i64 ((q : Int) - 1) ∧ J (z4p (z57 m L) (m - q)) wr ∧ z0n gx n₀ W wr)
  (fun i _ => (intOf i + 1).toNat)
 case atStart => exact ⟨m, Nat.le_refl _, rfl, by rw [Nat.sub_self]; exact h0, z0n.refl _ _ _⟩
 case round =>
  obtain ⟨q, hq, rfl, hJs, hnx⟩ := hrel
  rcases q with _ | q
  ·gi_wp2
   go_end0
   exact ⟨⟨_, rfl⟩, .inl ⟨_, rfl, by simpa using hJs⟩⟩
  ·obtain ⟨ad, rfl, hcc⟩ := hc wr hnx q (by omega)
   have hBs' : wr.cell? ⟨Bs, 0, none⟩ = some (.slice (some ad) m cap) := (hnx.cell (p := ⟨Bs, 0, none⟩) hBn hBx).trans hBs
   obtain ⟨fn, tmps, assign, body, hy, hR⟩ := hY _ (q, L q) wr hJs (by rw [zvo]; omega)
   have hup : z4p (z57 m L) (m - (q + 1)) ++ [(q, L q)] = z4p (z57 m L) (m - q) := by
    rw [show m - q = m - (q + 1) + 1 by omega, zm1]
    have e : z57 m L (m - (q + 1)) = (q, L q) := by unfold z57; rw [show m - 1 - (m - (q + 1)) = q by omega]
    rw [e]
   rw [hup] at hR
   dsimp only at hy
   generalize L q = x at *
   have e1 : (((q + 1 : Nat) : Int) - 1) = q := by omega
   rw [e1]
   clear e1 hup hY hc
   have hqm : q < m := by omega
   gi_wp2_with (refine zw5 (k := x) rfl rfl rfl hcc ?_)
   refine hR.mono ?_
   rintro e W3 (⟨rfl, hJ3, hk3⟩ | ⟨rfl, hJx3⟩)
   ·gi_wp2
    go_roundw
    case rel => exact ⟨q, by omega, rfl, hJ3, hnx.trans hk3⟩
    case measure => simp [intOf]
   ·gi_wp2
    refine bodyPost_ret (results_none rfl _ _ _) rfl ?_
    exact ⟨⟨_, rfl⟩, .inr ⟨_, ⟨m - q, by omega, rfl⟩, hJx3⟩⟩
theorem zh3 (A : Option Addr) (m c : Nat) (w : World) :
  Calls Tryz.prog 117 #[.slice A m c] w fun e w' => e = .returned (.func (.func 153) #[] #[.pointer (some ⟨w.heap.size, 0, none⟩)]) ∧ w' = w.alloc (.cells #[.slice A m c] 37) := by
 go_enter Tryz.func117, Tryz.ntmps117
 go_wp2
 go_ret
 exact ⟨rfl, rfl⟩
theorem zh4 (n : Nat) (hn : 1 ≤ n) (Bs gx n₀ : Nat) (A : Option Addr) (m cap : Nat) (hm : m ≤ 1000) (hmc : m ≤ cap) (hcap : cap ≤ 9223372036854775807) (L : Nat → Nat) (w : World) (hBs : Bs < n₀) (hBx : Bs ≠ gx) (hn₀ : n₀ ≤ w.heap.size)
  (hs : w.cell? ⟨Bs, 0, none⟩ = some (.slice A m cap)) (hc : ∀ W', z0n gx n₀ w W' → ∀ i, i < m → ∃ ad, A = some ad ∧ ∀ j u, (bv (dg (L i)))[j]? = some u → W'.cell? ((ad.add (i * 16)).add j) = some u) :
  SeqStopsK Fence.wide n Tryz.prog 153 #[.pointer (some ⟨Bs, 0, none⟩)] (fun x : Nat × Nat => #[Value.int .i64 (x.1 : Int), dgV x.2]) (z0n gx n₀) (fun ys => ys = z4p (z57 m L) m) (fun pre => ∃ k, k ≤ m ∧ pre = z4p (z57 m L) k) m w := fun l J Jx W hW _ _ hY h0 =>
 zn0 Fence.wide n trivial rfl hn l Bs gx n₀ A m cap hm hmc hcap L J Jx hY W hBs hBx ((hW.cell (p := ⟨Bs, 0, none⟩) (by show Bs < _; omega)).trans hs) (fun W' hb => hc W' ((z0n.of_below (hW.mono hn₀)).trans hb)) h0
theorem zcb {β : Type} (B : Nat) (t : TypeId) (f : β → Array Value) : Go.Own (fun s W => Blk W B t (f s)) := fun s X Y row hs hg hrow =>
 (hg.block B hs.lt (fun e' => by
  obtain ⟨o, ho, hc⟩ := hrow B e'.symm
  rw [show X.heap[B]? = _ from hs] at ho
  cases ho
  cases hc)).trans hs
theorem zcr {B : Nat} {W W' : World} (hb : Below W.heap.size W W') : KeepsFrom B W W' := ⟨hb.size, fun k o _ hk _ => (hb.block k (Array.getElem?_eq_some_iff.1 hk).1).trans hk⟩
theorem ziv {B : Nat} {W : World} {g : Nat} (hg : g < B) (o : Nat) (vs : List Value) : KeepsFrom B W (W.setCells g o vs) := ⟨by rw [z77]; exact Nat.le_refl _, fun k ob hB hk _ => (z8f g vs o W k (by omega)).trans hk⟩
end
end Go.Proofs.YtcapckngikekpaaGreatDoor
