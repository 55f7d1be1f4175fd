/-
  Known of the functions of this seat's laws, joined. Conditions: each theorem's own.
-/
import Derived.Test.YtcapckngikekpaaGreatDoorF4
import Derived.Defers
namespace Go.Proofs.YtcapckngikekpaaGreatDoor
set_option linter.unusedSimpArgs false
set_option linter.unusedVariables false
set_option maxRecDepth 100000
set_option maxHeartbeats 16000000
section
open Go.RowKit Exch
theorem zp8 {nd : Nat → Nat → Nat} {em : Nat} (N : Nds nd em) (w0 : World) (gp gt B : Nat) (hpos : Pos w0 gp gt B) (hg : GCon w0) (K : Nat) : ∀ (l : List Nat) (i : Nat) (mk : Bool) (A : Option Addr) (n c : Nat) (P : List Nat) (w : World), n ≤ K → n ≤ 1000000 → P.length + n ≤ 2000000 → 1 ≤ i → i ≤ n → RdD w0 A n l → n ≤ c → c ≤ maxLen →
  Acc w0 gp gt B 164 (fnV 126 [gt, gp]) P w →
  Calls Tryz.prog 126 #[.slice A n c, .int .i64 i, .bool mk, .pointer (some ⟨gt, 0, none⟩), .pointer (some ⟨gp, 0, none⟩)] w (z5n w0 gp gt B 164 (fnV 126 [gt, gp]) (P ++ Merk.csy nd em l i mk)) := by
 induction K with
 | zero => intro l i mk A n c P w hK hn hP hi hi2; omega
 | succ K ih =>
  intro l i mk A n c P w hK hn hP hi hi2 hr hnc hcm hacc
  have hl := hr.len
  by_cases h1 : i = n
  ·have e1 : ((i : Int) == n) = true := by simp; omega
   cases mk with
   | true =>
    rw [Merk.csy_true nd em (by omega), List.append_nil]
    unfold z5n
    go_enter Tryz.func126, Tryz.ntmps126
    go_wp2_with fail
    refine bodyPost_ret (results_none rfl _ _ _) rfl ?_
    exact ⟨rfl, hacc⟩
   | false =>
    rw [Merk.csy_false nd em (by omega)]
    have HRT := ya (fun (W : World) (hb : Below w0.heap.size w0 W) => z9t N n l A n c W (Nat.le_refl _) (by omega) (hr.below hb) hnc hcm (hg.below hb))
    have HPQ : Hid (P.length + 1 ≤ 3000000) := ya (by omega)
    clear ih hr hcm hl
    generalize Merk.root nd em l = X at *
    obtain ⟨v, hSv, hownv⟩ := hacc
    have hS := hSv.below (Below.refl w.heap.size w).drew
    have hown5 := hownv.below (Below.refl w.heap.size w).drew
    clear hSv hownv
    unfold z2z at HRT
    unfold z5n
    generalize hF : fnV 126 [gt, gp] = F at *
    clear hF
    go_enter Tryz.func126, Tryz.ntmps126
    go_upto_region 2 with (fail)
    refine z27 (S := z44 w0 gp gt B 164 F v) 5 (by kernel_rfl) ?_
    refine WpT.tl 0 rfl (z43 rfl rfl rfl (by kernel_rfl) (fun W h => h.var.cell 0)) hS ?_
    simp only [nrm]
    refine WpT.tk 1 hS ?_
    simp only [nrm]
    refine WpT.on 2 rfl (fun K hK => ?_)
    go_simp; refine (HRT.out _ hS.old).mono ?_; rintro e w6 ⟨rfl, hb6⟩; replace hS := hS.below hb6; replace hown5 := hown5.below hb6
    refine hK _ _ hS ?_; clear hK K; try simp only [nrm]
    refine WpT.on 3 rfl (fun K hK => ?_)
    refine (if_pos (by rfl)).mpr ?_; refine z7z rfl (by rfl) ?_; intro w7 g7 hg7 hr7 hb7; clear hg7; replace hS := hS.below hb7; replace hown5 := hown5.below hb7
    refine hK _ _ hS ?_; clear hK K; try simp only [nrm]
    refine WpT.on 4 rfl (fun K hK => ?_)
    refine (if_pos (by rfl)).mpr ?_; refine z4c rfl z38 (by rfl) hown5 (by rfl) (m := 1) hr7 (z3b [X]) (by have := HPQ.out; omega) hS.sz ?_; intro v8 w8 hown8 hg8 hb8; replace hS := hS.grown hpos hg8 hb8 (zbc hown5); replace hown8 : yg w8 B v8 (P ++ [X]) := yg.app hown8
    refine hK _ _ hS ?_; clear hK K; try simp only [nrm]
    refine WpT.ta 5 rfl (fun K hK => ?_)
    refine (if_pos (by rfl)).mpr ?_; refine z77 (j := 0) (v := v8) (cs' := #[v8]) rfl (by kernel_rfl) (by rfl) (by rfl) (zbb hown8) hS.var (by simp) (by simp) ?_; intro w9 ht9 b9
    refine hK _ _ ?_; clear hK K; try simp only [nrm]
    refine WpT.done (by kernel_rfl) ?_ _
    skip
    have hfin : Acc w0 gp gt B 164 F (P ++ [X]) w9 := ⟨v8, hS.turned hpos ht9 b9, ht9.own hown8 (zba hown8 hpos.tB)⟩
    clear hS hown8 hown5 ht9 b9
    go_wp2_with fail
    refine bodyPost_ret (results_none rfl _ _ _) rfl ?_
    exact ⟨rfl, hfin⟩
  ·have hk1 := Merk.split_lt (n := n) (by omega)
   have hk0 := Merk.split_pos n
   have HS := ya (fun W => zbj n W (by omega) (by omega))
   have hcm2 : c ≤ 9223372036854775807 := hcm
   have e1 : ((i : Int) == n) = false := by simp; omega
   by_cases hik : i ≤ Merk.split n
   ·
    have hx := Merk.csy_left nd em (l := l) (m := i) mk (by omega) (by omega) (by rw [hl]; exact hik)
    rw [hl] at hx
    have hpl := Merk.csy_len nd em _ (l.take (Merk.split n)) i mk (Nat.le_refl _) hi (by simp; omega)
    rw [List.length_take] at hpl
    have HI := ya (fun (W : World) (h : Acc w0 gp gt B 164 (fnV 126 [gt, gp]) P W) => ih (l.take (Merk.split n)) i mk A (Merk.split n) (Merk.split n) P W (by omega) (by omega) (by omega) hi hik (hr.take (by omega)) (Nat.le_refl _) (by omega) h)
    have HRT := ya (fun (W : World) (hb : Below w0.heap.size w0 W) => z9t N n (l.drop (Merk.split n)) (if c = Merk.split n then A else A.map (·.add (Merk.split n * 16))) (n - Merk.split n) (c - Merk.split n) W (by omega) (by omega) ((hr.drop (by omega) hnc).below hb) (by omega) (by omega) (hg.below hb))
    rw [hx, ← List.append_assoc]
    have HPL : Hid (P.length + (Merk.csy nd em (l.take (Merk.split n)) i mk).length + 1 ≤ 3000000) := ya (by omega)
    clear hx ih hr hcm hl hpl 
    generalize Merk.root nd em (l.drop (Merk.split n)) = X at *
    generalize Merk.csy nd em (l.take (Merk.split n)) i mk = Q at *
    generalize Merk.split n = k at *
    obtain ⟨v, hSv, hownv⟩ := hacc
    have hfn := hSv.fn.below (Below.refl w.heap.size w).drew
    have hacc2 : Acc w0 gp gt B 164 (fnV 126 [gt, gp]) P w.drew := Acc.below ⟨v, hSv, hownv⟩ (Below.refl _ _).drew
    have HACC := ya hacc2
    clear hSv hownv hacc2
    unfold z5n at HI ⊢
    unfold z2z at HRT
    have HPQ : Hid ((P ++ Q).length + 1 ≤ 3000000) := ya (by rw [List.length_append]; exact HPL.out)
    generalize P ++ Q = PQ at *
    generalize hF : fnV 126 [gt, gp] = F at *
    have HF := ya hF.symm
    clear hF
    have hik2 : (i : Int) ≤ (k : Int) := by omega
    go_enter Tryz.func126, Tryz.ntmps126
    go_upto_region 5 with (go_at_call 113; refine (HS.out _).mono ?_; rintro e w1 ⟨rfl, rfl⟩)
    rw [HF.out] at hfn
    refine z27 (S := fun W => Blk W gp 164 #[fnV 126 [gt, gp]]) 8 (by kernel_rfl) ?_
    refine WpT.tl 0 rfl (z43 rfl rfl rfl (by kernel_rfl) (fun W h => h.cell 0)) hfn ?_
    simp only [nrm]
    refine WpT.tk 1 hfn ?_
    simp only [nrm]
    refine WpT.tk 2 hfn ?_
    simp only [nrm]
    refine WpT.tk 3 hfn ?_
    simp only [nrm]
    refine WpT.tk 4 hfn ?_
    simp only [nrm]
    refine WpT.tk 5 hfn ?_
    simp only [nrm]
    refine WpT.tk 6 hfn ?_
    simp only [nrm]
    refine WpT.on 7 rfl (fun K hK => ?_)
    go_simp; refine (HI.out _ HACC.out).mono ?_; rintro e w5 ⟨rfl, v5, hS5, hown5⟩; have hfn5 := hS5.fn; rw [HF.out] at hfn5
    refine hK _ _ hfn5 ?_; clear hK K; try simp only [nrm]
    refine WpT.done (by kernel_rfl) ?_ _
    skip
    clear hfn hfn5 HACC
    have hS := hS5.below (Below.refl w5.heap.size w5).drew
    replace hown5 := hown5.below (Below.refl w5.heap.size w5).drew
    clear hS5
    go_upto_region 6 with (fail)
    refine z27 (S := z44 w0 gp gt B 164 F v5) 7 (by kernel_rfl) ?_
    refine WpT.tl 0 rfl (z43 rfl rfl rfl (by kernel_rfl) (fun W h => h.var.cell 0)) hS ?_
    simp only [nrm]
    refine WpT.tk 1 hS ?_
    simp only [nrm]
    refine WpT.tk 2 hS ?_
    simp only [nrm]
    refine WpT.tk 3 hS ?_
    simp only [nrm]
    refine WpT.on 4 rfl (fun K hK => ?_)
    go_simp; refine (HRT.out _ hS.old).mono ?_; rintro e w6 ⟨rfl, hb6⟩; replace hS := hS.below hb6; replace hown5 := hown5.below hb6
    refine hK _ _ hS ?_; clear hK K; try simp only [nrm]
    refine WpT.on 5 rfl (fun K hK => ?_)
    refine (if_pos (by rfl)).mpr ?_; refine z7z rfl (by rfl) ?_; intro w7 g7 hg7 hr7 hb7; clear hg7; replace hS := hS.below hb7; replace hown5 := hown5.below hb7
    refine hK _ _ hS ?_; clear hK K; try simp only [nrm]
    refine WpT.on 6 rfl (fun K hK => ?_)
    refine (if_pos (by rfl)).mpr ?_; refine z4c rfl z38 (by rfl) hown5 (by rfl) (m := 1) hr7 (z3b [X]) (by have := HPQ.out; omega) hS.sz ?_; intro v8 w8 hown8 hg8 hb8; replace hS := hS.grown hpos hg8 hb8 (zbc hown5); replace hown8 : yg w8 B v8 (PQ ++ [X]) := yg.app hown8
    refine hK _ _ hS ?_; clear hK K; try simp only [nrm]
    refine WpT.ta 7 rfl (fun K hK => ?_)
    refine (if_pos (by rfl)).mpr ?_; refine z77 (j := 0) (v := v8) (cs' := #[v8]) rfl (by kernel_rfl) (by rfl) (by rfl) (zbb hown8) hS.var (by simp) (by simp) ?_; intro w9 ht9 b9
    refine hK _ _ ?_; clear hK K; try simp only [nrm]
    refine WpT.done (by kernel_rfl) ?_ _
    skip
    have hfin : Acc w0 gp gt B 164 F (PQ ++ [X]) w9 := ⟨v8, hS.turned hpos ht9 b9, ht9.own hown8 (zba hown8 hpos.tB)⟩
    clear hS hown8 hown5 ht9 b9
    go_wp2_with fail
    refine bodyPost_end (results_none rfl _ _ _) rfl ?_
    exact ⟨rfl, hfin⟩
   ·
    have hx := Merk.csy_right nd em (l := l) (m := i) mk (by omega) (by omega) (by rw [hl]; exact hik)
    rw [hl] at hx
    have hpl := Merk.csy_len nd em _ (l.drop (Merk.split n)) (i - Merk.split n) false (Nat.le_refl _) (by omega) (by simp; omega)
    rw [List.length_drop] at hpl
    have HI := ya (fun (W : World) (h : Acc w0 gp gt B 164 (fnV 126 [gt, gp]) P W) => ih (l.drop (Merk.split n)) (i - Merk.split n) false (if c = Merk.split n then A else A.map (·.add (Merk.split n * 16))) (n - Merk.split n) (c - Merk.split n) P W (by omega) (by omega) (by omega) (by omega) (by omega) (hr.drop (by omega) hnc) (by omega) (by omega) h)
    have HRT := ya (fun (W : World) (hb : Below w0.heap.size w0 W) => z9t N n (l.take (Merk.split n)) A (Merk.split n) (Merk.split n) W (by omega) (by omega) ((hr.take (by omega)).below hb) (Nat.le_refl _) (by omega) (hg.below hb))
    rw [hx, ← List.append_assoc]
    have hcast : ((i - Merk.split n : Nat) : Int) = (i : Int) - (Merk.split n : Int) := by omega
    rw [hcast] at HI
    have HPL : Hid (P.length + (Merk.csy nd em (l.drop (Merk.split n)) (i - Merk.split n) false).length + 1 ≤ 3000000) := ya (by omega)
    clear hx ih hr hcm hl hpl hcast
    generalize Merk.root nd em (l.take (Merk.split n)) = X at *
    generalize Merk.csy nd em (l.drop (Merk.split n)) (i - Merk.split n) false = Q at *
    generalize Merk.split n = k at *
    obtain ⟨v, hSv, hownv⟩ := hacc
    have hfn := hSv.fn.below (Below.refl w.heap.size w).drew
    have hacc2 : Acc w0 gp gt B 164 (fnV 126 [gt, gp]) P w.drew := Acc.below ⟨v, hSv, hownv⟩ (Below.refl _ _).drew
    have HACC := ya hacc2
    clear hSv hownv hacc2
    unfold z5n at HI ⊢
    unfold z2z at HRT
    have HPQ : Hid ((P ++ Q).length + 1 ≤ 3000000) := ya (by rw [List.length_append]; exact HPL.out)
    generalize P ++ Q = PQ at *
    generalize hF : fnV 126 [gt, gp] = F at *
    have HF := ya hF.symm
    clear hF
    have hik2 : ¬ (i : Int) ≤ (k : Int) := by omega
    have hsub : 0 ≤ (i : Int) - (k : Int) ∧ (i : Int) - (k : Int) ≤ 1000000 := by omega
    have HW : Hid (wrap64 ((i : Int) - (k : Int)) = (i : Int) - (k : Int) ∧ IntKind.i64.wrap ((i : Int) - (k : Int)) = (i : Int) - (k : Int)) := ya ⟨by unfold wrap64; omega, wrap_small _ (by omega) (by omega)⟩
    go_enter Tryz.func126, Tryz.ntmps126
    go_upto_region 7 with (go_at_call 113; refine (HS.out _).mono ?_; rintro e w1 ⟨rfl, rfl⟩)
    rw [HF.out] at hfn
    refine z27 (S := fun W => Blk W gp 164 #[fnV 126 [gt, gp]]) 8 (by kernel_rfl) ?_
    refine WpT.tl 0 rfl (z43 rfl rfl rfl (by kernel_rfl) (fun W h => h.cell 0)) hfn ?_
    simp only [nrm]
    refine WpT.tk 1 hfn ?_
    simp only [nrm]
    refine WpT.tk 2 hfn ?_
    simp only [nrm]
    refine WpT.tk 3 hfn ?_
    simp only [nrm]
    refine WpT.tk 4 hfn ?_
    simp only [nrm]
    refine WpT.tk 5 hfn ?_
    simp only [nrm]
    refine WpT.tk 6 hfn ?_
    simp only [nrm]
    refine WpT.on 7 rfl (fun K hK => ?_)
    go_simp; (try simp only [HW.out.1, HW.out.2]); refine (HI.out _ HACC.out).mono ?_; rintro e w5 ⟨rfl, v5, hS5, hown5⟩; have hfn5 := hS5.fn; rw [HF.out] at hfn5
    refine hK _ _ hfn5 ?_; clear hK K; try simp only [nrm]
    refine WpT.done (by kernel_rfl) ?_ _
    skip
    clear hfn hfn5 HACC
    have hS := hS5.below (Below.refl w5.heap.size w5).drew
    replace hown5 := hown5.below (Below.refl w5.heap.size w5).drew
    clear hS5
    go_upto_region 8 with (fail)
    refine z27 (S := z44 w0 gp gt B 164 F v5) 8 (by kernel_rfl) ?_
    refine WpT.tl 0 rfl (z43 rfl rfl rfl (by kernel_rfl) (fun W h => h.var.cell 0)) hS ?_
    simp only [nrm]
    refine WpT.tk 1 hS ?_
    simp only [nrm]
    refine WpT.tk 2 hS ?_
    simp only [nrm]
    refine WpT.tk 3 hS ?_
    simp only [nrm]
    refine WpT.tk 4 hS ?_
    simp only [nrm]
    refine WpT.on 5 rfl (fun K hK => ?_)
    go_simp; refine (HRT.out _ hS.old).mono ?_; rintro e w6 ⟨rfl, hb6⟩; replace hS := hS.below hb6; replace hown5 := hown5.below hb6
    refine hK _ _ hS ?_; clear hK K; try simp only [nrm]
    refine WpT.on 6 rfl (fun K hK => ?_)
    refine (if_pos (by rfl)).mpr ?_; refine z7z rfl (by rfl) ?_; intro w7 g7 hg7 hr7 hb7; clear hg7; replace hS := hS.below hb7; replace hown5 := hown5.below hb7
    refine hK _ _ hS ?_; clear hK K; try simp only [nrm]
    refine WpT.on 7 rfl (fun K hK => ?_)
    refine (if_pos (by rfl)).mpr ?_; refine z4c rfl z38 (by rfl) hown5 (by rfl) (m := 1) hr7 (z3b [X]) (by have := HPQ.out; omega) hS.sz ?_; intro v8 w8 hown8 hg8 hb8; replace hS := hS.grown hpos hg8 hb8 (zbc hown5); replace hown8 : yg w8 B v8 (PQ ++ [X]) := yg.app hown8
    refine hK _ _ hS ?_; clear hK K; try simp only [nrm]
    refine WpT.ta 8 rfl (fun K hK => ?_)
    refine (if_pos (by rfl)).mpr ?_; refine z77 (j := 0) (v := v8) (cs' := #[v8]) rfl (by kernel_rfl) (by rfl) (by rfl) (zbb hown8) hS.var (by simp) (by simp) ?_; intro w9 ht9 b9
    refine hK _ _ ?_; clear hK K; try simp only [nrm]
    refine WpT.done (by kernel_rfl) ?_ _
    skip
    have hfin : Acc w0 gp gt B 164 F (PQ ++ [X]) w9 := ⟨v8, hS.turned hpos ht9 b9, ht9.own hown8 (zba hown8 hpos.tB)⟩
    clear hS hown8 hown5 ht9 b9
    go_wp2_with fail
    refine bodyPost_end (results_none rfl _ _ _) rfl ?_
    exact ⟨rfl, hfin⟩
theorem zp4 {nd : Nat → Nat → Nat} {em : Nat} (N : Nds nd em) (l : List Nat) (i : Nat) (A : Option Addr) (n c : Nat) (w : World) (hn : n ≤ 1000000) (hi : 1 ≤ i) (hi2 : i < n) (hr : RdD w A n l) (hnc : n ≤ c) (hcm : c ≤ maxLen) (hg : GCon w) :
  Calls Tryz.prog 84 #[.slice A n c, .int .i64 i] w (z35 (Merk.csy nd em l i true, 0) w) := by
 have hmf : ∀ (fn : Fn) (first cap : Array Value) (w : World), (Instr.makeFunc fn first cap).run Tryz.prog w = .ok (.func fn first cap) w := fun _ _ _ _ => rfl
 have d0 : decide ((i : Int) < 0) = false := by simp
 have d1 : decide ((i : Int) > (n : Int)) = false := by simp; omega
 have e0 : ((i : Int) == 0) = false := by simp; omega
 have e1 : ((i : Int) == (n : Int)) = false := by simp; omega
 have HI := ya (fun (gp gt B : Nat) (hpos : Pos w gp gt B) (W : World) (h : Acc w gp gt B 164 (fnV 126 [gt, gp]) [] W) => zp8 N w gp gt B hpos hg n l i true A n c [] W (Nat.le_refl _) hn (by simp; omega) hi (by omega) hr hnc hcm h)
 simp only [List.nil_append] at HI
 clear hr hg hcm
 generalize Merk.csy nd em l i true = P at *
 unfold z5n at HI
 unfold z35
 go_enter Tryz.func84, Tryz.ntmps84
 go_upto_region 7 with (fail)
 change Code.wp _ _ _ _ ((w.alloc (.cells #[.slice none 0 0] 37)).alloc (.cells #[.nilFunc] 164))
 obtain ⟨wa, hwa, hb0, q0, q1, hsz⟩ : ∃ wa : World, wa = (w.alloc (.cells #[.slice none 0 0] 37)).alloc (.cells #[.nilFunc] 164) ∧ Below w.heap.size w wa ∧ Blk wa w.heap.size 37 #[.slice none 0 0] ∧ Blk wa (w.heap.size + 1) 164 #[.nilFunc] ∧ wa.heap.size = w.heap.size + 2 :=
  ⟨_, rfl, ((Below.refl w.heap.size w).alloc (Nat.le_refl _) _).alloc (by simp) _, (Blk.new _ _ _).alloc _, Blk.new2 _ _ _ _, by simp⟩
 rw [← hwa]
 clear hwa
 obtain ⟨gt, hgt⟩ : ∃ g, g = w.heap.size := ⟨_, rfl⟩
 obtain ⟨gp, hgp⟩ : ∃ g, g = w.heap.size + 1 := ⟨_, rfl⟩
 rw [← hgt] at q0
 rw [← hgp] at q1
 have hpos : Pos w gp gt wa.heap.size := ⟨by omega, by omega, by omega, by omega, by omega⟩
 have HGP := ya hgp
 have HGT := ya hgt
 rw [← hgp, ← hgt]
 clear hsz hgp hgt
 go_upto_region 8 with ((with_reducible show sn); refine z18 (g := gp) (j := 0) (v := fnV 126 [gt, gp]) (cs' := #[fnV 126 [gt, gp]]) rfl rfl (by kernel_rfl) rfl rfl rfl q1 (by simp) (by simp) ?_; intro w2 ht2 b2)
 have hacc : Acc w gp gt wa.heap.size 164 (fnV 126 [gt, gp]) [] w2 :=
  ⟨.slice none 0 0, ⟨hb0.trans (ht2.below _ hpos.p), b2, ht2.blk q0 hpos.ne.symm, by rw [ht2.size]; exact Nat.le_refl _⟩, yg.nil _ _⟩
 have HI2 := ya (HI.out gp gt wa.heap.size hpos w2 hacc)
 have c2 := b2.cell 0
 simp only [List.getElem?_toArray, List.getElem?_cons_zero] at c2
 clear b2 ht2 q0 q1 hacc HI
 go_wp2_with fail
 refine HI2.out.mono ?_
 rintro e w5 ⟨rfl, v5, hS5, hown5⟩
 have c5 := hS5.var.cell 0
 simp only [List.getElem?_toArray, List.getElem?_cons_zero] at c5
 have hsz : w.heap.size ≤ wa.heap.size := hb0.size
 have hold := hS5.old
 clear hS5
 go_wp2_with fail
 refine bodyPost_ret (results_tmp2 rfl _ _ _) rfl ?_
 exact ⟨_, rfl, hown5.lower hsz, hold⟩
theorem zp5 (i : Int) (A : Option Addr) (n c : Nat) (w : World) (h : i < 0 ∨ (n : Int) < i) :
  Calls Tryz.prog 84 #[.slice A n c, .int .i64 i] w (z35 ([], 1) w) := by
 unfold z35
 by_cases h0 : i < 0
 ·have d0 : decide (i < 0) = true := by simpa using h0
  go_enter Tryz.func84, Tryz.ntmps84
  go_wp2_with fail
  refine bodyPost_ret (results_tmp2 rfl _ _ _) rfl ?_
  exact ⟨_, rfl, yg.nil _ _, Below.refl _ _⟩
 ·have d0 : decide (i < 0) = false := by simpa using h0
  have d1 : decide (i > (n : Int)) = true := by simp; omega
  go_enter Tryz.func84, Tryz.ntmps84
  go_wp2_with fail
  refine bodyPost_ret (results_tmp2 rfl _ _ _) rfl ?_
  exact ⟨_, rfl, yg.nil _ _, Below.refl _ _⟩
theorem zp3 {nd : Nat → Nat → Nat} {em : Nat} (N : Nds nd em) (l : List Nat) (i : Int) (A : Option Addr) (n c : Nat) (w : World) (hn : n ≤ 1000000) (hr : RdD w A n l) (hnc : n ≤ c) (hcm : c ≤ maxLen) (hg : GCon w) :
  Calls Tryz.prog 84 #[.slice A n c, .int .i64 i] w (z35 (z2s nd em l i) w) := by
 have hl := hr.len
 unfold z2s
 by_cases h : 0 ≤ i ∧ i ≤ l.length
 ·rw [if_pos h]
  obtain ⟨k, rfl⟩ : ∃ k : Nat, i = k := ⟨i.toNat, by omega⟩
  by_cases h0 : (k : Int) = 0 ∨ (k : Int) = l.length
  ·rw [if_pos h0]
   have d0 : decide ((k : Int) < 0) = false := by simp
   have d1 : decide ((k : Int) > (n : Int)) = false := by simp; omega
   unfold z35
   clear hr hg
   by_cases h1 : k = 0
   ·have e0 : ((k : Int) == 0) = true := by simp; omega
    go_enter Tryz.func84, Tryz.ntmps84
    go_wp2_with fail
    refine bodyPost_ret (results_tmp2 rfl _ _ _) rfl ?_
    exact ⟨_, rfl, yg.nil _ _, Below.refl _ _⟩
   ·have e0 : ((k : Int) == 0) = false := by simp; omega
    have e1 : ((k : Int) == n) = true := by simp; omega
    go_enter Tryz.func84, Tryz.ntmps84
    go_wp2_with fail
    refine bodyPost_ret (results_tmp2 rfl _ _ _) rfl ?_
    exact ⟨_, rfl, yg.nil _ _, Below.refl _ _⟩
  ·rw [if_neg h0]
   exact zp4 N l k A n c w hn (by omega) (by omega) hr hnc hcm hg
 ·rw [if_neg h]
  exact zp5 i A n c w (by omega)
end
section
open Go.RowKit Exch Merk
structure z08 (ex : List Nat) (w w' : World) : Prop where
 os : w'.os = w.os
 tape : w'.tape = w.tape
 output : w'.output = w.output
 size : w.heap.size ≤ w'.heap.size
 block : ∀ k, k < w.heap.size → k ∉ ex → w'.heap[k]? = w.heap[k]?
section
variable {ex : List Nat} {w w1 w2 : World} {g : Nat}
theorem z08.refl (ex : List Nat) (w : World) : z08 ex w w := ⟨rfl, rfl, rfl, Nat.le_refl _, fun _ _ _ => rfl⟩
theorem z08.of_below (h : Below w.heap.size w w1) : z08 ex w w1 := ⟨h.os, h.tape, h.output, h.size, fun k hk _ => h.block k hk⟩
theorem z08.trans (h : z08 ex w w1) (k : z08 ex w1 w2) : z08 ex w w2 :=
 ⟨k.os.trans h.os, k.tape.trans h.tape, k.output.trans h.output, Nat.le_trans h.size k.size, fun i hi he => (k.block i (Nat.lt_of_lt_of_le hi h.size) he).trans (h.block i hi he)⟩
theorem z08.later (h : z08 ex w w1) (hb : Below w1.heap.size w1 w2) : z08 ex w w2 := h.trans (z08.of_below hb)
theorem z08.turned (h : z08 ex w w1) (ht : z0w g w1 w2) (hg : g ∈ ex ∨ w.heap.size ≤ g) : z08 ex w w2 :=
 ⟨(ht.below 0 (Nat.zero_le _)).os.trans h.os, (ht.below 0 (Nat.zero_le _)).tape.trans h.tape, (ht.below 0 (Nat.zero_le _)).output.trans h.output, by rw [ht.size]; exact h.size, fun k hk hne => (ht.far k (fun e => by
  rcases hg with hg | hg
  ·exact hne (e ▸ hg)
  ·omega)).trans (h.block k hk hne)⟩
theorem z08.blk (h : z08 ex w w1) {T : TypeId} {cs : Array Value} (hb : Blk w g T cs) (hg : g ∉ ex) : Blk w1 g T cs := (h.block g hb.lt hg).trans hb
theorem z08.below {B : Nat} (h : z08 ex w w1) (hB : B ≤ w.heap.size) (hex : ∀ g ∈ ex, B ≤ g) : Below B w w1 :=
 ⟨h.os, h.tape, h.output, h.size, fun k hk => h.block k (by omega) (fun e => by have := hex k e; omega)⟩
theorem z08.more (h : z08 ex w w1) {ex' : List Nat} (hs : ∀ g ∈ ex, g ∈ ex' ∨ w.heap.size ≤ g) : z08 ex' w w1 :=
 ⟨h.os, h.tape, h.output, h.size, fun k hk hne => h.block k hk (fun e => by rcases hs k e with h1 | h1; exact hne h1; omega)⟩
end
theorem RdD.zero (W : World) (A : Option Addr) : RdD W A 0 [] := ⟨rfl, ⟨rfl, fun k u hk => by simp [z2b] at hk⟩⟩
structure z2m (w0 : World) (gb : Nat) (p : Pth) (W : World) : Prop where
 old : Below w0.heap.size w0 W
 ge : w0.heap.size ≤ gb
 blk : ∃ A n c, RdD w0 A n p.l ∧ n ≤ 1000000 ∧ n ≤ c ∧ c ≤ maxLen ∧ Blk W gb 174 #[.slice A n c, .bool p.short]
theorem z2m.below {w0 W W' : World} {gb : Nat} {p : Pth} (h : z2m w0 gb p W) (hb : Below W.heap.size W W') : z2m w0 gb p W' := by
 obtain ⟨A, n, c, h1, h2, h3, h4, h5⟩ := h.blk
 exact ⟨yb h.old hb, h.ge, A, n, c, h1, h2, h3, h4, h5.below hb⟩
theorem z2m.grew {w0 W W' : World} {gb : Nat} {p : Pth} {ex : List Nat} (h : z2m w0 gb p W) (hg : z08 ex W W') (hne : gb ∉ ex) (hex : ∀ g ∈ ex, w0.heap.size ≤ g) : z2m w0 gb p W' := by
 obtain ⟨A, n, c, h1, h2, h3, h4, h5⟩ := h.blk
 exact ⟨h.old.trans (hg.below h.old.size hex), h.ge, A, n, c, h1, h2, h3, h4, hg.blk h5 hne⟩
def z84 (r : Nat × Pth) (w0 : World) (gb : Nat) (w : World) (e : Ending) (w' : World) : Prop := e = .returned (dgV r.1) ∧ z2m w0 gb r.2 w' ∧ z08 [gb] w w'
theorem zco (p : Pth) (w0 : World) (gb : Nat) (w : World) (h : z2m w0 gb p w) : Calls Tryz.prog 135 #[.pointer (some ⟨gb, 0, none⟩)] w (z84 p.last w0 gb w) := by
 obtain ⟨l, s⟩ := p
 obtain ⟨hold, hge, A, n, c, hr, hn, hnc, hcm, hb⟩ := h
 have hcm2 : c ≤ 9223372036854775807 := hcm
 have hl := hr.len
 simp only at hl hr hb
 unfold z84
 by_cases h0 : n = 0
 ·subst h0
  obtain rfl := List.eq_nil_of_length_eq_zero hl
  rw [zfb]
  have HB := ya hb
  go_enter Tryz.func135, Tryz.ntmps135
  go_upto_region 1 with ((with_reducible show sl 2); refine z0t (cs := dgC 0) rfl rfl z0n ?_; intro w1 g1 hg1 q1 hb1 lt1; have HG1 := ya hg1; clear hg1)
  have b1 := HB.out.below hb1
  have c0 := b1.cell 0
  simp only [List.getElem?_toArray, List.getElem?_cons_zero] at c0
  go_upto_region 4 with ((with_reducible show sn); refine z18 (g := gb) (j := 1) (v := .bool true) (cs' := #[.slice A 0 c, .bool true]) rfl rfl (by kernel_rfl) rfl rfl rfl b1 (by simp) (by simp) ?_; intro w2 ht2 b2)
  have q2 := ht2.blk q1 (by have h1 := HB.out.lt; have h2 := HG1.out; omega)
  have ho := (yb hold hb1).trans (ht2.below _ hge)
  have hgr : z08 [gb] w w2 := (z08.of_below hb1).turned ht2 (.inl (by simp))
  clear b1 q1 ht2 c0 hb hr
  go_wp2_with ((with_reducible show sn); refine z01 (vs := dgC 0) rfl rfl rfl rfl q2 rfl (by rw [yf, yc]) (z0c _) ?_; intro w9 ht9 b9)
  have hne : g1 ≠ gb := by have h1 := HB.out.lt; have h2 := HG1.out; omega
  exact z02 rfl rfl rfl b9 yn (by rw [yf, yc]) ⟨rfl, ⟨ho.trans (ht9.below _ (by have := HG1.out; have := HB.out.lt; have := hold.size; omega)), hge, A, 0, c, RdD.zero _ _, by omega, by omega, hcm, ht9.blk b2 (fun e => hne e.symm)⟩, hgr.turned ht9 (.inr (by have := HG1.out; omega))⟩
 ·obtain ⟨m, hnm⟩ : ∃ m, n = m + 1 := ⟨n - 1, by omega⟩
  obtain ⟨l0, x, rfl⟩ : ∃ l0 x, l = l0 ++ [x] := by
   rcases List.eq_nil_or_concat l with rfl | ⟨l0, x, rfl⟩
   ·exfalso; simp at hl; omega
   ·exact ⟨l0, x, by simp⟩
  rw [z9e]
  have hm : l0.length = m := by simp at hl; omega
  have hx : (l0 ++ [x])[m]'(by simp; omega) = x := by simp [← hm]
  obtain ⟨ad, rfl, -⟩ := hr.elem (i := m) (by simp; omega)
  have HE : Hid (∀ W, Below w0.heap.size w0 W → ∀ j u, (bv (dg x))[j]? = some u → W.cell? ((ad.add (m * 16)).add j) = some u) := ya (fun W hb => by
   obtain ⟨ad2, e2, hc⟩ := (hr.below hb).elem (i := m) (by simp; omega)
   obtain rfl := Option.some.inj e2
   rwa [hx] at hc)
  have HT : Hid (RdD w0 (some ad) m l0) := ya (by have := hr.take (k := m) (by omega); rwa [List.take_append_of_le_length (by omega), List.take_of_length_le (by omega)] at this)
  have HB := ya hb
  have HO := ya hold
  have e0 : ((n : Int) == 0) = false := by simp; omega
  have e1 : (n : Int) - 1 = (m : Int) := by omega
  have e2 : 0 ≤ (m : Int) ∧ (m : Int) < (n : Int) := by omega
  have e3 : 0 ≤ (m : Int) ∧ (m : Int) ≤ (c : Int) := by omega
  have HNM := ya hnm
  clear hr hx hb hold hl hnm h0
  go_enter Tryz.func135, Tryz.ntmps135
  go_upto_region 1 with ((with_reducible show sl 2); refine z0t (cs := dgC 0) rfl rfl z0n ?_; intro w1 g1 hg1 q1 hb1 lt1; have HG1 := ya hg1; clear hg1)
  have b1 := HB.out.below hb1
  have c0 := b1.cell 0
  simp only [List.getElem?_toArray, List.getElem?_cons_zero] at c0
  have hcx := HE.out _ (yb HO.out hb1)
  go_upto_region 5 with (fail)
  go_upto_region 6 with (first
   | ((with_reducible show sl 23); refine yj (us := bv (dg x)) rfl rfl rfl yn (by rw [yf, z03]) hcx ?_)
   | ((with_reducible show sl 4); refine z0t (cs := dgC 0) rfl rfl z0n ?_; intro w2 g4 hg4 q4 hb2 lt4; have HG4 := ya hg4; clear hg4)
   | ((with_reducible show sn); refine z01 (vs := dgC x) rfl rfl rfl rfl q4 (by rw [yc, yc]) (by rw [yf, yc]) (z0c _) ?_; intro w3 ht3 b4))
  have b3 := ht3.blk (b1.below hb2) (by have := HG4.out; have := b1.lt; omega)
  have q3 := ht3.blk (q1.below hb2) (by have := HG4.out; omega)
  have hgr : z08 [gb] w w3 := ((z08.of_below hb1).later hb2).turned ht3 (.inr (by have := HG4.out; have := hb1.size; omega))
  have c3 := b3.cell 0
  simp only [List.getElem?_toArray, List.getElem?_cons_zero] at c3
  clear b1 q1 q4 c0 ht3 hcx HE
  go_upto_region 7 with ((with_reducible show sn); refine z18 (g := gb) (j := 0) (v := .slice (some ad) m m) (cs' := #[.slice (some ad) m m, .bool s]) rfl rfl (by kernel_rfl) rfl rfl rfl b3 (by simp) (by simp) ?_; intro w5 ht5 b5)
  have q5 := ht5.blk q3 (by have h1 := HB.out.lt; have h2 := HG1.out; omega)
  have b6 := ht5.blk b4 (by have h1 := HB.out.lt; have h2 := HG4.out; have := hb1.size; omega)
  replace hgr := hgr.turned ht5 (.inl (by simp))
  clear b3 q3 b4 ht5 c3
  go_wp2_with (first
   | ((with_reducible show sl 36); refine z12 rfl rfl rfl b6 yn (by rw [yf, yc]) ?_)
   | ((with_reducible show sn); refine z01 (vs := dgC x) rfl rfl rfl rfl q5 (by rw [yc, yc]) (by rw [yf, yc]) (z0c _) ?_; intro w9 ht9 b9))
  have hne : g1 ≠ gb := by have h1 := HB.out.lt; have h2 := HG1.out; omega
  have hgr9 := hgr.turned ht9 (.inr (by have := HG1.out; omega))
  exact z02 rfl rfl rfl b9 yn (by rw [yf, yc]) ⟨rfl, ⟨HO.out.trans (hgr9.below HO.out.size (by simp; exact hge)), hge, some ad, m, m, HT.out, by have := HNM.out; omega, Nat.le_refl _, by have := HNM.out; omega, ht9.blk b5 (fun e => hne e.symm)⟩, hgr9⟩
def z5g (b : Bool) (p : Pth) : Bool := b && (!p.short && decide (p.l = []))
def zh3 (b : Bool) (p : Pth) (go : Nat) (u : FrameMode) (w : World) (e : Ending) (u' : FrameMode) (w' : World) : Prop := u' = u ∧ e = .returned (.tuple #[]) ∧ Blk w' go 4 #[.bool (z5g b p)] ∧ Below go w w' ∧ z08 [go] w w'
theorem zdg (b : Bool) (p : Pth) (w0 : World) (gb go : Nat) (u : FrameMode) (w : World) (h : z2m w0 gb p w) (hb : Blk w go 4 #[.bool b]) :
  CallsD Tryz.prog 133 #[.pointer (some ⟨gb, 0, none⟩), .pointer (some ⟨go, 0, none⟩)] u w (zh3 b p go u w) := by
 obtain ⟨l, s⟩ := p
 obtain ⟨hold, hge, A, n, c, hr, hn, hnc, hcm, hp⟩ := h
 have hl := hr.len
 simp only at hl hr hp
 have c0 := hp.cell 0
 have c1 := hp.cell 1
 have o0 := hb.cell 0
 simp only [List.getElem?_toArray, List.getElem?_cons_zero, List.getElem?_cons_succ] at c0 c1 o0
 have hz : ((n : Int) == 0) = decide (l = []) := by
  by_cases h : n = 0
  ·have : l = [] := List.eq_nil_of_length_eq_zero (by omega)
   simp [h, this]
  ·have : l ≠ [] := by intro e; subst e; simp at hl; omega
   simp [this]; omega
 unfold zh3 z5g
 show CallsD _ _ _ _ _ fun e u' w' => u' = u ∧ e = .returned (.tuple #[]) ∧ Blk w' go 4 #[.bool (b && (!s && decide (l = [])))] ∧ Below go w w' ∧ z08 [go] w w'
 have hfin : ∀ (x : Bool) (w9 : World), z0w go w w9 → Blk w9 go 4 #[.bool x] → Below go w w9 ∧ z08 [go] w w9 := fun x w9 ht hb9 => ⟨ht.below _ (Nat.le_refl _), (z08.refl _ w).turned ht (.inl (by simp))⟩
 have HF := ya hfin
 clear hfin hr hp hold hge hl
 generalize decide (l = []) = z at *
 cases b with
 | false =>
  go_enter_d Tryz.func133, Tryz.ntmps133
  go_wp2_with ((with_reducible show sn); refine z18 (g := go) (j := 0) (v := .bool false) (cs' := #[.bool false]) rfl rfl (by kernel_rfl) rfl rfl rfl hb (by simp) (by simp) ?_; intro w9 ht9 b9)
  refine bodyPost_end (results_none rfl _ _ _) rfl ?_
  exact ⟨rfl, b9, HF.out _ _ ht9 b9⟩
 | true =>
  cases s with
  | true =>
   go_enter_d Tryz.func133, Tryz.ntmps133
   go_wp2_with ((with_reducible show sn); refine z18 (g := go) (j := 0) (v := .bool false) (cs' := #[.bool false]) rfl rfl (by kernel_rfl) rfl rfl rfl hb (by simp) (by simp) ?_; intro w9 ht9 b9)
   refine bodyPost_end (results_none rfl _ _ _) rfl ?_
   exact ⟨rfl, b9, HF.out _ _ ht9 b9⟩
  | false =>
   go_enter_d Tryz.func133, Tryz.ntmps133
   go_wp2_with ((with_reducible show sn); refine z18 (g := go) (j := 0) (v := .bool z) (cs' := #[.bool z]) rfl rfl (by kernel_rfl) rfl rfl rfl hb (by simp) (by simp) ?_; intro w9 ht9 b9)
   refine bodyPost_end (results_none rfl _ _ _) rfl ?_
   exact ⟨rfl, b9, HF.out _ _ ht9 b9⟩
theorem zoq (nd : Nat → Nat → Nat) (leaf i n : Nat) (p : Pth) (h : ¬ 2 ≤ n) : z0p nd leaf i n p = (leaf, p) := by rw [z0p, dif_neg h]
theorem zoo (nd : Nat → Nat → Nat) (leaf i n : Nat) (p : Pth) (h : 2 ≤ n) (hi : i < Merk.split n) : z0p nd leaf i n p = (nd (z0p nd leaf i (Merk.split n) p.last.2).1 p.last.1, (z0p nd leaf i (Merk.split n) p.last.2).2) := by rw [z0p, dif_pos h, if_pos hi]
theorem zor (nd : Nat → Nat → Nat) (leaf i n : Nat) (p : Pth) (h : 2 ≤ n) (hi : ¬ i < Merk.split n) : z0p nd leaf i n p = (nd p.last.1 (z0p nd leaf (i - Merk.split n) (n - Merk.split n) p.last.2).1, (z0p nd leaf (i - Merk.split n) (n - Merk.split n) p.last.2).2) := by rw [z0p, dif_pos h, if_neg hi]
theorem z5k {P : Program} {w : World} {o : Oper} {a : Act} {K : Act → World → Prop} {Q : Exit → Act → World → Prop} {t : TypeId} (ho : o.op = .alloc t) {cs : Array Value} (hz : ∀ w, (zeroValue t).run P w = .ok (.agg cs) w)
  (h : ∀ w' g, g = w.heap.size → Blk w' g t cs → Below w.heap.size w w' → g < w'.heap.size → K (a.put o.dst (.pointer (some ⟨g, 0, none⟩))) w') : o.wp P a w K Q :=
 z7y (z := .agg cs) ho (hz w) (h _ _ rfl (Blk.new _ _ _) ((Below.refl _ _).alloc (Nat.le_refl _) _) (Blk.new _ _ _).lt)
theorem z4d {P : Program} {ops : Array Oper} {S : World → Prop} {o : Oper} {a : Act} {t : TypeId} {x : Operand} {g : Nat} {T : TypeId} {cs : Array Value} (ho : o.op = .load t x) (hg : o.guard = none) (ha : a.eval x = .pointer (some ⟨g, 0, none⟩))
  (hu : (P.underlying t).map z0b = some true) (hi : (P.info? t).map (·.size) = some cs.size) (hc : ∀ W, S W → Blk W g T cs) : YieldsIf P ops S o (.agg cs) a := by
 refine .inl ⟨by simp [Region.wanted, hg], fun w hS => ?_⟩
 unfold execOp
 simp only [ho, ha, Instr.loadAt, Instr.sureAddr, Sem.run_bind, Sem.run_pure, Result.andThen_ok, z5f w g T t cs (hc w hS) hu hi]
structure CkS (w0 : World) (gl gv gb gf : Nat) (leaf : Nat) (tf : TypeId) (F : Value) (p : Pth) (W : World) : Prop where
 path : z2m w0 gb p W
 leaf : Blk W gl 25 (dgC leaf)
 pv : Blk W gv 172 #[.pointer (some ⟨gb, 0, none⟩)]
 fn : Blk W gf tf #[F]
structure z6n (w0 : World) (gl gv gb gf : Nat) : Prop where
 lb : gl ≠ gb
 vb : gv ≠ gb
 fb : gf ≠ gb
 l0 : w0.heap.size ≤ gl
 v0 : w0.heap.size ≤ gv
 b0 : w0.heap.size ≤ gb
 f0 : w0.heap.size ≤ gf
section
variable {w0 W W' : World} {gl gv gb gf leaf : Nat} {tf : TypeId} {F : Value} {p p' : Pth}
theorem CkS.below (h : CkS w0 gl gv gb gf leaf tf F p W) (hb : Below W.heap.size W W') : CkS w0 gl gv gb gf leaf tf F p W' :=
 ⟨h.path.below hb, h.leaf.below hb, h.pv.below hb, h.fn.below hb⟩
theorem CkS.went (h : CkS w0 gl gv gb gf leaf tf F p W) (hp : z6n w0 gl gv gb gf) (hg : z08 [gb] W W') (h2 : z2m w0 gb p' W') : CkS w0 gl gv gb gf leaf tf F p' W' :=
 ⟨h2, hg.blk h.leaf (by simpa using hp.lb), hg.blk h.pv (by simpa using hp.vb), hg.blk h.fn (by simpa using hp.fb)⟩
theorem CkS.other (h : CkS w0 gl gv gb gf leaf tf F p W) (hp : z6n w0 gl gv gb gf) {g : Nat} (ht : z0w g W W') (hl : gl ≠ g) (hv : gv ≠ g) (hb : gb ≠ g) (hf : gf ≠ g) (h0 : w0.heap.size ≤ g) : CkS w0 gl gv gb gf leaf tf F p W' :=
 ⟨h.path.grew ((z08.refl [g] W).turned ht (.inl (by simp))) (by simpa using hb) (by simpa using h0), ht.blk h.leaf hl, ht.blk h.pv hv, ht.blk h.fn hf⟩
theorem CkS.lt (h : CkS w0 gl gv gb gf leaf tf F p W) : gl < W.heap.size ∧ gv < W.heap.size ∧ gb < W.heap.size ∧ gf < W.heap.size := by
 obtain ⟨_, _, _, _, _, _, _, hb⟩ := h.path.blk
 exact ⟨h.leaf.lt, h.pv.lt, hb.lt, h.fn.lt⟩
end
def zae (r : Nat × Pth) (w0 : World) (gl gv gb gf leaf : Nat) (tf : TypeId) (F : Value) (w : World) (e : Ending) (w' : World) : Prop := e = .returned (dgV r.1) ∧ CkS w0 gl gv gb gf leaf tf F r.2 w' ∧ z08 [gb] w w'
abbrev F51 (gl gv gf : Nat) : Value := fnV 134 [gl, gv, gf]
theorem zon {nd : Nat → Nat → Nat} {em : Nat} (N : Nds nd em) (w0 : World) (gl gv gb gf leaf : Nat) (hpos : z6n w0 gl gv gb gf) (hg : GCon w0) (K : Nat) : ∀ (i n : Nat) (p : Pth) (w : World), n ≤ K → n ≤ 1099511627776 → i < n →
  CkS w0 gl gv gb gf leaf 177 (F51 gl gv gf) p w →
  Calls Tryz.prog 134 #[.int .i64 i, .int .i64 n, .pointer (some ⟨gl, 0, none⟩), .pointer (some ⟨gv, 0, none⟩), .pointer (some ⟨gf, 0, none⟩)] w (zae (z0p nd leaf i n p) w0 gl gv gb gf leaf 177 (F51 gl gv gf) w) := by
 induction K with
 | zero => intro i n p w hK hn hi; omega
 | succ K ih =>
  intro i n p w hK hn hi hs
  by_cases h1 : n = 1
  ·subst h1
   rw [zoq nd leaf i 1 p (by omega)]
   unfold zae
   show Calls _ _ _ _ fun e w' => e = .returned (dgV leaf) ∧ CkS w0 gl gv gb gf leaf 177 (F51 gl gv gf) p w' ∧ z08 [gb] w w'
   generalize hF : F51 gl gv gf = F at *
   clear hF
   have HS := ya hs
   clear hs
   go_enter Tryz.func134, Tryz.ntmps134
   go_upto_region 1 with ((with_reducible show sl 7); refine z0t (cs := dgC 0) rfl rfl z0n ?_; intro w1 g7 hg7 q7 hb1 lt7; have HG7 := ya hg7; clear hg7)
   have hs1 := HS.out.below hb1
   have ql := hs1.leaf
   go_wp2_with (first
    | ((with_reducible show sl 12); refine z12 rfl rfl rfl ql yn (by rw [yf, yc]) ?_)
    | ((with_reducible show sn); refine z01 (vs := dgC leaf) rfl rfl rfl rfl q7 (by rw [yc, yc]) (by rw [yf, yc]) (z0c _) ?_; intro w9 ht9 b9))
   have hlt := HS.out.lt
   have h7 := HG7.out
   exact z02 rfl rfl rfl b9 yn (by rw [yf, yc]) ⟨rfl, hs1.other hpos ht9 (by omega) (by omega) (by omega) (by omega) (by have := HS.out.path.old.size; omega), (z08.of_below hb1).turned ht9 (.inr (by omega))⟩
  ·have hk1 := Merk.split_lt (n := n) (by omega)
   have hk0 := Merk.split_pos n
   have HS := ya (fun W => zbj n W (by omega) hn)
   have HSt := ya hs
   have HPOS := ya hpos
   have HG := ya hg
   have HL := ya (fun (q : Pth) (W : World) (h : z2m w0 gb q W) => zco q w0 gb W h)
   have e1 : ((n : Int) == 1) = false := by simp; omega
   by_cases hik : i < Merk.split n
   ·
    rw [zoo nd leaf i n p (by omega) hik]
    have HI := ya (fun (W : World) (h : CkS w0 gl gv gb gf leaf 177 (F51 gl gv gf) p.last.2 W) => ih i (Merk.split n) p.last.2 W (by omega) (by omega) hik h)
    have HN := ya (fun (W : World) (h : GCon W) => N.node (z0p nd leaf i (Merk.split n) p.last.2).1 p.last.1 W h)
    have HL1 := ya (HL.out p)
    unfold zae at HI ⊢
    unfold z84 at HL1
    show Calls _ _ _ _ fun e w' => e = .returned (dgV (nd (z0p nd leaf i (Merk.split n) p.last.2).1 p.last.1)) ∧ CkS w0 gl gv gb gf leaf 177 (F51 gl gv gf) (z0p nd leaf i (Merk.split n) p.last.2).2 w' ∧ z08 [gb] w w'
    clear ih hs hpos hg HL
    generalize nd (z0p nd leaf i (Merk.split n) p.last.2).1 p.last.1 = Z at *
    generalize (z0p nd leaf i (Merk.split n) p.last.2).1 = D at *
    generalize (z0p nd leaf i (Merk.split n) p.last.2).2 = Q at *
    generalize p.last.1 = X at *
    generalize p.last.2 = P1 at *
    generalize Merk.split n = k at *
    generalize hF : F51 gl gv gf = F at *
    have HF := ya hF.symm
    clear hF
    have hik2 : (i : Int) < (k : Int) := by omega
    go_enter Tryz.func134, Tryz.ntmps134
    go_upto_region 3 with ((with_reducible show sl 7); refine z0t (cs := dgC 0) rfl rfl z0n ?_; intro w1 g7 hg7 q7 hb1 lt7; have HG7 := ya hg7; clear hg7)
    go_cut [8, 9] from 13 to 16 (fun v8 v9 W => ∃ g9, v9 = .pointer (some ⟨g9, 0, none⟩) ∧ v8 = .int .i64 k ∧ CkS w0 gl gv gb gf leaf 177 F P1 W ∧ Blk W g7 25 (dgC 0) ∧ Blk W g9 25 (dgC X) ∧ z08 [gb] w W ∧ w.heap.size ≤ g9 ∧ g7 < g9)
    case first =>
     have hst := (HSt.out.below hb1).below (Below.refl w1.heap.size w1).drew
     have HLT := ya HSt.out.lt
     have hgr : z08 [gb] w w1.drew := (z08.of_below hb1).later (Below.refl w1.heap.size w1).drew
     replace q7 := q7.below (Below.refl w1.heap.size w1).drew
     have hpv := hst.pv
     refine z27 (S := fun W => Blk W gv 172 #[.pointer (some ⟨gb, 0, none⟩)]) 6 (by kernel_rfl) ?_
     refine WpT.tk 0 hpv ?_
     simp only [nrm]
     refine WpT.tl 2 rfl (z43 rfl rfl rfl (by kernel_rfl) (fun W h => h.cell 0)) hpv ?_
     simp only [nrm]
     refine WpT.fork (i := 1) (j := 4) rfl rfl (by kernel_rfl) (fun K hK => ?_) (fun K hK => ?_)
     ·go_simp; refine (HS.out _).mono ?_; rintro e wS ⟨rfl, rfl⟩
      refine hK _ _ hpv ?_; clear hK K; try simp only [nrm]
      refine WpT.fork (i := 3) (j := 4) rfl rfl (by kernel_rfl) (fun K hK => ?_) (fun K hK => ?_)
      ·go_simp; refine (HL1.out _ hst.path).mono ?_; rintro e wL ⟨rfl, hpl, hgl⟩; replace hst := hst.went HPOS.out hgl hpl; replace q7 := hgl.blk q7 (by have := HG7.out; have := HLT.out; simp; omega); (try replace q9 := hgl.blk q9 (by have := HG9.out; have := HLT.out; simp; omega)); replace hgr := hgr.trans hgl; replace hpv := hst.pv
       refine hK _ _ hpv ?_; clear hK K; try simp only [nrm]
       refine WpT.on 4 rfl (fun K hK => ?_)
       refine (if_pos (by rfl)).mpr ?_; refine z5k (cs := dgC 0) rfl z0n ?_; intro wN g9 hg9 q9 hbN lt9; have HG9 := ya (show w.heap.size ≤ g9 ∧ g7 < g9 from ⟨by have := hgr.size; omega, by have := q7.lt; omega⟩); clear hg9; replace hst := hst.below hbN; replace q7 := q7.below hbN; replace hgr := hgr.later hbN; replace hpv := hst.pv
       refine hK _ _ hpv ?_; clear hK K; try simp only [nrm]
       refine WpT.on 5 rfl (fun K hK => ?_)
       go_simp; (try go_bits)
       refine hK _ _ hpv ?_; clear hK K; try simp only [nrm]
       refine WpT.ta 6 rfl (fun K hK => ?_)
       refine (if_pos (by rfl)).mpr ?_; refine z09 (vs := dgC X) rfl rfl rfl q9 (by rw [yc, yc]) (by rw [yf, yc]) (z0c _) ?_; intro wP htP bP
       refine hK _ _ ?_; clear hK K; try simp only [nrm]
       refine WpT.done (by kernel_rfl) ?_ _
       have h9 := HG9.out; have hlt := HLT.out; have h7 := HG7.out; have hw0 := HPOS.out.l0; replace hst := hst.other HPOS.out htP (by omega) (by omega) (by omega) (by omega) (by have := HSt.out.path.old.size; omega); replace q7 := htP.blk q7 (by omega); replace hgr := hgr.turned htP (.inr (by omega)); clear h7 hlt; go_wp2_with fail; go_meet; exact ⟨g9, rfl, rfl, hst, q7, bP, hgr, h9.1, h9.2⟩
      ·refine (if_pos (by rfl)).mpr ?_; refine z5k (cs := dgC 0) rfl z0n ?_; intro wN g9 hg9 q9 hbN lt9; have HG9 := ya (show w.heap.size ≤ g9 ∧ g7 < g9 from ⟨by have := hgr.size; omega, by have := q7.lt; omega⟩); clear hg9; replace hst := hst.below hbN; replace q7 := q7.below hbN; replace hgr := hgr.later hbN; replace hpv := hst.pv
       refine hK _ _ hpv ?_; clear hK K; try simp only [nrm]
       refine WpT.on 3 rfl (fun K hK => ?_)
       go_simp; refine (HL1.out _ hst.path).mono ?_; rintro e wL ⟨rfl, hpl, hgl⟩; replace hst := hst.went HPOS.out hgl hpl; replace q7 := hgl.blk q7 (by have := HG7.out; have := HLT.out; simp; omega); (try replace q9 := hgl.blk q9 (by have := HG9.out; have := HLT.out; simp; omega)); replace hgr := hgr.trans hgl; replace hpv := hst.pv
       refine hK _ _ hpv ?_; clear hK K; try simp only [nrm]
       refine WpT.on 5 rfl (fun K hK => ?_)
       go_simp; (try go_bits)
       refine hK _ _ hpv ?_; clear hK K; try simp only [nrm]
       refine WpT.ta 6 rfl (fun K hK => ?_)
       refine (if_pos (by rfl)).mpr ?_; refine z09 (vs := dgC X) rfl rfl rfl q9 (by rw [yc, yc]) (by rw [yf, yc]) (z0c _) ?_; intro wP htP bP
       refine hK _ _ ?_; clear hK K; try simp only [nrm]
       refine WpT.done (by kernel_rfl) ?_ _
       have h9 := HG9.out; have hlt := HLT.out; have h7 := HG7.out; have hw0 := HPOS.out.l0; replace hst := hst.other HPOS.out htP (by omega) (by omega) (by omega) (by omega) (by have := HSt.out.path.old.size; omega); replace q7 := htP.blk q7 (by omega); replace hgr := hgr.turned htP (.inr (by omega)); clear h7 hlt; go_wp2_with fail; go_meet; exact ⟨g9, rfl, rfl, hst, q7, bP, hgr, h9.1, h9.2⟩
     ·refine (if_pos (by rfl)).mpr ?_; refine z5k (cs := dgC 0) rfl z0n ?_; intro wN g9 hg9 q9 hbN lt9; have HG9 := ya (show w.heap.size ≤ g9 ∧ g7 < g9 from ⟨by have := hgr.size; omega, by have := q7.lt; omega⟩); clear hg9; replace hst := hst.below hbN; replace q7 := q7.below hbN; replace hgr := hgr.later hbN; replace hpv := hst.pv
      refine hK _ _ hpv ?_; clear hK K; try simp only [nrm]
      refine WpT.on 1 rfl (fun K hK => ?_)
      go_simp; refine (HS.out _).mono ?_; rintro e wS ⟨rfl, rfl⟩
      refine hK _ _ hpv ?_; clear hK K; try simp only [nrm]
      refine WpT.on 3 rfl (fun K hK => ?_)
      go_simp; refine (HL1.out _ hst.path).mono ?_; rintro e wL ⟨rfl, hpl, hgl⟩; replace hst := hst.went HPOS.out hgl hpl; replace q7 := hgl.blk q7 (by have := HG7.out; have := HLT.out; simp; omega); (try replace q9 := hgl.blk q9 (by have := HG9.out; have := HLT.out; simp; omega)); replace hgr := hgr.trans hgl; replace hpv := hst.pv
      refine hK _ _ hpv ?_; clear hK K; try simp only [nrm]
      refine WpT.on 5 rfl (fun K hK => ?_)
      go_simp; (try go_bits)
      refine hK _ _ hpv ?_; clear hK K; try simp only [nrm]
      refine WpT.ta 6 rfl (fun K hK => ?_)
      refine (if_pos (by rfl)).mpr ?_; refine z09 (vs := dgC X) rfl rfl rfl q9 (by rw [yc, yc]) (by rw [yf, yc]) (z0c _) ?_; intro wP htP bP
      refine hK _ _ ?_; clear hK K; try simp only [nrm]
      refine WpT.done (by kernel_rfl) ?_ _
      have h9 := HG9.out; have hlt := HLT.out; have h7 := HG7.out; have hw0 := HPOS.out.l0; replace hst := hst.other HPOS.out htP (by omega) (by omega) (by omega) (by omega) (by have := HSt.out.path.old.size; omega); replace q7 := htP.blk q7 (by omega); replace hgr := hgr.turned htP (.inr (by omega)); clear h7 hlt; go_wp2_with fail; go_meet; exact ⟨g9, rfl, rfl, hst, q7, bP, hgr, h9.1, h9.2⟩
    case rest =>
     obtain ⟨g9, rfl, rfl, hst, q7, q9, hgr, h90, h97⟩ := hcut
     have HH := ya (And.intro h90 h97)
     have HLT := ya HSt.out.lt
     clear h90 h97
     go_upto_region 5 with (fail)
     replace hst := hst.below (Below.refl _ _).drew
     replace q7 := q7.below (Below.refl _ _).drew
     replace q9 := q9.below (Below.refl _ _).drew
     replace hgr := hgr.later (Below.refl _ _).drew
     have hS : Blk _ gf 177 #[F] ∧ Blk _ g9 25 (dgC X) := ⟨hst.fn, q9⟩
     rw [HF.out] at hS
     refine z27 (S := fun W => Blk W gf 177 #[F51 gl gv gf] ∧ Blk W g9 25 (dgC X)) 6 (by kernel_rfl) ?_
     refine WpT.tl 0 rfl (z43 rfl rfl rfl (by kernel_rfl) (fun W h => h.1.cell 0)) hS ?_
     simp only [nrm]
     refine WpT.tk 1 hS ?_
     simp only [nrm]
     refine WpT.tk 2 hS ?_
     simp only [nrm]
     refine WpT.tl 4 rfl (z4d rfl rfl rfl yn (by rw [yf, yc]) (fun W h => h.2)) hS ?_
     simp only [nrm]
     refine WpT.on 3 rfl (fun K hK => ?_)
     go_simp; refine (HI.out _ hst).mono ?_; rintro e wC ⟨rfl, hst2, hgC⟩; replace q7 := hgC.blk q7 (by have := HG7.out; have := HLT.out; simp; omega); replace q9 := hgC.blk q9 (by have := HH.out; have := HLT.out; simp; omega); replace hgr := hgr.trans hgC; replace hst := hst2; clear hst2; replace hS := And.intro hst.fn q9; rw [HF.out] at hS
     refine hK _ _ hS ?_; clear hK K; try simp only [nrm]
     refine WpT.on 5 rfl (fun K hK => ?_)
     go_simp; refine (HN.out _ (HG.out.below hst.path.old)).mono ?_; rintro e wM ⟨rfl, hbM⟩; replace hst := hst.below hbM; replace q7 := q7.below hbM; replace q9 := q9.below hbM; replace hgr := hgr.later hbM; replace hS := And.intro hst.fn q9; rw [HF.out] at hS
     refine hK _ _ hS ?_; clear hK K; try simp only [nrm]
     refine WpT.ta 6 rfl (fun K hK => ?_)
     refine (if_pos (by rfl)).mpr ?_; refine z09 (vs := dgC Z) rfl rfl rfl q7 (by rw [yc, yc]) (by rw [yf, yc]) (z0c _) ?_; intro w9 ht9 b9
     refine hK _ _ ?_; clear hK K; try simp only [nrm]
     refine WpT.done (by kernel_rfl) ?_ _
     skip
     have hlt := HLT.out
     have h7 := HG7.out
     have hfin := hst.other HPOS.out ht9 (by omega) (by omega) (by omega) (by omega) (by have := HSt.out.path.old.size; omega)
     replace hgr := hgr.turned ht9 (.inr (by omega))
     clear hS q9 q7 hst h7 hlt
     go_wp2_with fail
     exact z02 rfl rfl rfl b9 yn (by rw [yf, yc]) ⟨rfl, hfin, hgr⟩
   ·
    rw [zor nd leaf i n p (by omega) hik]
    have HI := ya (fun (W : World) (h : CkS w0 gl gv gb gf leaf 177 (F51 gl gv gf) p.last.2 W) => ih (i - Merk.split n) (n - Merk.split n) p.last.2 W (by omega) (by omega) (by omega) h)
    have HN := ya (fun (W : World) (h : GCon W) => N.node p.last.1 (z0p nd leaf (i - Merk.split n) (n - Merk.split n) p.last.2).1 W h)
    have HL1 := ya (HL.out p)
    unfold zae at HI ⊢
    unfold z84 at HL1
    show Calls _ _ _ _ fun e w' => e = .returned (dgV (nd p.last.1 (z0p nd leaf (i - Merk.split n) (n - Merk.split n) p.last.2).1)) ∧ CkS w0 gl gv gb gf leaf 177 (F51 gl gv gf) (z0p nd leaf (i - Merk.split n) (n - Merk.split n) p.last.2).2 w' ∧ z08 [gb] w w'
    have hc1 : ((i - Merk.split n : Nat) : Int) = (i : Int) - (Merk.split n : Int) := by omega
    have hc2 : ((n - Merk.split n : Nat) : Int) = (n : Int) - (Merk.split n : Int) := by omega
    rw [hc1, hc2] at HI
    clear hc1 hc2
    clear ih hs hpos hg HL
    generalize nd p.last.1 (z0p nd leaf (i - Merk.split n) (n - Merk.split n) p.last.2).1 = Z at *
    generalize (z0p nd leaf (i - Merk.split n) (n - Merk.split n) p.last.2).1 = D at *
    generalize (z0p nd leaf (i - Merk.split n) (n - Merk.split n) p.last.2).2 = Q at *
    generalize p.last.1 = X at *
    generalize p.last.2 = P1 at *
    generalize Merk.split n = k at *
    generalize hF : F51 gl gv gf = F at *
    have HF := ya hF.symm
    clear hF
    have hik2 : ¬ (i : Int) < (k : Int) := by omega
    have hsub : 0 ≤ (i : Int) - (k : Int) ∧ (i : Int) - (k : Int) ≤ 1099511627776 := by omega
    have hsub2 : 0 ≤ (n : Int) - (k : Int) ∧ (n : Int) - (k : Int) ≤ 1099511627776 := by omega
    have HW : Hid ((wrap64 ((i : Int) - (k : Int)) = (i : Int) - (k : Int) ∧ IntKind.i64.wrap ((i : Int) - (k : Int)) = (i : Int) - (k : Int)) ∧ (wrap64 ((n : Int) - (k : Int)) = (n : Int) - (k : Int) ∧ IntKind.i64.wrap ((n : Int) - (k : Int)) = (n : Int) - (k : Int))) := ya ⟨⟨by unfold wrap64; omega, wrap_small _ (by omega) (by omega)⟩, by unfold wrap64; omega, wrap_small _ (by omega) (by omega)⟩
    go_enter Tryz.func134, Tryz.ntmps134
    go_upto_region 3 with ((with_reducible show sl 7); refine z0t (cs := dgC 0) rfl rfl z0n ?_; intro w1 g7 hg7 q7 hb1 lt7; have HG7 := ya hg7; clear hg7)
    go_cut [8, 9] from 13 to 16 (fun v8 v9 W => ∃ g9, v9 = .pointer (some ⟨g9, 0, none⟩) ∧ v8 = .int .i64 k ∧ CkS w0 gl gv gb gf leaf 177 F P1 W ∧ Blk W g7 25 (dgC 0) ∧ Blk W g9 25 (dgC X) ∧ z08 [gb] w W ∧ w.heap.size ≤ g9 ∧ g7 < g9)
    case first =>
     have hst := (HSt.out.below hb1).below (Below.refl w1.heap.size w1).drew
     have HLT := ya HSt.out.lt
     have hgr : z08 [gb] w w1.drew := (z08.of_below hb1).later (Below.refl w1.heap.size w1).drew
     replace q7 := q7.below (Below.refl w1.heap.size w1).drew
     have hpv := hst.pv
     refine z27 (S := fun W => Blk W gv 172 #[.pointer (some ⟨gb, 0, none⟩)]) 6 (by kernel_rfl) ?_
     refine WpT.tk 0 hpv ?_
     simp only [nrm]
     refine WpT.tl 2 rfl (z43 rfl rfl rfl (by kernel_rfl) (fun W h => h.cell 0)) hpv ?_
     simp only [nrm]
     refine WpT.fork (i := 1) (j := 4) rfl rfl (by kernel_rfl) (fun K hK => ?_) (fun K hK => ?_)
     ·go_simp; refine (HS.out _).mono ?_; rintro e wS ⟨rfl, rfl⟩
      refine hK _ _ hpv ?_; clear hK K; try simp only [nrm]
      refine WpT.fork (i := 3) (j := 4) rfl rfl (by kernel_rfl) (fun K hK => ?_) (fun K hK => ?_)
      ·go_simp; refine (HL1.out _ hst.path).mono ?_; rintro e wL ⟨rfl, hpl, hgl⟩; replace hst := hst.went HPOS.out hgl hpl; replace q7 := hgl.blk q7 (by have := HG7.out; have := HLT.out; simp; omega); (try replace q9 := hgl.blk q9 (by have := HG9.out; have := HLT.out; simp; omega)); replace hgr := hgr.trans hgl; replace hpv := hst.pv
       refine hK _ _ hpv ?_; clear hK K; try simp only [nrm]
       refine WpT.on 4 rfl (fun K hK => ?_)
       refine (if_pos (by rfl)).mpr ?_; refine z5k (cs := dgC 0) rfl z0n ?_; intro wN g9 hg9 q9 hbN lt9; have HG9 := ya (show w.heap.size ≤ g9 ∧ g7 < g9 from ⟨by have := hgr.size; omega, by have := q7.lt; omega⟩); clear hg9; replace hst := hst.below hbN; replace q7 := q7.below hbN; replace hgr := hgr.later hbN; replace hpv := hst.pv
       refine hK _ _ hpv ?_; clear hK K; try simp only [nrm]
       refine WpT.on 5 rfl (fun K hK => ?_)
       go_simp; (try go_bits)
       refine hK _ _ hpv ?_; clear hK K; try simp only [nrm]
       refine WpT.ta 6 rfl (fun K hK => ?_)
       refine (if_pos (by rfl)).mpr ?_; refine z09 (vs := dgC X) rfl rfl rfl q9 (by rw [yc, yc]) (by rw [yf, yc]) (z0c _) ?_; intro wP htP bP
       refine hK _ _ ?_; clear hK K; try simp only [nrm]
       refine WpT.done (by kernel_rfl) ?_ _
       have h9 := HG9.out; have hlt := HLT.out; have h7 := HG7.out; have hw0 := HPOS.out.l0; replace hst := hst.other HPOS.out htP (by omega) (by omega) (by omega) (by omega) (by have := HSt.out.path.old.size; omega); replace q7 := htP.blk q7 (by omega); replace hgr := hgr.turned htP (.inr (by omega)); clear h7 hlt; go_wp2_with fail; go_meet; exact ⟨g9, rfl, rfl, hst, q7, bP, hgr, h9.1, h9.2⟩
      ·refine (if_pos (by rfl)).mpr ?_; refine z5k (cs := dgC 0) rfl z0n ?_; intro wN g9 hg9 q9 hbN lt9; have HG9 := ya (show w.heap.size ≤ g9 ∧ g7 < g9 from ⟨by have := hgr.size; omega, by have := q7.lt; omega⟩); clear hg9; replace hst := hst.below hbN; replace q7 := q7.below hbN; replace hgr := hgr.later hbN; replace hpv := hst.pv
       refine hK _ _ hpv ?_; clear hK K; try simp only [nrm]
       refine WpT.on 3 rfl (fun K hK => ?_)
       go_simp; refine (HL1.out _ hst.path).mono ?_; rintro e wL ⟨rfl, hpl, hgl⟩; replace hst := hst.went HPOS.out hgl hpl; replace q7 := hgl.blk q7 (by have := HG7.out; have := HLT.out; simp; omega); (try replace q9 := hgl.blk q9 (by have := HG9.out; have := HLT.out; simp; omega)); replace hgr := hgr.trans hgl; replace hpv := hst.pv
       refine hK _ _ hpv ?_; clear hK K; try simp only [nrm]
       refine WpT.on 5 rfl (fun K hK => ?_)
       go_simp; (try go_bits)
       refine hK _ _ hpv ?_; clear hK K; try simp only [nrm]
       refine WpT.ta 6 rfl (fun K hK => ?_)
       refine (if_pos (by rfl)).mpr ?_; refine z09 (vs := dgC X) rfl rfl rfl q9 (by rw [yc, yc]) (by rw [yf, yc]) (z0c _) ?_; intro wP htP bP
       refine hK _ _ ?_; clear hK K; try simp only [nrm]
       refine WpT.done (by kernel_rfl) ?_ _
       have h9 := HG9.out; have hlt := HLT.out; have h7 := HG7.out; have hw0 := HPOS.out.l0; replace hst := hst.other HPOS.out htP (by omega) (by omega) (by omega) (by omega) (by have := HSt.out.path.old.size; omega); replace q7 := htP.blk q7 (by omega); replace hgr := hgr.turned htP (.inr (by omega)); clear h7 hlt; go_wp2_with fail; go_meet; exact ⟨g9, rfl, rfl, hst, q7, bP, hgr, h9.1, h9.2⟩
     ·refine (if_pos (by rfl)).mpr ?_; refine z5k (cs := dgC 0) rfl z0n ?_; intro wN g9 hg9 q9 hbN lt9; have HG9 := ya (show w.heap.size ≤ g9 ∧ g7 < g9 from ⟨by have := hgr.size; omega, by have := q7.lt; omega⟩); clear hg9; replace hst := hst.below hbN; replace q7 := q7.below hbN; replace hgr := hgr.later hbN; replace hpv := hst.pv
      refine hK _ _ hpv ?_; clear hK K; try simp only [nrm]
      refine WpT.on 1 rfl (fun K hK => ?_)
      go_simp; refine (HS.out _).mono ?_; rintro e wS ⟨rfl, rfl⟩
      refine hK _ _ hpv ?_; clear hK K; try simp only [nrm]
      refine WpT.on 3 rfl (fun K hK => ?_)
      go_simp; refine (HL1.out _ hst.path).mono ?_; rintro e wL ⟨rfl, hpl, hgl⟩; replace hst := hst.went HPOS.out hgl hpl; replace q7 := hgl.blk q7 (by have := HG7.out; have := HLT.out; simp; omega); (try replace q9 := hgl.blk q9 (by have := HG9.out; have := HLT.out; simp; omega)); replace hgr := hgr.trans hgl; replace hpv := hst.pv
      refine hK _ _ hpv ?_; clear hK K; try simp only [nrm]
      refine WpT.on 5 rfl (fun K hK => ?_)
      go_simp; (try go_bits)
      refine hK _ _ hpv ?_; clear hK K; try simp only [nrm]
      refine WpT.ta 6 rfl (fun K hK => ?_)
      refine (if_pos (by rfl)).mpr ?_; refine z09 (vs := dgC X) rfl rfl rfl q9 (by rw [yc, yc]) (by rw [yf, yc]) (z0c _) ?_; intro wP htP bP
      refine hK _ _ ?_; clear hK K; try simp only [nrm]
      refine WpT.done (by kernel_rfl) ?_ _
      have h9 := HG9.out; have hlt := HLT.out; have h7 := HG7.out; have hw0 := HPOS.out.l0; replace hst := hst.other HPOS.out htP (by omega) (by omega) (by omega) (by omega) (by have := HSt.out.path.old.size; omega); replace q7 := htP.blk q7 (by omega); replace hgr := hgr.turned htP (.inr (by omega)); clear h7 hlt; go_wp2_with fail; go_meet; exact ⟨g9, rfl, rfl, hst, q7, bP, hgr, h9.1, h9.2⟩
    case rest =>
     obtain ⟨g9, rfl, rfl, hst, q7, q9, hgr, h90, h97⟩ := hcut
     have HH := ya (And.intro h90 h97)
     have HLT := ya HSt.out.lt
     clear h90 h97
     go_upto_region 6 with (fail)
     replace hst := hst.below (Below.refl _ _).drew
     replace q7 := q7.below (Below.refl _ _).drew
     replace q9 := q9.below (Below.refl _ _).drew
     replace hgr := hgr.later (Below.refl _ _).drew
     have hS : Blk _ gf 177 #[F] ∧ Blk _ g9 25 (dgC X) := ⟨hst.fn, q9⟩
     rw [HF.out] at hS
     refine z27 (S := fun W => Blk W gf 177 #[F51 gl gv gf] ∧ Blk W g9 25 (dgC X)) 10 (by kernel_rfl) ?_
     refine WpT.tl 0 rfl (z4d rfl rfl rfl yn (by rw [yf, yc]) (fun W h => h.2)) hS ?_
     simp only [nrm]
     refine WpT.tl 1 rfl (z43 rfl rfl rfl (by kernel_rfl) (fun W h => h.1.cell 0)) hS ?_
     simp only [nrm]
     refine WpT.tk 2 hS ?_
     simp only [nrm]
     refine WpT.tk 3 hS ?_
     simp only [nrm]
     refine WpT.tk 4 hS ?_
     simp only [nrm]
     refine WpT.tk 5 hS ?_
     simp only [nrm]
     refine WpT.tk 6 hS ?_
     simp only [nrm]
     refine WpT.tk 7 hS ?_
     simp only [nrm]
     refine WpT.on 8 rfl (fun K hK => ?_)
     go_simp; (try simp only [HW.out.1.1, HW.out.1.2, HW.out.2.1, HW.out.2.2]); refine (HI.out _ hst).mono ?_; rintro e wC ⟨rfl, hst2, hgC⟩; replace q7 := hgC.blk q7 (by have := HG7.out; have := HLT.out; simp; omega); replace q9 := hgC.blk q9 (by have := HH.out; have := HLT.out; simp; omega); replace hgr := hgr.trans hgC; replace hst := hst2; clear hst2; replace hS := And.intro hst.fn q9; rw [HF.out] at hS
     refine hK _ _ hS ?_; clear hK K; try simp only [nrm]
     refine WpT.on 9 rfl (fun K hK => ?_)
     go_simp; refine (HN.out _ (HG.out.below hst.path.old)).mono ?_; rintro e wM ⟨rfl, hbM⟩; replace hst := hst.below hbM; replace q7 := q7.below hbM; replace q9 := q9.below hbM; replace hgr := hgr.later hbM; replace hS := And.intro hst.fn q9; rw [HF.out] at hS
     refine hK _ _ hS ?_; clear hK K; try simp only [nrm]
     refine WpT.ta 10 rfl (fun K hK => ?_)
     refine (if_pos (by rfl)).mpr ?_; refine z09 (vs := dgC Z) rfl rfl rfl q7 (by rw [yc, yc]) (by rw [yf, yc]) (z0c _) ?_; intro w9 ht9 b9
     refine hK _ _ ?_; clear hK K; try simp only [nrm]
     refine WpT.done (by kernel_rfl) ?_ _
     skip
     have hlt := HLT.out
     have h7 := HG7.out
     have hfin := hst.other HPOS.out ht9 (by omega) (by omega) (by omega) (by omega) (by have := HSt.out.path.old.size; omega)
     replace hgr := hgr.turned ht9 (.inr (by omega))
     clear hS q9 q7 hst h7 hlt
     go_wp2_with fail
     exact z02 rfl rfl rfl b9 yn (by rw [yf, yc]) ⟨rfl, hfin, hgr⟩
theorem zbq {P : Program} {w : World} {ops : Array Oper} {rest : List Oper} {o : Oper} {a : Act} {Q : Exit → Act → World → Prop} (hgd : o.guard = none) {t : TypeId} (ho : o.op = .alloc t) {z : Value} (hz : ∀ w, (zeroValue t).run P w = .ok z w) (hc : z.cells = #[z])
  (h : ∀ w' g, g = w.heap.size → Blk w' g t #[z] → Below w.heap.size w w' → g < w'.heap.size → wpList P ops Q rest (a.put o.dst (.pointer (some ⟨g, 0, none⟩))) w') : wpList P ops Q (o :: rest) a w :=
 wpList_plain hgd fun _ hK => z7y (z := z) ho (hz w) (hK _ _ (h _ _ rfl (by rw [hc]; exact Blk.new _ _ _) ((Below.refl _ _).alloc (Nat.le_refl _) _) (by rw [hc]; exact (Blk.new _ _ _).lt)))
theorem zop {nd : Nat → Nat → Nat} (h : ∀ a b, nd a b < 2 ^ 128) {leaf : Nat} (hl : leaf < 2 ^ 128) (i n : Nat) (p : Pth) : (z0p nd leaf i n p).1 < 2 ^ 128 := by
 rw [z0p]
 split
 ·split
  ·exact h _ _
  ·exact h _ _
 ·exact hl
def z62 (nd : Nat → Nat → Nat) (leaf : Nat) (i n : Int) (l : List Nat) (root : Nat) : Bool :=
 if 1 ≤ n ∧ n ≤ 1099511627776 ∧ 0 ≤ i ∧ i < n then z5g (decide ((z0p nd leaf i.toNat n.toNat ⟨l, false⟩).1 = root)) (z0p nd leaf i.toNat n.toNat ⟨l, false⟩).2 else false
theorem zgz (W : World) : (zeroValue 172).run Tryz.prog W = .ok (.pointer none) W := by kernel_rfl
theorem zxg (W : World) : (zeroValue 177).run Tryz.prog W = .ok .nilFunc W := by kernel_rfl
theorem zeg (A : Option Addr) (n c : Nat) (W : World) : (Instr.build 174 #[(0, .slice A n c)]).run Tryz.prog W = .ok (.agg #[.slice A n c, .bool false]) W := by kernel_rfl
theorem zn3 : (Tryz.prog.underlying 4).map z0b = some false := by kernel_rfl
theorem z5z {fn : Func} {p : Tmp} {tmps : Array Value} {w : World} {g : Nat} {b : Bool} (h : fn.results = #[.cell p 4]) (hp : tmps.getD p undef = .pointer (some ⟨g, 0, none⟩)) (hb : Blk w g 4 #[.bool b]) : (results fn tmps).run Tryz.prog w = .ok (.bool b) w := by
 have hc := hb.cell 0
 simp only [List.getElem?_toArray, List.getElem?_cons_zero] at hc
 have hp' : tmps[p]?.getD undef = .pointer (some ⟨g, 0, none⟩) := by simpa using hp
 simp [results, h, hp', asAddr, z9v w ⟨g, 0, none⟩ _ _ zn3 hc]
theorem z7g (w : World) (c1 c2 c3 : Array Value) (t1 t2 t3 : TypeId) : ∃ wa : World, wa = ((w.alloc (.cells c1 t1)).alloc (.cells c2 t2)).alloc (.cells c3 t3) ∧ Below w.heap.size w wa ∧ Blk wa w.heap.size t1 c1 ∧ Blk wa (w.heap.size + 1) t2 c2 ∧ Blk wa (w.heap.size + 1 + 1) t3 c3 ∧ wa.heap.size = w.heap.size + 1 + 1 + 1 := by
 refine ⟨_, rfl, (((Below.refl w.heap.size w).alloc (Nat.le_refl _) _).alloc (by simp) _).alloc (by simp; omega) _, ((Blk.new _ _ _).alloc _).alloc _, (Blk.new2 _ _ _ _).alloc _, ?_, by simp⟩
 have := Blk.new ((w.alloc (.cells c1 t1)).alloc (.cells c2 t2)) t3 c3
 simpa using this
theorem zfd {P : Program} {fn : Func} {R : Ending → World → Prop} {tmps tmps' : Array Value} (h : results fn tmps = results fn tmps') : ∀ (ds : List Deferred) (u : FrameMode) (w : World), Leaves P fn tmps R ds u w → Leaves P fn tmps' R ds u w
 | [], .returning, w, ⟨v, h1, h2⟩ => ⟨v, by rw [← h]; exact h1, h2⟩
 | [], .panicking _, _, h1 => h1
 | [], .run, _, h1 => h1
 | d :: ds, u, w, ⟨hu, fv, cap, f, args, ht, hi, hc⟩ => ⟨hu, fv, cap, f, args, ht, hi, hc.mono fun e u' w' he => by
   cases e with
   | returned v => exact zfd h ds _ _ he
   | panicked c => exact zfd h ds _ _ he
   | outgrown => exact he⟩
theorem z8h {P : Program} {fn : Func} {R : Ending → World → Prop} {p d : Tmp} {ty : TypeId} (h : fn.results = #[.cell p ty]) (hd : d ≠ p) {c : List PanicEntry} {a : Act} {v : Value} {w : World}
  (hb : bodyPostD P fn R (.panic c) (a.put (some d) v) w) : bodyPostD P fn R (.panic c) a w := by
 refine zfd ?_ _ _ _ hb
 have e : (a.put (some d) v).tmps.getD p undef = a.tmps.getD p undef := by
  simp [Act.put, hd]
 simp only [results, h, e, List.mapM_toArray, List.mapM_cons, List.mapM_nil]
def BIs (b : Bool) (w : World) (e : Ending) (w' : World) : Prop := e = .returned (.bool b) ∧ Below w.heap.size w w'
theorem zod {nd : Nat → Nat → Nat} {em : Nat} (N : Nds nd em) (leaf i n root : Nat) (l : List Nat) (A : Option Addr) (m c : Nat) (w : World) (hleaf : leaf < 2 ^ 128) (hroot : root < 2 ^ 128) (hn : n ≤ 1099511627776) (hi : i < n)
  (hm : m ≤ 1000000) (hr : RdD w A m l) (hmc : m ≤ c) (hcm : c ≤ maxLen) (hg : GCon w) :
  Calls Tryz.prog 94 #[dgV leaf, .int .i64 i, .int .i64 n, .slice A m c, dgV root] w (BIs (z5g (decide ((z0p nd leaf i n ⟨l, false⟩).1 = root)) (z0p nd leaf i n ⟨l, false⟩).2) w) := by
 have hmf : ∀ (fn : Fn) (first cap : Array Value) (w : World), (Instr.makeFunc fn first cap).run Tryz.prog w = .ok (.func fn first cap) w := fun _ _ _ _ => rfl
 have d0 : decide ((n : Int) < 1) = false := by simp; omega
 have d1 : decide ((n : Int) > 1099511627776) = false := by simp; omega
 have d2 : decide ((i : Int) < 0) = false := by simp
 have d3 : decide ((i : Int) ≥ (n : Int)) = false := by simp; omega
 have HI := ya (fun (gl gv gb gf : Nat) (hpos : z6n w gl gv gb gf) (W : World) (h : CkS w gl gv gb gf leaf 177 (F51 gl gv gf) ⟨l, false⟩ W) => zon N w gl gv gb gf leaf hpos hg n i n ⟨l, false⟩ W (Nat.le_refl _) hn hi h)
 have hlt := zop N.lt hleaf i n ⟨l, false⟩
 have HQ := ya (fun W => zcf hlt hroot W)
 have HP : Hid (∀ W gb, Below w.heap.size w W → w.heap.size ≤ gb → Blk W gb 174 #[.slice A m c, .bool false] → z2m w gb ⟨l, false⟩ W) := ya (fun W gb h1 h2 h3 => ⟨h1, h2, A, m, c, hr, hm, hmc, hcm, h3⟩)
 have HBP := ya (zeg A m c)
 have HLF := ya (yc leaf)
 unfold zae at HI
 unfold BIs
 clear hr hg hlt hcm
 generalize (z0p nd leaf i n ⟨l, false⟩).1 = D at *
 generalize (z0p nd leaf i n ⟨l, false⟩).2 = Q at *
 generalize decide (D = root) = bq at *
 obtain ⟨wa, hwa, hba, ql, qr, qo, hsz⟩ := z7g w (dgC leaf) (dgC root) #[.bool false] 25 25 4
 have HWA := ya hwa
 have HSZ := ya hsz
 obtain ⟨gl, hgl⟩ : ∃ g, g = w.heap.size := ⟨_, rfl⟩
 obtain ⟨gr, hgr⟩ : ∃ g, g = w.heap.size + 1 := ⟨_, rfl⟩
 obtain ⟨go, hgo⟩ : ∃ g, g = w.heap.size + 1 + 1 := ⟨_, rfl⟩
 rw [← hgo] at qo
 rw [← hgr] at qr
 rw [← hgl] at ql
 have HG := ya (And.intro hgl (And.intro hgr hgo))
 clear hwa hsz hgl hgr hgo
 go_enter_defers Tryz.func94, Tryz.ntmps94
 go_upto_region 3 with (fail)
 change Code.wp _ _ _ _ (((w.alloc (.cells (dgC leaf) 25)).alloc (.cells (dgC root) 25)).alloc (.cells #[.bool false] 4))
 rw [← HWA.out, ← HG.out.2.2, ← HG.out.2.1, ← HG.out.1]
 clear HWA
 obtain ⟨w1, hw1, hb1, qb⟩ : ∃ w1 : World, w1 = wa.alloc (.cells #[.slice A m c, .bool false] 174) ∧ Below wa.heap.size wa w1 ∧ Blk w1 wa.heap.size 174 #[.slice A m c, .bool false] :=
  ⟨_, rfl, (Below.refl _ _).alloc (Nat.le_refl _) _, Blk.new _ _ _⟩
 have HW1 := ya hw1
 clear hw1
 go_upto_region 4 with (first
  | ((with_reducible show sl 29); refine z2l rfl rfl rfl HBP.out ?_)
  | ((with_reducible show sl 11); refine zbq rfl rfl zgz rfl ?_; intro w2 gv hgv qv hb2 lt2; rw [← HW1.out] at hgv hb2; have HGV := ya hgv; clear hgv)
  | ((with_reducible show sn); refine z18 (g := gv) (j := 0) (v := .pointer (some ⟨wa.heap.size, 0, none⟩)) (cs' := #[.pointer (some ⟨wa.heap.size, 0, none⟩)]) rfl rfl (by kernel_rfl) rfl rfl rfl qv (by simp) (by simp) ?_; intro w3 ht3 bv))
 have hsz1 : w1.heap.size = wa.heap.size + 1 := by rw [HW1.out]; simp
 have hgv := HGV.out
 have hgg := HG.out
 have hss := HSZ.out
 have hba3 : Below wa.heap.size wa w3 := (yb hb1 hb2).trans (ht3.below _ (by omega))
 have qb3 := ht3.blk (qb.below hb2) (by omega)
 replace ql := ql.below hba3
 replace qr := qr.below hba3
 replace qo := qo.below hba3
 have hbw := yb hba hba3
 have hw3 : w3.heap.size = w2.heap.size := ht3.size
 have hlt2 := hb2.size
 clear qb qv ht3 hb1 hb2 hba hba3 HW1
 obtain ⟨gb, hgb⟩ : ∃ g, g = wa.heap.size := ⟨_, rfl⟩
 rw [← hgb] at bv qb3
 have HB := ya (show (gl = w.heap.size ∧ gr = w.heap.size + 1 ∧ go = w.heap.size + 1 + 1) ∧ gb = w.heap.size + 1 + 1 + 1 ∧ gv = w.heap.size + 1 + 1 + 1 + 1 ∧ w.heap.size + 1 + 1 + 1 + 1 < w3.heap.size from ⟨hgg, by omega, by omega, by omega⟩)
 clear HG HSZ HGV hsz1 hgv hgg hss hw3 hlt2 lt2 hgb
 have cv := bv.cell 0
 simp only [List.getElem?_toArray, List.getElem?_cons_zero] at cv
 go_upto_region 7 with (first
  | ((with_reducible show sl 12); refine zbq rfl rfl zxg rfl ?_; intro w4 gf hgf qf hb4 lt4; have HGF := ya hgf; clear hgf)
  | ((with_reducible show sn); refine z18 (g := gf) (j := 0) (v := F51 gl gv gf) (cs' := #[F51 gl gv gf]) rfl rfl (by kernel_rfl) rfl rfl rfl qf (by simp) (by simp) ?_; intro w5 ht5 bf))
 have hh := HB.out
 have hgf := HGF.out
 have hpos : z6n w gl gv gb gf := ⟨by omega, by omega, by omega, by omega, by omega, by omega, by omega⟩
 have hb35 : Below w3.heap.size w3 w5 := hb4.trans (ht5.below _ (by omega))
 have hbw5 := yb hbw hb35
 have hst0 : CkS w gl gv gb gf leaf 177 (F51 gl gv gf) ⟨l, false⟩ w5 := ⟨HP.out _ _ hbw5 (by omega) (qb3.below hb35), ql.below hb35, bv.below hb35, bf⟩
 have hst := hst0.below (Below.refl w5.heap.size w5).drew
 have qr5 := (qr.below hb35).below (Below.refl w5.heap.size w5).drew
 have qo5 := (qo.below hb35).below (Below.refl w5.heap.size w5).drew
 have hbwd := yb hbw5 (Below.refl w5.heap.size w5).drew
 have HI2 := ya (HI.out gl gv gb gf hpos)
 have HO := ya (show gr ≠ gb ∧ go ≠ gb ∧ go ≠ gr ∧ w.heap.size ≤ go ∧ w.heap.size ≤ gb from ⟨by omega, by omega, by omega, by omega, by omega⟩)
 clear hh hgf hpos hb35 hbw5 hst0 ql qr qo qb3 bv cv hb4 ht5 qf bf lt4 HGF HB hbw HI HP HBP
 have hS : Blk w5.drew gf 177 #[F51 gl gv gf] ∧ Blk w5.drew gr 25 (dgC root) := ⟨hst.fn, qr5⟩
 refine z27 (S := fun W => Blk W gf 177 #[F51 gl gv gf] ∧ Blk W gr 25 (dgC root)) 6 (by kernel_rfl) ?_
 refine WpT.take (i := 0) rfl (by kernel_rfl) (fun c a w h => z8h rfl (by decide) h) (z43 rfl rfl rfl (by kernel_rfl) (fun W h => h.1.cell 0)) (hS) ?_
 simp only [nrm]
 refine WpT.tq 1 rfl (fun c a w h => z8h rfl (by decide) h) (hS) ?_
 simp only [nrm]
 refine WpT.tq 2 rfl (fun c a w h => z8h rfl (by decide) h) (hS) ?_
 simp only [nrm]
 refine WpT.take (i := 4) rfl (by kernel_rfl) (fun c a w h => z8h rfl (by decide) h) (z4d rfl rfl rfl yn (by rw [yf, yc]) (fun W h => h.2)) (hS) ?_
 simp only [nrm]
 refine WpT.on 3 rfl (fun K hK => ?_)
 go_simp; refine (HI2.out _ hst).mono ?_; rintro e wC ⟨rfl, hst2, hgC⟩; replace qr5 := hgC.blk qr5 (by have := HO.out; simp; omega); replace qo5 := hgC.blk qo5 (by have := HO.out; simp; omega); replace hst := hst2; clear hst2; replace hS := And.intro hst.fn qr5; replace hbwd := hbwd.trans (hgC.below hbwd.size (by have := HO.out; simp; omega))
 refine hK _ _ hS ?_; clear hK K; try simp only [nrm]
 have hq := HQ.out
 refine WpT.tq 5 rfl (fun c a w h => z8h rfl (by decide) h) (hS) ?_
 simp only [nrm]
 refine WpT.ta 6 rfl (fun K hK => ?_)
 refine (if_pos (by rfl)).mpr ?_; refine z77 (j := 0) (v := .bool bq) (cs' := #[.bool bq]) rfl (by kernel_rfl) (by rfl) (by rfl) rfl qo5 (by simp) (by simp) ?_; intro w9 ht9 b9
 refine hK _ _ ?_; clear hK K; try simp only [nrm]
 refine WpT.done (by kernel_rfl) ?_ _
 skip
 have ho := HO.out
 have hp9 : z2m w gb Q w9 := hst.path.grew ((z08.refl [go] _).turned ht9 (.inl (by simp))) (by simp; omega) (by simp; omega)
 have hb9 := hbwd.trans (ht9.below _ (by omega))
 have hgo2 : w.heap.size ≤ go := ho.2.2.2.1
 clear hS qr5 qo5 hst ht9 ho hq hbwd
 go_wp2_with fail
 refine leaves_cons (f := 133) (args := #[.pointer (some ⟨gb, 0, none⟩), .pointer (some ⟨go, 0, none⟩)]) (by simp) (by simp [go_sem]) ?_
 refine (zdg bq Q w gb go .returning _ hp9 b9).mono ?_
 rintro e u' w'' ⟨rfl, rfl, hbS, hbel, _⟩
 exact ⟨_, z5z rfl rfl hbS, rfl, hb9.trans (hbel.mono hgo2)⟩
theorem zoc (leaf root m c : Nat) (A : Option Addr) (i n : Int) (w : World) (h : ¬ (1 ≤ n ∧ n ≤ 1099511627776 ∧ 0 ≤ i ∧ i < n)) :
  Calls Tryz.prog 94 #[dgV leaf, .int .i64 i, .int .i64 n, .slice A m c, dgV root] w (BIs false w) := by
 obtain ⟨wa, hwa, hba, ql, qr, qo, hsz⟩ := z7g w (dgC leaf) (dgC root) #[.bool false] 25 25 4
 have HWA := ya hwa
 obtain ⟨go, hgo⟩ : ∃ g, g = w.heap.size + 1 + 1 := ⟨_, rfl⟩
 rw [← hgo] at qo
 have HGO := ya hgo
 clear hwa hsz hgo ql qr
 unfold BIs
 by_cases h0 : n < 1
 ·have d0 : decide (n < 1) = true := by simpa using h0
  go_enter Tryz.func94, Tryz.ntmps94
  go_upto_region 2 with (fail)
  change Code.wp _ _ _ _ (((w.alloc (.cells (dgC leaf) 25)).alloc (.cells (dgC root) 25)).alloc (.cells #[.bool false] 4))
  rw [← HWA.out, ← HGO.out]
  go_wp2_with ((with_reducible show sn); refine z18 (g := go) (j := 0) (v := .bool false) (cs' := #[.bool false]) rfl rfl (by kernel_rfl) rfl rfl rfl qo (by simp) (by simp) ?_; intro w9 ht9 b9)
  exact bodyPost_ret (z5z rfl rfl b9) rfl ⟨rfl, hba.trans (ht9.below _ (by have := HGO.out; omega))⟩
 ·have d0 : decide (n < 1) = false := by simpa using h0
  by_cases h1 : n > 1099511627776
  ·have d1 : decide (n > 1099511627776) = true := by simpa using h1
   go_enter Tryz.func94, Tryz.ntmps94
   go_upto_region 2 with (fail)
   change Code.wp _ _ _ _ (((w.alloc (.cells (dgC leaf) 25)).alloc (.cells (dgC root) 25)).alloc (.cells #[.bool false] 4))
   rw [← HWA.out, ← HGO.out]
   go_wp2_with ((with_reducible show sn); refine z18 (g := go) (j := 0) (v := .bool false) (cs' := #[.bool false]) rfl rfl (by kernel_rfl) rfl rfl rfl qo (by simp) (by simp) ?_; intro w9 ht9 b9)
   exact bodyPost_ret (z5z rfl rfl b9) rfl ⟨rfl, hba.trans (ht9.below _ (by have := HGO.out; omega))⟩
  ·have d1 : decide (n > 1099511627776) = false := by simpa using h1
   by_cases h2 : i < 0
   ·have d2 : decide (i < 0) = true := by simpa using h2
    go_enter Tryz.func94, Tryz.ntmps94
    go_upto_region 2 with (fail)
    change Code.wp _ _ _ _ (((w.alloc (.cells (dgC leaf) 25)).alloc (.cells (dgC root) 25)).alloc (.cells #[.bool false] 4))
    rw [← HWA.out, ← HGO.out]
    go_wp2_with ((with_reducible show sn); refine z18 (g := go) (j := 0) (v := .bool false) (cs' := #[.bool false]) rfl rfl (by kernel_rfl) rfl rfl rfl qo (by simp) (by simp) ?_; intro w9 ht9 b9)
    exact bodyPost_ret (z5z rfl rfl b9) rfl ⟨rfl, hba.trans (ht9.below _ (by have := HGO.out; omega))⟩
   ·have d2 : decide (i < 0) = false := by simpa using h2
    have d3 : decide (i ≥ n) = true := by simp; omega
    go_enter Tryz.func94, Tryz.ntmps94
    go_upto_region 2 with (fail)
    change Code.wp _ _ _ _ (((w.alloc (.cells (dgC leaf) 25)).alloc (.cells (dgC root) 25)).alloc (.cells #[.bool false] 4))
    rw [← HWA.out, ← HGO.out]
    go_wp2_with ((with_reducible show sn); refine z18 (g := go) (j := 0) (v := .bool false) (cs' := #[.bool false]) rfl rfl (by kernel_rfl) rfl rfl rfl qo (by simp) (by simp) ?_; intro w9 ht9 b9)
    exact bodyPost_ret (z5z rfl rfl b9) rfl ⟨rfl, hba.trans (ht9.below _ (by have := HGO.out; omega))⟩
theorem zob {nd : Nat → Nat → Nat} {em : Nat} (N : Nds nd em) (leaf root : Nat) (i n : Int) (l : List Nat) (A : Option Addr) (m c : Nat) (w : World) (hleaf : leaf < 2 ^ 128) (hroot : root < 2 ^ 128)
  (hm : m ≤ 1000000) (hr : RdD w A m l) (hmc : m ≤ c) (hcm : c ≤ maxLen) (hg : GCon w) :
  Calls Tryz.prog 94 #[dgV leaf, .int .i64 i, .int .i64 n, .slice A m c, dgV root] w (BIs (z62 nd leaf i n l root) w) := by
 unfold z62
 by_cases h : 1 ≤ n ∧ n ≤ 1099511627776 ∧ 0 ≤ i ∧ i < n
 ·rw [if_pos h]
  obtain ⟨k, rfl⟩ : ∃ k : Nat, i = k := ⟨i.toNat, by omega⟩
  obtain ⟨N', rfl⟩ : ∃ k : Nat, n = k := ⟨n.toNat, by omega⟩
  exact zod N leaf k N' root l A m c w hleaf hroot (by omega) (by omega) hm hr hmc hcm hg
 ·rw [if_neg h]
  exact zoc leaf root m c A i n w h
theorem zdb {P : Program} {fn : Func} {R : Ending → World → Prop} {a : Act} {w : World} {g h : Nat} {t s : TypeId} {cs ds : Array Value} {p q : Tmp} {ty tz : TypeId}
  (hf : fn.results = #[.cell p ty, .cell q tz]) (hd : a.defers = []) (hp : a.tmps.getD p undef = .pointer (some ⟨g, 0, none⟩)) (hq : a.tmps.getD q undef = .pointer (some ⟨h, 0, none⟩)) (hb : Blk w g t cs) (hc : Blk w h s ds)
  (hu : (P.underlying ty).map z0b = some true) (hi : (P.info? ty).map (·.size) = some cs.size) (hu2 : (P.underlying tz).map z0b = some true) (hi2 : (P.info? tz).map (·.size) = some ds.size) (hR : R (.returned (.tuple #[.agg cs, .agg ds])) w) : bodyPost P fn R .ret a w := by
 refine bodyPost_ret ?_ hd hR
 have hp' : a.tmps[p]?.getD undef = .pointer (some ⟨g, 0, none⟩) := by simpa using hp
 have hq' : a.tmps[q]?.getD undef = .pointer (some ⟨h, 0, none⟩) := by simpa using hq
 simp [results, hf, hp', hq', asAddr, z5f w g t ty cs hb hu hi, z5f w h s tz ds hc hu2 hi2]
abbrev F53 (gl gv gf : Nat) : Value := fnV 137 [gl, gv, gf]
def z8t (r : Nat × Nat × Pth) (w0 : World) (gl gv gb gf old : Nat) (F : Value) (w : World) (e : Ending) (w' : World) : Prop := e = .returned (.tuple #[dgV r.1, dgV r.2.1]) ∧ CkS w0 gl gv gb gf old 181 F r.2.2 w' ∧ z08 [gb] w w'
theorem zoj (w0 : World) (gl gv gb gf old : Nat) (hpos : z6n w0 gl gv gb gf) (n : Nat) (mark : Bool) (p : Pth) (w : World) (hs : CkS w0 gl gv gb gf old 181 (F53 gl gv gf) p w) :
  Calls Tryz.prog 137 #[.int .i64 n, .int .i64 n, .bool mark, .pointer (some ⟨gl, 0, none⟩), .pointer (some ⟨gv, 0, none⟩), .pointer (some ⟨gf, 0, none⟩)] w
   (z8t (if mark then (old, old, p) else (p.last.1, p.last.1, p.last.2)) w0 gl gv gb gf old (F53 gl gv gf) w) := by
 have e1 : ((n : Int) == n) = true := by simp
 have HPOS := ya hpos
 have HLT := ya (And.intro hs.lt hs.path.old.size)
 have HSt := ya hs
 have HL1 := ya (fun (W : World) (h : z2m w0 gb p W) => zco p w0 gb W h)
 unfold z84 at HL1
 unfold z8t
 cases mark with
 | true =>
  show Calls _ _ _ _ fun e w' => e = .returned (.tuple #[dgV old, dgV old]) ∧ CkS w0 gl gv gb gf old 181 (F53 gl gv gf) p w' ∧ z08 [gb] w w'
  clear hs hpos HL1
  generalize F53 gl gv gf = F at *
  go_enter Tryz.func137, Tryz.ntmps137
  go_upto_region 2 with (first
   | ((with_reducible show sl 9); refine z0t (cs := dgC 0) rfl rfl z0n ?_; intro w1 g9 hg9 q9 hb1 lt9; have HG9 := ya hg9; clear hg9)
   | ((with_reducible show sl 10); refine z0t (cs := dgC 0) rfl rfl z0n ?_; intro w2 g10 hg10 q10 hb2 lt10; have HG10 := ya hg10; clear hg10))
  have hst := (HSt.out.below hb1).below hb2
  have ql := hst.leaf
  go_upto_region 5 with (first
   | ((with_reducible show sl 21); refine z12 rfl rfl rfl ql yn (by rw [yf, yc]) ?_)
   | ((with_reducible show sl 11); refine z0t (cs := dgC 0) rfl rfl z0n ?_; intro w3 g11 hg11 q11 hb3 lt11; have HG11 := ya hg11; clear hg11)
   | ((with_reducible show sn); refine z01 (vs := dgC old) rfl rfl rfl rfl q11 (by rw [yc, yc]) (by rw [yf, yc]) (z0c _) ?_; intro w4 ht4 b11))
  have HH := ya (show w.heap.size ≤ g9 ∧ g9 < g10 ∧ g10 < g11 from ⟨by have := HG9.out; omega, by have := HG10.out; omega, by have := HG11.out; have := hb2.size; omega⟩)
  replace hst := (hst.below hb3).other HPOS.out ht4 (by have := HLT.out; have := HH.out; omega) (by have := HLT.out; have := HH.out; omega) (by have := HLT.out; have := HH.out; omega) (by have := HLT.out; have := HH.out; omega) (by have := HLT.out; have := HH.out; omega)
  have hgr : z08 [gb] w w4.drew := ((((z08.of_below hb1).later hb2).later hb3).turned ht4 (.inr (by have := HH.out; omega))).later (Below.refl _ _).drew
  replace q9 := (ht4.blk ((q9.below hb2).below hb3) (by have := HH.out; omega)).below (Below.refl w4.heap.size w4).drew
  replace q10 := (ht4.blk (q10.below hb3) (by have := HH.out; omega)).below (Below.refl w4.heap.size w4).drew
  replace hst := hst.below (Below.refl _ _).drew
  have hS := b11.below (Below.refl w4.heap.size w4).drew
  clear b11 q11 ht4 hb1 hb2 hb3 ql HG9 HG10 HG11 lt9 lt10 lt11
  refine z27 (S := fun W => Blk W g11 25 (dgC old)) 3 (by kernel_rfl) ?_
  refine WpT.tl 0 rfl (z4d rfl rfl rfl yn (by rw [yf, yc]) (fun W h => h)) hS ?_
  simp only [nrm]
  refine WpT.tl 1 rfl (z4d rfl rfl rfl yn (by rw [yf, yc]) (fun W h => h)) hS ?_
  simp only [nrm]
  refine WpT.on 2 rfl (fun K hK => ?_)
  refine (if_pos (by rfl)).mpr ?_; refine z09 (vs := dgC old) rfl rfl rfl q9 (by rw [yc, yc]) (by rw [yf, yc]) (z0c _) ?_; intro wA htA bA; replace hS := htA.blk hS (by have := HH.out; omega); replace q10 := htA.blk q10 (by have := HH.out; omega)
  refine hK _ _ hS ?_; clear hK K; try simp only [nrm]
  refine WpT.ta 3 rfl (fun K hK => ?_)
  refine (if_pos (by rfl)).mpr ?_; refine z09 (vs := dgC old) rfl rfl rfl q10 (by rw [yc, yc]) (by rw [yf, yc]) (z0c _) ?_; intro wB htB bB
  refine hK _ _ ?_; clear hK K; try simp only [nrm]
  refine WpT.done (by kernel_rfl) ?_ _
  skip
  have hh := HH.out
  have hlt := HLT.out
  have bA2 := htB.blk bA (by omega)
  have hfin := (hst.other HPOS.out htA (by omega) (by omega) (by omega) (by omega) (by omega)).other HPOS.out htB (by omega) (by omega) (by omega) (by omega) (by omega)
  have hgr9 := (hgr.turned htA (.inr (by omega))).turned htB (.inr (by omega))
  clear hh hlt hst hgr htA htB hS bA q9 q10
  go_wp2_with fail
  exact zdb rfl rfl rfl rfl bA2 bB yn (by rw [yf, yc]) yn (by rw [yf, yc]) ⟨rfl, hfin, hgr9⟩
 | false =>
  show Calls _ _ _ _ fun e w' => e = .returned (.tuple #[dgV p.last.1, dgV p.last.1]) ∧ CkS w0 gl gv gb gf old 181 (F53 gl gv gf) p.last.2 w' ∧ z08 [gb] w w'
  clear hs hpos
  generalize p.last.1 = X at *
  generalize p.last.2 = P1 at *
  generalize F53 gl gv gf = F at *
  go_enter Tryz.func137, Tryz.ntmps137
  go_upto_region 2 with (first
   | ((with_reducible show sl 9); refine z0t (cs := dgC 0) rfl rfl z0n ?_; intro w1 g9 hg9 q9 hb1 lt9; have HG9 := ya hg9; clear hg9)
   | ((with_reducible show sl 10); refine z0t (cs := dgC 0) rfl rfl z0n ?_; intro w2 g10 hg10 q10 hb2 lt10; have HG10 := ya hg10; clear hg10))
  have hst := (HSt.out.below hb1).below hb2
  have ql := hst.leaf
  go_upto_region 3 with (first
   | ((with_reducible show sl 21); refine z12 rfl rfl rfl ql yn (by rw [yf, yc]) ?_)
   | ((with_reducible show sl 11); refine z0t (cs := dgC 0) rfl rfl z0n ?_; intro w3 g11 hg11 q11 hb3 lt11; have HG11 := ya hg11; clear hg11)
   | ((with_reducible show sn); refine z01 (vs := dgC old) rfl rfl rfl rfl q11 (by rw [yc, yc]) (by rw [yf, yc]) (z0c _) ?_; intro w4 ht4 b11))
  have HH := ya (show w.heap.size ≤ g9 ∧ g9 < g10 ∧ g10 < g11 from ⟨by have := HG9.out; omega, by have := HG10.out; omega, by have := HG11.out; have := hb2.size; omega⟩)
  replace hst := (hst.below hb3).other HPOS.out ht4 (by have := HLT.out; have := HH.out; omega) (by have := HLT.out; have := HH.out; omega) (by have := HLT.out; have := HH.out; omega) (by have := HLT.out; have := HH.out; omega) (by have := HLT.out; have := HH.out; omega)
  have hgr : z08 [gb] w w4 := (((z08.of_below hb1).later hb2).later hb3).turned ht4 (.inr (by have := HH.out; omega))
  replace q9 := ht4.blk ((q9.below hb2).below hb3) (by have := HH.out; omega)
  replace q10 := ht4.blk (q10.below hb3) (by have := HH.out; omega)
  clear q11 ht4 hb1 hb2 hb3 ql HG9 HG10 HG11 lt9 lt10 lt11
  have cv := hst.pv.cell 0
  simp only [List.getElem?_toArray, List.getElem?_cons_zero] at cv
  go_upto_region 4 with (fail)
  go_wp2_with fail
  refine (HL1.out _ hst.path).mono ?_
  rintro e w5 ⟨rfl, hpl, hgl⟩
  replace hst := hst.went HPOS.out hgl hpl
  replace q9 := hgl.blk q9 (by have := HH.out; have := HLT.out; simp; omega)
  replace q10 := hgl.blk q10 (by have := HH.out; have := HLT.out; simp; omega)
  replace b11 := hgl.blk b11 (by have := HH.out; have := HLT.out; simp; omega)
  replace hgr := hgr.trans hgl
  clear cv hpl hgl
  go_upto_region 5 with ((with_reducible show sn); refine z01 (vs := dgC X) rfl rfl rfl rfl b11 (by rw [yc, yc]) (by rw [yf, yc]) (z0c _) ?_; intro w6 ht6 c11)
  replace hst := (hst.other HPOS.out ht6 (by have := HLT.out; have := HH.out; omega) (by have := HLT.out; have := HH.out; omega) (by have := HLT.out; have := HH.out; omega) (by have := HLT.out; have := HH.out; omega) (by have := HLT.out; have := HH.out; omega)).below (Below.refl _ _).drew
  replace hgr := (hgr.turned ht6 (.inr (by have := HH.out; omega))).later (Below.refl _ _).drew
  replace q9 := (ht6.blk q9 (by have := HH.out; omega)).below (Below.refl w6.heap.size w6).drew
  replace q10 := (ht6.blk q10 (by have := HH.out; omega)).below (Below.refl w6.heap.size w6).drew
  have hS := c11.below (Below.refl w6.heap.size w6).drew
  clear b11 ht6 c11
  refine z27 (S := fun W => Blk W g11 25 (dgC X)) 3 (by kernel_rfl) ?_
  refine WpT.tl 0 rfl (z4d rfl rfl rfl yn (by rw [yf, yc]) (fun W h => h)) hS ?_
  simp only [nrm]
  refine WpT.tl 1 rfl (z4d rfl rfl rfl yn (by rw [yf, yc]) (fun W h => h)) hS ?_
  simp only [nrm]
  refine WpT.on 2 rfl (fun K hK => ?_)
  refine (if_pos (by rfl)).mpr ?_; refine z09 (vs := dgC X) rfl rfl rfl q9 (by rw [yc, yc]) (by rw [yf, yc]) (z0c _) ?_; intro wA htA bA; replace hS := htA.blk hS (by have := HH.out; omega); replace q10 := htA.blk q10 (by have := HH.out; omega)
  refine hK _ _ hS ?_; clear hK K; try simp only [nrm]
  refine WpT.ta 3 rfl (fun K hK => ?_)
  refine (if_pos (by rfl)).mpr ?_; refine z09 (vs := dgC X) rfl rfl rfl q10 (by rw [yc, yc]) (by rw [yf, yc]) (z0c _) ?_; intro wB htB bB
  refine hK _ _ ?_; clear hK K; try simp only [nrm]
  refine WpT.done (by kernel_rfl) ?_ _
  skip
  have hh := HH.out
  have hlt := HLT.out
  have bA2 := htB.blk bA (by omega)
  have hfin := (hst.other HPOS.out htA (by omega) (by omega) (by omega) (by omega) (by omega)).other HPOS.out htB (by omega) (by omega) (by omega) (by omega) (by omega)
  have hgr9 := (hgr.turned htA (.inr (by omega))).turned htB (.inr (by omega))
  clear hh hlt hst hgr htA htB hS bA q9 q10
  go_wp2_with fail
  exact zdb rfl rfl rfl rfl bA2 bB yn (by rw [yf, yc]) yn (by rw [yf, yc]) ⟨rfl, hfin, hgr9⟩
theorem zoh {nd : Nat → Nat → Nat} {em : Nat} (N : Nds nd em) (w0 : World) (gl gv gb gf old : Nat) (hpos : z6n w0 gl gv gb gf) (hg : GCon w0) (K : Nat) : ∀ (m n : Nat) (mark : Bool) (p : Pth) (w : World), n ≤ K → n ≤ 1099511627776 → 1 ≤ m → m ≤ n →
  CkS w0 gl gv gb gf old 181 (F53 gl gv gf) p w →
  Calls Tryz.prog 137 #[.int .i64 m, .int .i64 n, .bool mark, .pointer (some ⟨gl, 0, none⟩), .pointer (some ⟨gv, 0, none⟩), .pointer (some ⟨gf, 0, none⟩)] w
   (z8t (z0e nd old m n mark p) w0 gl gv gb gf old (F53 gl gv gf) w) := by
 induction K with
 | zero => intro m n mark p w hK hn hm hmn; omega
 | succ K ih =>
  intro m n mark p w hK hn hm hmn hs
  by_cases h1 : m = n
  ·subst h1
   have := zoj w0 gl gv gb gf old hpos m mark p w hs
   cases mark with
   | true => rw [zen]; exact this
   | false => rw [zc9]; exact this
  ·replace hmn : m < n := by omega
   have hk1 := Merk.split_lt (n := n) (by omega)
   have hk0 := Merk.split_pos n
   have HS := ya (fun W => zbj n W (by omega) hn)
   have HSt := ya hs
   have HLT := ya (And.intro hs.lt hs.path.old.size)
   have HPOS := ya hpos
   have HG := ya hg
   have e1 : ((m : Int) == n) = false := by simp; omega
   by_cases hmk : m ≤ Merk.split n
   ·
    rw [z94 nd old mark p hmn hm hmk]
    have HI := ya (fun (W : World) (h : CkS w0 gl gv gb gf old 181 (F53 gl gv gf) p.last.2 W) => ih m (Merk.split n) mark p.last.2 W (by omega) (by omega) hm hmk h)
    have HL1 := ya (fun (W : World) (h : z2m w0 gb p W) => zco p w0 gb W h)
    unfold z8t at HI ⊢
    unfold z84 at HL1
    have HN := ya (fun (W : World) (h : GCon W) => N.node (z0e nd old m (Merk.split n) mark p.last.2).2.1 p.last.1 W h)
    show Calls _ _ _ _ fun e w' => e = .returned (.tuple #[dgV (z0e nd old m (Merk.split n) mark p.last.2).1, dgV (nd (z0e nd old m (Merk.split n) mark p.last.2).2.1 p.last.1)]) ∧ CkS w0 gl gv gb gf old 181 (F53 gl gv gf) (z0e nd old m (Merk.split n) mark p.last.2).2.2 w' ∧ z08 [gb] w w'
    clear ih hs hpos hg
    generalize nd (z0e nd old m (Merk.split n) mark p.last.2).2.1 p.last.1 = Z at *
    generalize (z0e nd old m (Merk.split n) mark p.last.2).1 = D at *
    generalize (z0e nd old m (Merk.split n) mark p.last.2).2.1 = E at *
    generalize (z0e nd old m (Merk.split n) mark p.last.2).2.2 = Q at *
    generalize p.last.1 = X at *
    generalize p.last.2 = P1 at *
    generalize Merk.split n = k at *
    generalize hF : F53 gl gv gf = F at *
    have HF := ya hF.symm
    clear hF
    have hmk2 : (m : Int) ≤ (k : Int) := by omega
    go_enter Tryz.func137, Tryz.ntmps137
    go_upto_region 6 with (first
     | ((with_reducible show sl 9); refine z0t (cs := dgC 0) rfl rfl z0n ?_; intro w1 g9 hg9 q9 hb1 lt9; have HG9 := ya hg9; clear hg9)
     | ((with_reducible show sl 10); refine z0t (cs := dgC 0) rfl rfl z0n ?_; intro w2 g10 hg10 q10 hb2 lt10; have HG10 := ya hg10; clear hg10))
    have HH := ya (show w.heap.size ≤ g9 ∧ g9 < g10 from ⟨by have := HG9.out; omega, by have := HG10.out; omega⟩)
    have hst := (HSt.out.below hb1).below hb2
    have hgr : z08 [gb] w w2 := (z08.of_below hb1).later hb2
    replace q9 := q9.below hb2
    clear hb1 hb2 HG9 HG10 lt9 lt10
    go_cut [12, 13] from 28 to 31 (fun v8 v9 W => ∃ g13, v9 = .pointer (some ⟨g13, 0, none⟩) ∧ v8 = .int .i64 k ∧ CkS w0 gl gv gb gf old 181 F P1 W ∧ Blk W g9 25 (dgC 0) ∧ Blk W g10 25 (dgC 0) ∧ Blk W g13 25 (dgC X) ∧ z08 [gb] w W ∧ g10 < g13)
    case first =>
     replace hst := hst.below (Below.refl w2.heap.size w2).drew
     replace hgr := hgr.later (Below.refl w2.heap.size w2).drew
     replace q9 := q9.below (Below.refl w2.heap.size w2).drew
     replace q10 := q10.below (Below.refl w2.heap.size w2).drew
     have hpv := hst.pv
     refine z27 (S := fun W => Blk W gv 172 #[.pointer (some ⟨gb, 0, none⟩)]) 6 (by kernel_rfl) ?_
     refine WpT.tk 0 hpv ?_
     simp only [nrm]
     refine WpT.tl 2 rfl (z43 rfl rfl rfl (by kernel_rfl) (fun W h => h.cell 0)) hpv ?_
     simp only [nrm]
     refine WpT.fork (i := 1) (j := 4) rfl rfl (by kernel_rfl) (fun K hK => ?_) (fun K hK => ?_)
     ·go_simp; refine (HS.out _).mono ?_; rintro e wS ⟨rfl, rfl⟩
      refine hK _ _ hpv ?_; clear hK K; try simp only [nrm]
      refine WpT.fork (i := 3) (j := 4) rfl rfl (by kernel_rfl) (fun K hK => ?_) (fun K hK => ?_)
      ·go_simp; refine (HL1.out _ hst.path).mono ?_; rintro e wL ⟨rfl, hpl, hgl⟩; replace hst := hst.went HPOS.out hgl hpl; replace q9 := hgl.blk q9 (by have := HH.out; have := HLT.out; simp; omega); replace q10 := hgl.blk q10 (by have := HH.out; have := HLT.out; simp; omega); (try replace q13 := hgl.blk q13 (by have := H13.out; have := HH.out; have := HLT.out; simp; omega)); replace hgr := hgr.trans hgl; replace hpv := hst.pv
       refine hK _ _ hpv ?_; clear hK K; try simp only [nrm]
       refine WpT.on 4 rfl (fun K hK => ?_)
       refine (if_pos (by rfl)).mpr ?_; refine z5k (cs := dgC 0) rfl z0n ?_; intro wN g13 hg13 q13 hbN lt13; have H13 := ya (show g10 < g13 from by have := q10.lt; omega); clear hg13; replace hst := hst.below hbN; replace q9 := q9.below hbN; replace q10 := q10.below hbN; replace hgr := hgr.later hbN; replace hpv := hst.pv
       refine hK _ _ hpv ?_; clear hK K; try simp only [nrm]
       refine WpT.on 5 rfl (fun K hK => ?_)
       go_simp; (try go_bits)
       refine hK _ _ hpv ?_; clear hK K; try simp only [nrm]
       refine WpT.ta 6 rfl (fun K hK => ?_)
       refine (if_pos (by rfl)).mpr ?_; refine z09 (vs := dgC X) rfl rfl rfl q13 (by rw [yc, yc]) (by rw [yf, yc]) (z0c _) ?_; intro wP htP bP
       refine hK _ _ ?_; clear hK K; try simp only [nrm]
       refine WpT.done (by kernel_rfl) ?_ _
       have h9 := H13.out; have hlt := HLT.out; have h7 := HH.out; replace hst := hst.other HPOS.out htP (by omega) (by omega) (by omega) (by omega) (by omega); replace q9 := htP.blk q9 (by omega); replace q10 := htP.blk q10 (by omega); replace hgr := hgr.turned htP (.inr (by omega)); clear h7 hlt; go_wp2_with fail; go_meet; exact ⟨g13, rfl, rfl, hst, q9, q10, bP, hgr, h9⟩
      ·refine (if_pos (by rfl)).mpr ?_; refine z5k (cs := dgC 0) rfl z0n ?_; intro wN g13 hg13 q13 hbN lt13; have H13 := ya (show g10 < g13 from by have := q10.lt; omega); clear hg13; replace hst := hst.below hbN; replace q9 := q9.below hbN; replace q10 := q10.below hbN; replace hgr := hgr.later hbN; replace hpv := hst.pv
       refine hK _ _ hpv ?_; clear hK K; try simp only [nrm]
       refine WpT.on 3 rfl (fun K hK => ?_)
       go_simp; refine (HL1.out _ hst.path).mono ?_; rintro e wL ⟨rfl, hpl, hgl⟩; replace hst := hst.went HPOS.out hgl hpl; replace q9 := hgl.blk q9 (by have := HH.out; have := HLT.out; simp; omega); replace q10 := hgl.blk q10 (by have := HH.out; have := HLT.out; simp; omega); (try replace q13 := hgl.blk q13 (by have := H13.out; have := HH.out; have := HLT.out; simp; omega)); replace hgr := hgr.trans hgl; replace hpv := hst.pv
       refine hK _ _ hpv ?_; clear hK K; try simp only [nrm]
       refine WpT.on 5 rfl (fun K hK => ?_)
       go_simp; (try go_bits)
       refine hK _ _ hpv ?_; clear hK K; try simp only [nrm]
       refine WpT.ta 6 rfl (fun K hK => ?_)
       refine (if_pos (by rfl)).mpr ?_; refine z09 (vs := dgC X) rfl rfl rfl q13 (by rw [yc, yc]) (by rw [yf, yc]) (z0c _) ?_; intro wP htP bP
       refine hK _ _ ?_; clear hK K; try simp only [nrm]
       refine WpT.done (by kernel_rfl) ?_ _
       have h9 := H13.out; have hlt := HLT.out; have h7 := HH.out; replace hst := hst.other HPOS.out htP (by omega) (by omega) (by omega) (by omega) (by omega); replace q9 := htP.blk q9 (by omega); replace q10 := htP.blk q10 (by omega); replace hgr := hgr.turned htP (.inr (by omega)); clear h7 hlt; go_wp2_with fail; go_meet; exact ⟨g13, rfl, rfl, hst, q9, q10, bP, hgr, h9⟩
     ·refine (if_pos (by rfl)).mpr ?_; refine z5k (cs := dgC 0) rfl z0n ?_; intro wN g13 hg13 q13 hbN lt13; have H13 := ya (show g10 < g13 from by have := q10.lt; omega); clear hg13; replace hst := hst.below hbN; replace q9 := q9.below hbN; replace q10 := q10.below hbN; replace hgr := hgr.later hbN; replace hpv := hst.pv
      refine hK _ _ hpv ?_; clear hK K; try simp only [nrm]
      refine WpT.on 1 rfl (fun K hK => ?_)
      go_simp; refine (HS.out _).mono ?_; rintro e wS ⟨rfl, rfl⟩
      refine hK _ _ hpv ?_; clear hK K; try simp only [nrm]
      refine WpT.on 3 rfl (fun K hK => ?_)
      go_simp; refine (HL1.out _ hst.path).mono ?_; rintro e wL ⟨rfl, hpl, hgl⟩; replace hst := hst.went HPOS.out hgl hpl; replace q9 := hgl.blk q9 (by have := HH.out; have := HLT.out; simp; omega); replace q10 := hgl.blk q10 (by have := HH.out; have := HLT.out; simp; omega); (try replace q13 := hgl.blk q13 (by have := H13.out; have := HH.out; have := HLT.out; simp; omega)); replace hgr := hgr.trans hgl; replace hpv := hst.pv
      refine hK _ _ hpv ?_; clear hK K; try simp only [nrm]
      refine WpT.on 5 rfl (fun K hK => ?_)
      go_simp; (try go_bits)
      refine hK _ _ hpv ?_; clear hK K; try simp only [nrm]
      refine WpT.ta 6 rfl (fun K hK => ?_)
      refine (if_pos (by rfl)).mpr ?_; refine z09 (vs := dgC X) rfl rfl rfl q13 (by rw [yc, yc]) (by rw [yf, yc]) (z0c _) ?_; intro wP htP bP
      refine hK _ _ ?_; clear hK K; try simp only [nrm]
      refine WpT.done (by kernel_rfl) ?_ _
      have h9 := H13.out; have hlt := HLT.out; have h7 := HH.out; replace hst := hst.other HPOS.out htP (by omega) (by omega) (by omega) (by omega) (by omega); replace q9 := htP.blk q9 (by omega); replace q10 := htP.blk q10 (by omega); replace hgr := hgr.turned htP (.inr (by omega)); clear h7 hlt; go_wp2_with fail; go_meet; exact ⟨g13, rfl, rfl, hst, q9, q10, bP, hgr, h9⟩
    case rest =>
     clear hst hgr q9 q10
     obtain ⟨g13, rfl, rfl, hst, q9, q10, q13, hgr, h13⟩ := hcut
     have H13 := ya h13
     clear h13
     have cf := hst.fn.cell 0
     simp only [List.getElem?_toArray, List.getElem?_cons_zero] at cf
     rw [HF.out] at cf
     go_upto_region 8 with (fail)
     go_wp2_with fail
     refine (HI.out _ hst).mono ?_
     rintro e w5 ⟨rfl, hst2, hgC⟩
     replace q9 := hgC.blk q9 (by have := HH.out; have := HLT.out; simp; omega)
     replace q10 := hgC.blk q10 (by have := HH.out; have := HLT.out; simp; omega)
     replace q13 := hgC.blk q13 (by have := HH.out; have := H13.out; have := HLT.out; simp; omega)
     replace hgr := hgr.trans hgC
     clear hst cf hgC
     go_upto_region 9 with (first
      | ((with_reducible show sl 14); refine z0t (cs := dgC 0) rfl rfl z0n ?_; intro w6 g14 hg14 q14 hb6 lt14; have HG14 := ya hg14; clear hg14)
      | ((with_reducible show sl 15); refine z0t (cs := dgC 0) rfl rfl z0n ?_; intro w7 g15 hg15 q15 hb7 lt15; have HG15 := ya hg15; clear hg15; replace q14 := q14.below hb7)
      | ((with_reducible show sn); refine z01 (vs := dgC D) rfl rfl rfl rfl q14 (by rw [yc, yc]) (by rw [yf, yc]) (z0c _) ?_; intro w8 ht8 b14; replace q15 := ht8.blk q15 (by have := HG15.out; omega))
      | ((with_reducible show sn); refine z01 (vs := dgC E) rfl rfl rfl rfl q15 (by rw [yc, yc]) (by rw [yf, yc]) (z0c _) ?_; intro w9 ht9 b15; replace b14 := ht9.blk b14 (by have := HG15.out; omega)))
     have H14 := ya (show g13 < g14 ∧ g14 < g15 from ⟨by have := HG14.out; have := q13.lt; omega, by have := HG15.out; omega⟩)
     replace hst2 := (((hst2.below hb6).below hb7).other HPOS.out ht8 (by have := H14.out; have := H13.out; have := HH.out; have := HLT.out; omega) (by have := H14.out; have := H13.out; have := HH.out; have := HLT.out; omega) (by have := H14.out; have := H13.out; have := HH.out; have := HLT.out; omega) (by have := H14.out; have := H13.out; have := HH.out; have := HLT.out; omega) (by have := H14.out; have := H13.out; have := HH.out; have := HLT.out; omega)).other HPOS.out ht9 (by have := H14.out; have := H13.out; have := HH.out; have := HLT.out; omega) (by have := H14.out; have := H13.out; have := HH.out; have := HLT.out; omega) (by have := H14.out; have := H13.out; have := HH.out; have := HLT.out; omega) (by have := H14.out; have := H13.out; have := HH.out; have := HLT.out; omega) (by have := H14.out; have := H13.out; have := HH.out; have := HLT.out; omega)
     replace hst2 := hst2.below (Below.refl w9.heap.size w9).drew
     replace hgr := ((((hgr.later hb6).later hb7).turned ht8 (.inr (by have := H14.out; have := H13.out; have := HH.out; omega))).turned ht9 (.inr (by have := H14.out; have := H13.out; have := HH.out; omega))).later (Below.refl w9.heap.size w9).drew
     replace q9 := (ht9.blk (ht8.blk ((q9.below hb6).below hb7) (by have := H14.out; have := H13.out; have := HH.out; omega)) (by have := H14.out; have := H13.out; have := HH.out; omega)).below (Below.refl w9.heap.size w9).drew
     replace q10 := (ht9.blk (ht8.blk ((q10.below hb6).below hb7) (by have := H14.out; have := H13.out; omega)) (by have := H14.out; have := H13.out; omega)).below (Below.refl w9.heap.size w9).drew
     replace q13 := (ht9.blk (ht8.blk ((q13.below hb6).below hb7) (by have := H14.out; omega)) (by have := H14.out; omega)).below (Below.refl w9.heap.size w9).drew
     replace b14 := b14.below (Below.refl w9.heap.size w9).drew
     replace b15 := b15.below (Below.refl w9.heap.size w9).drew
     clear q14 q15 ht8 ht9 hb6 hb7 HG14 HG15 lt14 lt15
     have hS := And.intro q13 (And.intro b14 b15)
     refine z27 (S := fun W => Blk W g13 25 (dgC X) ∧ Blk W g14 25 (dgC D) ∧ Blk W g15 25 (dgC E)) 5 (by kernel_rfl) ?_
     refine WpT.tl 0 rfl (z4d rfl rfl rfl yn (by rw [yf, yc]) (fun W h => h.2.1)) hS ?_
     simp only [nrm]
     refine WpT.tl 1 rfl (z4d rfl rfl rfl yn (by rw [yf, yc]) (fun W h => h.2.2)) hS ?_
     simp only [nrm]
     refine WpT.tl 2 rfl (z4d rfl rfl rfl yn (by rw [yf, yc]) (fun W h => h.1)) hS ?_
     simp only [nrm]
     refine WpT.on 3 rfl (fun K hK => ?_)
     go_simp; refine (HN.out _ (HG.out.below hst2.path.old)).mono ?_; rintro e wM ⟨rfl, hbM⟩; replace hst2 := hst2.below hbM; replace q9 := q9.below hbM; replace q10 := q10.below hbM; replace hgr := hgr.later hbM; replace hS := And.intro (hS.1.below hbM) (And.intro (hS.2.1.below hbM) (hS.2.2.below hbM))
     refine hK _ _ hS ?_; clear hK K; try simp only [nrm]
     refine WpT.on 4 rfl (fun K hK => ?_)
     refine (if_pos (by rfl)).mpr ?_; refine z09 (vs := dgC D) rfl rfl rfl q9 (by rw [yc, yc]) (by rw [yf, yc]) (z0c _) ?_; intro wA htA bA; replace hS := And.intro (htA.blk hS.1 (by have := H14.out; have := H13.out; have := HH.out; omega)) (And.intro (htA.blk hS.2.1 (by have := H14.out; have := H13.out; have := HH.out; omega)) (htA.blk hS.2.2 (by have := H14.out; have := H13.out; have := HH.out; omega))); replace q10 := htA.blk q10 (by have := H14.out; have := H13.out; have := HH.out; omega)
     refine hK _ _ hS ?_; clear hK K; try simp only [nrm]
     refine WpT.ta 5 rfl (fun K hK => ?_)
     refine (if_pos (by rfl)).mpr ?_; refine z09 (vs := dgC Z) rfl rfl rfl q10 (by rw [yc, yc]) (by rw [yf, yc]) (z0c _) ?_; intro wB htB bB
     refine hK _ _ ?_; clear hK K; try simp only [nrm]
     refine WpT.done (by kernel_rfl) ?_ _
     skip
     have hh := HH.out
     have hlt := HLT.out
     have bA2 := htB.blk bA (by omega)
     have hfin := (hst2.other HPOS.out htA (by omega) (by omega) (by omega) (by omega) (by omega)).other HPOS.out htB (by omega) (by omega) (by omega) (by omega) (by omega)
     have hgr9 := (hgr.turned htA (.inr (by omega))).turned htB (.inr (by omega))
     clear hh hlt hst2 hgr htA htB hS bA q9 q10
     go_wp2_with fail
     exact zdb rfl rfl rfl rfl bA2 bB yn (by rw [yf, yc]) yn (by rw [yf, yc]) ⟨rfl, hfin, hgr9⟩
   ·
    rw [z95 nd old mark p hmn hm hmk]
    have HI := ya (fun (W : World) (h : CkS w0 gl gv gb gf old 181 (F53 gl gv gf) p.last.2 W) => ih (m - Merk.split n) (n - Merk.split n) false p.last.2 W (by omega) (by omega) (by omega) (by omega) h)
    have HL1 := ya (fun (W : World) (h : z2m w0 gb p W) => zco p w0 gb W h)
    unfold z8t at HI ⊢
    unfold z84 at HL1
    have HN := ya (fun (W : World) (h : GCon W) => N.node p.last.1 (z0e nd old (m - Merk.split n) (n - Merk.split n) false p.last.2).1 W h)
    have HN2 := ya (fun (W : World) (h : GCon W) => N.node p.last.1 (z0e nd old (m - Merk.split n) (n - Merk.split n) false p.last.2).2.1 W h)
    show Calls _ _ _ _ fun e w' => e = .returned (.tuple #[dgV (nd p.last.1 (z0e nd old (m - Merk.split n) (n - Merk.split n) false p.last.2).1), dgV (nd p.last.1 (z0e nd old (m - Merk.split n) (n - Merk.split n) false p.last.2).2.1)]) ∧ CkS w0 gl gv gb gf old 181 (F53 gl gv gf) (z0e nd old (m - Merk.split n) (n - Merk.split n) false p.last.2).2.2 w' ∧ z08 [gb] w w'
    have hc1 : ((m - Merk.split n : Nat) : Int) = (m : Int) - (Merk.split n : Int) := by omega
    have hc2 : ((n - Merk.split n : Nat) : Int) = (n : Int) - (Merk.split n : Int) := by omega
    rw [hc1, hc2] at HI
    clear ih hs hpos hg hc1 hc2
    generalize nd p.last.1 (z0e nd old (m - Merk.split n) (n - Merk.split n) false p.last.2).1 = Y at *
    generalize nd p.last.1 (z0e nd old (m - Merk.split n) (n - Merk.split n) false p.last.2).2.1 = Z at *
    generalize (z0e nd old (m - Merk.split n) (n - Merk.split n) false p.last.2).1 = D at *
    generalize (z0e nd old (m - Merk.split n) (n - Merk.split n) false p.last.2).2.1 = E at *
    generalize (z0e nd old (m - Merk.split n) (n - Merk.split n) false p.last.2).2.2 = Q at *
    generalize p.last.1 = X at *
    generalize p.last.2 = P1 at *
    generalize Merk.split n = k at *
    generalize hF : F53 gl gv gf = F at *
    have HF := ya hF.symm
    clear hF
    have hmk2 : ¬ (m : Int) ≤ (k : Int) := by omega
    have hsub : 0 ≤ (m : Int) - (k : Int) ∧ (m : Int) - (k : Int) ≤ 1099511627776 := by omega
    have hsub2 : 0 ≤ (n : Int) - (k : Int) ∧ (n : Int) - (k : Int) ≤ 1099511627776 := by omega
    go_enter Tryz.func137, Tryz.ntmps137
    go_upto_region 6 with (first
     | ((with_reducible show sl 9); refine z0t (cs := dgC 0) rfl rfl z0n ?_; intro w1 g9 hg9 q9 hb1 lt9; have HG9 := ya hg9; clear hg9)
     | ((with_reducible show sl 10); refine z0t (cs := dgC 0) rfl rfl z0n ?_; intro w2 g10 hg10 q10 hb2 lt10; have HG10 := ya hg10; clear hg10))
    have HH := ya (show w.heap.size ≤ g9 ∧ g9 < g10 from ⟨by have := HG9.out; omega, by have := HG10.out; omega⟩)
    have hst := (HSt.out.below hb1).below hb2
    have hgr : z08 [gb] w w2 := (z08.of_below hb1).later hb2
    replace q9 := q9.below hb2
    clear hb1 hb2 HG9 HG10 lt9 lt10
    go_cut [12, 13] from 28 to 31 (fun v8 v9 W => ∃ g13, v9 = .pointer (some ⟨g13, 0, none⟩) ∧ v8 = .int .i64 k ∧ CkS w0 gl gv gb gf old 181 F P1 W ∧ Blk W g9 25 (dgC 0) ∧ Blk W g10 25 (dgC 0) ∧ Blk W g13 25 (dgC X) ∧ z08 [gb] w W ∧ g10 < g13)
    case first =>
     replace hst := hst.below (Below.refl w2.heap.size w2).drew
     replace hgr := hgr.later (Below.refl w2.heap.size w2).drew
     replace q9 := q9.below (Below.refl w2.heap.size w2).drew
     replace q10 := q10.below (Below.refl w2.heap.size w2).drew
     have hpv := hst.pv
     refine z27 (S := fun W => Blk W gv 172 #[.pointer (some ⟨gb, 0, none⟩)]) 6 (by kernel_rfl) ?_
     refine WpT.tk 0 hpv ?_
     simp only [nrm]
     refine WpT.tl 2 rfl (z43 rfl rfl rfl (by kernel_rfl) (fun W h => h.cell 0)) hpv ?_
     simp only [nrm]
     refine WpT.fork (i := 1) (j := 4) rfl rfl (by kernel_rfl) (fun K hK => ?_) (fun K hK => ?_)
     ·go_simp; refine (HS.out _).mono ?_; rintro e wS ⟨rfl, rfl⟩
      refine hK _ _ hpv ?_; clear hK K; try simp only [nrm]
      refine WpT.fork (i := 3) (j := 4) rfl rfl (by kernel_rfl) (fun K hK => ?_) (fun K hK => ?_)
      ·go_simp; refine (HL1.out _ hst.path).mono ?_; rintro e wL ⟨rfl, hpl, hgl⟩; replace hst := hst.went HPOS.out hgl hpl; replace q9 := hgl.blk q9 (by have := HH.out; have := HLT.out; simp; omega); replace q10 := hgl.blk q10 (by have := HH.out; have := HLT.out; simp; omega); (try replace q13 := hgl.blk q13 (by have := H13.out; have := HH.out; have := HLT.out; simp; omega)); replace hgr := hgr.trans hgl; replace hpv := hst.pv
       refine hK _ _ hpv ?_; clear hK K; try simp only [nrm]
       refine WpT.on 4 rfl (fun K hK => ?_)
       refine (if_pos (by rfl)).mpr ?_; refine z5k (cs := dgC 0) rfl z0n ?_; intro wN g13 hg13 q13 hbN lt13; have H13 := ya (show g10 < g13 from by have := q10.lt; omega); clear hg13; replace hst := hst.below hbN; replace q9 := q9.below hbN; replace q10 := q10.below hbN; replace hgr := hgr.later hbN; replace hpv := hst.pv
       refine hK _ _ hpv ?_; clear hK K; try simp only [nrm]
       refine WpT.on 5 rfl (fun K hK => ?_)
       go_simp; (try go_bits)
       refine hK _ _ hpv ?_; clear hK K; try simp only [nrm]
       refine WpT.ta 6 rfl (fun K hK => ?_)
       refine (if_pos (by rfl)).mpr ?_; refine z09 (vs := dgC X) rfl rfl rfl q13 (by rw [yc, yc]) (by rw [yf, yc]) (z0c _) ?_; intro wP htP bP
       refine hK _ _ ?_; clear hK K; try simp only [nrm]
       refine WpT.done (by kernel_rfl) ?_ _
       have h9 := H13.out; have hlt := HLT.out; have h7 := HH.out; replace hst := hst.other HPOS.out htP (by omega) (by omega) (by omega) (by omega) (by omega); replace q9 := htP.blk q9 (by omega); replace q10 := htP.blk q10 (by omega); replace hgr := hgr.turned htP (.inr (by omega)); clear h7 hlt; go_wp2_with fail; go_meet; exact ⟨g13, rfl, rfl, hst, q9, q10, bP, hgr, h9⟩
      ·refine (if_pos (by rfl)).mpr ?_; refine z5k (cs := dgC 0) rfl z0n ?_; intro wN g13 hg13 q13 hbN lt13; have H13 := ya (show g10 < g13 from by have := q10.lt; omega); clear hg13; replace hst := hst.below hbN; replace q9 := q9.below hbN; replace q10 := q10.below hbN; replace hgr := hgr.later hbN; replace hpv := hst.pv
       refine hK _ _ hpv ?_; clear hK K; try simp only [nrm]
       refine WpT.on 3 rfl (fun K hK => ?_)
       go_simp; refine (HL1.out _ hst.path).mono ?_; rintro e wL ⟨rfl, hpl, hgl⟩; replace hst := hst.went HPOS.out hgl hpl; replace q9 := hgl.blk q9 (by have := HH.out; have := HLT.out; simp; omega); replace q10 := hgl.blk q10 (by have := HH.out; have := HLT.out; simp; omega); (try replace q13 := hgl.blk q13 (by have := H13.out; have := HH.out; have := HLT.out; simp; omega)); replace hgr := hgr.trans hgl; replace hpv := hst.pv
       refine hK _ _ hpv ?_; clear hK K; try simp only [nrm]
       refine WpT.on 5 rfl (fun K hK => ?_)
       go_simp; (try go_bits)
       refine hK _ _ hpv ?_; clear hK K; try simp only [nrm]
       refine WpT.ta 6 rfl (fun K hK => ?_)
       refine (if_pos (by rfl)).mpr ?_; refine z09 (vs := dgC X) rfl rfl rfl q13 (by rw [yc, yc]) (by rw [yf, yc]) (z0c _) ?_; intro wP htP bP
       refine hK _ _ ?_; clear hK K; try simp only [nrm]
       refine WpT.done (by kernel_rfl) ?_ _
       have h9 := H13.out; have hlt := HLT.out; have h7 := HH.out; replace hst := hst.other HPOS.out htP (by omega) (by omega) (by omega) (by omega) (by omega); replace q9 := htP.blk q9 (by omega); replace q10 := htP.blk q10 (by omega); replace hgr := hgr.turned htP (.inr (by omega)); clear h7 hlt; go_wp2_with fail; go_meet; exact ⟨g13, rfl, rfl, hst, q9, q10, bP, hgr, h9⟩
     ·refine (if_pos (by rfl)).mpr ?_; refine z5k (cs := dgC 0) rfl z0n ?_; intro wN g13 hg13 q13 hbN lt13; have H13 := ya (show g10 < g13 from by have := q10.lt; omega); clear hg13; replace hst := hst.below hbN; replace q9 := q9.below hbN; replace q10 := q10.below hbN; replace hgr := hgr.later hbN; replace hpv := hst.pv
      refine hK _ _ hpv ?_; clear hK K; try simp only [nrm]
      refine WpT.on 1 rfl (fun K hK => ?_)
      go_simp; refine (HS.out _).mono ?_; rintro e wS ⟨rfl, rfl⟩
      refine hK _ _ hpv ?_; clear hK K; try simp only [nrm]
      refine WpT.on 3 rfl (fun K hK => ?_)
      go_simp; refine (HL1.out _ hst.path).mono ?_; rintro e wL ⟨rfl, hpl, hgl⟩; replace hst := hst.went HPOS.out hgl hpl; replace q9 := hgl.blk q9 (by have := HH.out; have := HLT.out; simp; omega); replace q10 := hgl.blk q10 (by have := HH.out; have := HLT.out; simp; omega); (try replace q13 := hgl.blk q13 (by have := H13.out; have := HH.out; have := HLT.out; simp; omega)); replace hgr := hgr.trans hgl; replace hpv := hst.pv
      refine hK _ _ hpv ?_; clear hK K; try simp only [nrm]
      refine WpT.on 5 rfl (fun K hK => ?_)
      go_simp; (try go_bits)
      refine hK _ _ hpv ?_; clear hK K; try simp only [nrm]
      refine WpT.ta 6 rfl (fun K hK => ?_)
      refine (if_pos (by rfl)).mpr ?_; refine z09 (vs := dgC X) rfl rfl rfl q13 (by rw [yc, yc]) (by rw [yf, yc]) (z0c _) ?_; intro wP htP bP
      refine hK _ _ ?_; clear hK K; try simp only [nrm]
      refine WpT.done (by kernel_rfl) ?_ _
      have h9 := H13.out; have hlt := HLT.out; have h7 := HH.out; replace hst := hst.other HPOS.out htP (by omega) (by omega) (by omega) (by omega) (by omega); replace q9 := htP.blk q9 (by omega); replace q10 := htP.blk q10 (by omega); replace hgr := hgr.turned htP (.inr (by omega)); clear h7 hlt; go_wp2_with fail; go_meet; exact ⟨g13, rfl, rfl, hst, q9, q10, bP, hgr, h9⟩
    case rest =>
     clear hst hgr q9 q10
     obtain ⟨g13, rfl, rfl, hst, q9, q10, q13, hgr, h13⟩ := hcut
     have H13 := ya h13
     clear h13
     have cf := hst.fn.cell 0
     simp only [List.getElem?_toArray, List.getElem?_cons_zero] at cf
     rw [HF.out] at cf
     go_upto_region 10 with (fail)
     go_wp2_with fail
     refine (HI.out _ hst).mono ?_
     rintro e w5 ⟨rfl, hst2, hgC⟩
     replace q9 := hgC.blk q9 (by have := HH.out; have := HLT.out; simp; omega)
     replace q10 := hgC.blk q10 (by have := HH.out; have := HLT.out; simp; omega)
     replace q13 := hgC.blk q13 (by have := HH.out; have := H13.out; have := HLT.out; simp; omega)
     replace hgr := hgr.trans hgC
     clear hst cf hgC
     go_upto_region 11 with (first
      | ((with_reducible show sl 16); refine z0t (cs := dgC 0) rfl rfl z0n ?_; intro w6 g14 hg14 q14 hb6 lt14; have HG14 := ya hg14; clear hg14)
      | ((with_reducible show sl 17); refine z0t (cs := dgC 0) rfl rfl z0n ?_; intro w7 g15 hg15 q15 hb7 lt15; have HG15 := ya hg15; clear hg15; replace q14 := q14.below hb7)
      | ((with_reducible show sn); refine z01 (vs := dgC D) rfl rfl rfl rfl q14 (by rw [yc, yc]) (by rw [yf, yc]) (z0c _) ?_; intro w8 ht8 b14; replace q15 := ht8.blk q15 (by have := HG15.out; omega))
      | ((with_reducible show sn); refine z01 (vs := dgC E) rfl rfl rfl rfl q15 (by rw [yc, yc]) (by rw [yf, yc]) (z0c _) ?_; intro w9 ht9 b15; replace b14 := ht9.blk b14 (by have := HG15.out; omega)))
     have H14 := ya (show g13 < g14 ∧ g14 < g15 from ⟨by have := HG14.out; have := q13.lt; omega, by have := HG15.out; omega⟩)
     replace hst2 := (((hst2.below hb6).below hb7).other HPOS.out ht8 (by have := H14.out; have := H13.out; have := HH.out; have := HLT.out; omega) (by have := H14.out; have := H13.out; have := HH.out; have := HLT.out; omega) (by have := H14.out; have := H13.out; have := HH.out; have := HLT.out; omega) (by have := H14.out; have := H13.out; have := HH.out; have := HLT.out; omega) (by have := H14.out; have := H13.out; have := HH.out; have := HLT.out; omega)).other HPOS.out ht9 (by have := H14.out; have := H13.out; have := HH.out; have := HLT.out; omega) (by have := H14.out; have := H13.out; have := HH.out; have := HLT.out; omega) (by have := H14.out; have := H13.out; have := HH.out; have := HLT.out; omega) (by have := H14.out; have := H13.out; have := HH.out; have := HLT.out; omega) (by have := H14.out; have := H13.out; have := HH.out; have := HLT.out; omega)
     replace hst2 := hst2.below (Below.refl w9.heap.size w9).drew
     replace hgr := ((((hgr.later hb6).later hb7).turned ht8 (.inr (by have := H14.out; have := H13.out; have := HH.out; omega))).turned ht9 (.inr (by have := H14.out; have := H13.out; have := HH.out; omega))).later (Below.refl w9.heap.size w9).drew
     replace q9 := (ht9.blk (ht8.blk ((q9.below hb6).below hb7) (by have := H14.out; have := H13.out; have := HH.out; omega)) (by have := H14.out; have := H13.out; have := HH.out; omega)).below (Below.refl w9.heap.size w9).drew
     replace q10 := (ht9.blk (ht8.blk ((q10.below hb6).below hb7) (by have := H14.out; have := H13.out; omega)) (by have := H14.out; have := H13.out; omega)).below (Below.refl w9.heap.size w9).drew
     replace q13 := (ht9.blk (ht8.blk ((q13.below hb6).below hb7) (by have := H14.out; omega)) (by have := H14.out; omega)).below (Below.refl w9.heap.size w9).drew
     replace b14 := b14.below (Below.refl w9.heap.size w9).drew
     replace b15 := b15.below (Below.refl w9.heap.size w9).drew
     clear q14 q15 ht8 ht9 hb6 hb7 HG14 HG15 lt14 lt15
     have hS := And.intro q13 (And.intro b14 b15)
     refine z27 (S := fun W => Blk W g13 25 (dgC X) ∧ Blk W g14 25 (dgC D) ∧ Blk W g15 25 (dgC E)) 7 (by kernel_rfl) ?_
     refine WpT.tl 0 rfl (z4d rfl rfl rfl yn (by rw [yf, yc]) (fun W h => h.1)) hS ?_
     simp only [nrm]
     refine WpT.tl 1 rfl (z4d rfl rfl rfl yn (by rw [yf, yc]) (fun W h => h.2.1)) hS ?_
     simp only [nrm]
     refine WpT.tl 3 rfl (z4d rfl rfl rfl yn (by rw [yf, yc]) (fun W h => h.1)) hS ?_
     simp only [nrm]
     refine WpT.tl 4 rfl (z4d rfl rfl rfl yn (by rw [yf, yc]) (fun W h => h.2.2)) hS ?_
     simp only [nrm]
     refine WpT.on 2 rfl (fun K hK => ?_)
     go_simp; refine (HN.out _ (HG.out.below hst2.path.old)).mono ?_; rintro e wM ⟨rfl, hbM⟩; replace hst2 := hst2.below hbM; replace q9 := q9.below hbM; replace q10 := q10.below hbM; replace hgr := hgr.later hbM; replace hS := And.intro (hS.1.below hbM) (And.intro (hS.2.1.below hbM) (hS.2.2.below hbM))
     refine hK _ _ hS ?_; clear hK K; try simp only [nrm]
     refine WpT.on 5 rfl (fun K hK => ?_)
     go_simp; refine (HN2.out _ (HG.out.below hst2.path.old)).mono ?_; rintro e wM2 ⟨rfl, hbM⟩; replace hst2 := hst2.below hbM; replace q9 := q9.below hbM; replace q10 := q10.below hbM; replace hgr := hgr.later hbM; replace hS := And.intro (hS.1.below hbM) (And.intro (hS.2.1.below hbM) (hS.2.2.below hbM))
     refine hK _ _ hS ?_; clear hK K; try simp only [nrm]
     refine WpT.on 6 rfl (fun K hK => ?_)
     refine (if_pos (by rfl)).mpr ?_; refine z09 (vs := dgC Y) rfl rfl rfl q9 (by rw [yc, yc]) (by rw [yf, yc]) (z0c _) ?_; intro wA htA bA; replace hS := And.intro (htA.blk hS.1 (by have := H14.out; have := H13.out; have := HH.out; omega)) (And.intro (htA.blk hS.2.1 (by have := H14.out; have := H13.out; have := HH.out; omega)) (htA.blk hS.2.2 (by have := H14.out; have := H13.out; have := HH.out; omega))); replace q10 := htA.blk q10 (by have := H14.out; have := H13.out; have := HH.out; omega)
     refine hK _ _ hS ?_; clear hK K; try simp only [nrm]
     refine WpT.ta 7 rfl (fun K hK => ?_)
     refine (if_pos (by rfl)).mpr ?_; refine z09 (vs := dgC Z) rfl rfl rfl q10 (by rw [yc, yc]) (by rw [yf, yc]) (z0c _) ?_; intro wB htB bB
     refine hK _ _ ?_; clear hK K; try simp only [nrm]
     refine WpT.done (by kernel_rfl) ?_ _
     skip
     have hh := HH.out
     have hlt := HLT.out
     have bA2 := htB.blk bA (by omega)
     have hfin := (hst2.other HPOS.out htA (by omega) (by omega) (by omega) (by omega) (by omega)).other HPOS.out htB (by omega) (by omega) (by omega) (by omega) (by omega)
     have hgr9 := (hgr.turned htA (.inr (by omega))).turned htB (.inr (by omega))
     clear hh hlt hst2 hgr htA htB hS bA q9 q10
     go_wp2_with fail
     exact zdb rfl rfl rfl rfl bA2 bB yn (by rw [yf, yc]) yn (by rw [yf, yc]) ⟨rfl, hfin, hgr9⟩
end
end Go.Proofs.YtcapckngikekpaaGreatDoor
