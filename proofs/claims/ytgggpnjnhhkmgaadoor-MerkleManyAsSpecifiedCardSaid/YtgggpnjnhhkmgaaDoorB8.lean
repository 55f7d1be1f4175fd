/-
  These texts, joined.
  The program's proof of several elements. Conditions: at most 1000000 digests and places; the table of constants stands.
  The function value that checks the proof of several elements. Conditions: at most 1000000 digests and places; the table of constants stands.
  CheckMany. Conditions: at most 1000000 digests and places; the table of constants stands.
  The library's Backward over digests: what it hands a loop's body. Conditions: none.
  Top. Conditions: at most 1000 tops; the table of constants stands.
  Append. Conditions: at most 1000 tops; the tables stand.
-/
import Derived.Test.YtgggpnjnhhkmgaaDoorB7
import Derived.RangeFuncNested
import Derived.RangeFuncBound
import Derived.RangeFuncCalls
import Derived.RangeFuncLeaves
import Derived.Shelf.Abstract
import Derived.Shelf.RegionOpen
import Derived.WalkKit
import Derived.OwnWalkIn
import Derived.TacticsInMore
import Derived.LoopNIn
import Derived.LoopIn
namespace Go.Proofs.YtgggpnjnhhkmgaaDoor
set_option linter.unusedSimpArgs false
set_option linter.unusedVariables false
open Go.RowKit Exch Merk
theorem many_nil (nd : Nat → Nat → Nat) (em : Nat) (l : List Nat) (fr : Nat) : Merk.many nd em l fr [] = [Merk.root nd em l] := by rw [Merk.many, if_pos rfl]
theorem many_one (nd : Nat → Nat → Nat) (em : Nat) {l : List Nat} {fr : Nat} {ps : List Nat} (hp : ps ≠ []) (h : ¬ 2 ≤ l.length) : Merk.many nd em l fr ps = [] := by rw [Merk.many, if_neg hp, dif_neg h]
theorem many_two (nd : Nat → Nat → Nat) (em : Nat) {l : List Nat} {fr : Nat} {ps : List Nat} (hp : ps ≠ []) (h : 2 ≤ l.length) : Merk.many nd em l fr ps = Merk.many nd em (l.take (Merk.split l.length)) fr (ps.filter (fun p => p < fr + Merk.split l.length)) ++ Merk.many nd em (l.drop (Merk.split l.length)) (fr + Merk.split l.length) (ps.filter (fun p => fr + Merk.split l.length ≤ p)) := by rw [Merk.many, if_neg hp, dif_pos h]
theorem many_len (nd : Nat → Nat → Nat) (em : Nat) (K : Nat) : ∀ (l : List Nat) (fr : Nat) (ps : List Nat), l.length ≤ K → 1 ≤ l.length → (Merk.many nd em l fr ps).length ≤ l.length := by
  induction K with
  | zero => intro l fr ps h h1; omega
  | succ K ih =>
    intro l fr ps h h1
    by_cases hp : ps = []
    · subst hp; rw [many_nil]; simpa using h1
    · by_cases h2 : 2 ≤ l.length
      · have k1 := Merk.split_lt h2
        have k2 := Merk.split_pos l.length
        rw [many_two nd em hp h2, List.length_append]
        have a1 := ih (l.take (Merk.split l.length)) fr (ps.filter (fun p => p < fr + Merk.split l.length)) (by simp; omega) (by simp; omega)
        have a2 := ih (l.drop (Merk.split l.length)) (fr + Merk.split l.length) (ps.filter (fun p => fr + Merk.split l.length ≤ p)) (by simp; omega) (by simp; omega)
        simp only [List.length_take, List.length_drop] at a1 a2
        omega
      · rw [many_one nd em hp h2]; simp
set_option maxRecDepth 20000 in
set_option maxHeartbeats 4000000 in
theorem manyC_any {nd : Nat → Nat → Nat} {em : Nat} (N : Nds nd em) (w0 : World) (gp gt B : Nat) (hpos : Pos w0 gp gt B) (hg : GCon w0) (K : Nat) : ∀ (l : List Nat) (fr : Nat) (ps : List Nat) (A : Option Addr) (n c : Nat) (Ap : Option Addr) (np cp : Nat) (P : List Nat) (w : World), n ≤ K → 1 ≤ n → n ≤ 1000000 → fr + n ≤ 2000000 → P.length + n ≤ 2000000 → RdD w0 A n l → n ≤ c → c ≤ maxLen →
    PlAt w0 Ap np cp ps → np ≤ 1000000 → ps.Pairwise (· < ·) →
    Acc w0 gp gt B 75 (fnV 43 [gt, gp]) P w →
    Calls Tryd.prog 43 #[.slice A n c, .int .i64 fr, .slice Ap np cp, .pointer (some ⟨gt, 0, none⟩), .pointer (some ⟨gp, 0, none⟩)] w (AccIs w0 gp gt B 75 (fnV 43 [gt, gp]) (P ++ Merk.many nd em l fr ps)) := by
  induction K with
  | zero => intro l fr ps A n c Ap np cp P w hK h1; omega
  | succ K ih =>
    intro l fr ps A n c Ap np cp P w hK h1 hn hfr hP hr hnc hcm hpl hnp hps hacc
    have hl := hr.len
    by_cases h0 : np = 0
    · subst h0
      obtain rfl := List.eq_nil_of_length_eq_zero hpl.len
      rw [many_nil]
      have e0 : ((0 : Int) == 0) = true := by simp
      have HRT := Lib.hid (fun (W : World) (hb : Below w0.heap.size w0 W) => root_any N n l A n c W (Nat.le_refl _) (by omega) (hr.below hb) hnc hcm (hg.below hb))
      have HPQ : Hid (P.length + 1 ≤ 3000000) := Lib.hid (by omega)
      clear ih hr hcm hl
      generalize Merk.root nd em l = X at *
      obtain ⟨v, hSv, hownv⟩ := hacc
      have hS := hSv.below (Below.refl w.heap.size w).drew
      have hown5 := hownv.below (Below.refl w.heap.size w).drew
      clear hSv hownv
      unfold DgIs at HRT
      unfold AccIs
      generalize hF : fnV 43 [gt, gp] = F at *
      clear hF
      go_enter Tryd.func43, Tryd.ntmps43
      go_upto_region 1 with (fail)
      refine wp_region_TS (S := AccS w0 gp gt B 75 F v) 5 (by kernel_rfl) ?_
      refine WpT.take (i := 0) rfl (by kernel_rfl) (fun _ _ _ h => h) (yields_load1S rfl rfl rfl (by kernel_rfl) (fun W h => h.var.cell 0)) (hS) ?_
      try simp only [nrm]
      refine WpT.take (i := 1) rfl (by kernel_rfl) (fun _ _ _ h => h) (.inl ⟨by rfl, fun w hSw => by clear hSw; go_simp; (try go_bits); (try rw [if_pos (by omega)]); (try with_reducible rfl)⟩) (hS) ?_
      try simp only [nrm]
      refine WpT.one (i := 2) rfl (by kernel_rfl) (fun K hK => ?_)
      go_simp; refine (HRT.out _ hS.old).mono ?_; rintro e w6 ⟨rfl, hb6⟩; replace hS := hS.below hb6; replace hown5 := hown5.below hb6
      refine hK _ _ (hS) ?_; clear hK K; try simp only [nrm]
      refine WpT.one (i := 3) rfl (by kernel_rfl) (fun K hK => ?_)
      refine (if_pos (by rfl)).mpr ?_; refine wp_lit1D rfl (by rfl) ?_; intro w7 g7 hg7 hr7 hb7; clear hg7; replace hS := hS.below hb7; replace hown5 := hown5.below hb7
      refine hK _ _ (hS) ?_; clear hK K; try simp only [nrm]
      refine WpT.one (i := 4) rfl (by kernel_rfl) (fun K hK => ?_)
      refine (if_pos (by rfl)).mpr ?_; refine wp_appK rfl elemDg (by rfl) hown5 (by rfl) (m := 1) hr7 (one_dgsL [X]) (by have := HPQ.out; omega) hS.sz ?_; intro v8 w8 hown8 hg8 hb8; replace hS := hS.grown hpos hg8 hb8 (own_row hown5); replace hown8 : OwnDs w8 B v8 (P ++ [X]) := OwnDs.app hown8
      refine hK _ _ (hS) ?_; clear hK K; try simp only [nrm]
      refine WpT.tail (i := 5) rfl (by kernel_rfl) (by kernel_rfl) (fun K hK => ?_)
      refine (if_pos (by rfl)).mpr ?_; refine wp_set (j := 0) (v := v8) (cs' := #[v8]) rfl (by kernel_rfl) (by rfl) (by rfl) (own_one hown8) hS.var (by simp) (by simp) ?_; intro w9 ht9 b9
      refine hK _ _ ?_; clear hK K; try simp only [nrm]
      refine WpT.done (by kernel_rfl) ?_ _
      skip
      have hfin : Acc w0 gp gt B 75 F (P ++ [X]) w9 := ⟨v8, hS.turned hpos ht9 b9, ht9.own hown8 (own_ge hown8 hpos.tB)⟩
      clear hS hown8 hown5 ht9 b9
      go_wp2_with fail
      refine bodyPost_end (results_none rfl _ _ _) rfl ?_
      exact ⟨rfl, hfin⟩
    · have e0 : ((np : Int) == 0) = false := by simp; omega
      have hpn : ps ≠ [] := fun e => by subst e; exact h0 (by simpa using hpl.len.symm)
      by_cases h2 : 2 ≤ n
      · have hk1 := Merk.split_lt (n := n) h2
        have hk0 := Merk.split_pos n
        have hx := many_two nd em (l := l) (fr := fr) hpn (by rw [hl]; exact h2)
        rw [hl] at hx
        have hpl1 := many_len nd em _ (l.take (Merk.split n)) fr (ps.filter (fun p => p < fr + Merk.split n)) (Nat.le_refl _) (by simp; omega)
        rw [List.length_take] at hpl1
        have HS := Lib.hid (fun W => split_any n W (by omega) (by omega))
        have hcm2 : c ≤ 9223372036854775807 := hcm
        have e1 : (n : Int) > 1 := by omega
        have HC := Lib.hid (fun (W : World) (hb : Below w0.heap.size w0 W) => cut_any ps Ap np cp (fr + Merk.split n) W hnp (hpl.below hb) hps)
        have HPL := Lib.hid hpl
        have hfl1 : (ps.filter (fun p => p < fr + Merk.split n)).length ≤ 1000000 := by have := List.length_filter_le (fun p => decide (p < fr + Merk.split n)) ps; have := hpl.len; omega
        have hfl2 : (ps.filter (fun p => fr + Merk.split n ≤ p)).length ≤ 1000000 := by have := List.length_filter_le (fun p => decide (fr + Merk.split n ≤ p)) ps; have := hpl.len; omega
        have HI1 := Lib.hid (fun (A1 : Option Addr) (n1 c1 : Nat) (hp1 : PlAt w0 A1 n1 c1 (ps.filter (fun p => p < fr + Merk.split n))) (W : World) (h : Acc w0 gp gt B 75 (fnV 43 [gt, gp]) P W) => ih (l.take (Merk.split n)) fr (ps.filter (fun p => p < fr + Merk.split n)) A (Merk.split n) (Merk.split n) A1 n1 c1 P W (by omega) (by omega) (by omega) (by omega) (by omega) (hr.take (by omega)) (Nat.le_refl _) (by omega) hp1 (by rw [← hp1.len]; exact hfl1) (hps.filter _) h)
        have HI2 := Lib.hid (fun (A2 : Option Addr) (n2 c2 : Nat) (hp2 : PlAt w0 A2 n2 c2 (ps.filter (fun p => fr + Merk.split n ≤ p))) (W : World) (h : Acc w0 gp gt B 75 (fnV 43 [gt, gp]) (P ++ Merk.many nd em (l.take (Merk.split n)) fr (ps.filter (fun p => p < fr + Merk.split n))) W) => ih (l.drop (Merk.split n)) (fr + Merk.split n) (ps.filter (fun p => fr + Merk.split n ≤ p)) (if c = Merk.split n then A else A.map (·.add (Merk.split n * 16))) (n - Merk.split n) (c - Merk.split n) A2 n2 c2 _ W (by omega) (by omega) (by omega) (by omega) (by rw [List.length_append]; omega) (hr.drop (by omega) hnc) (by omega) (by omega) hp2 (by rw [← hp2.len]; exact hfl2) (hps.filter _) h)
        rw [hx, ← List.append_assoc]
        have hcast : ((fr + Merk.split n : Nat) : Int) = (fr : Int) + (Merk.split n : Int) := by omega
        rw [hcast] at HI2
        simp only [hcast] at HC
        have HG1 := Lib.hid (fun (A1 : Option Addr) (n1 c1 : Nat) (hf : ∀ W, PlAt W Ap np cp ps → PlAt W A1 n1 c1 (ps.filter (fun p => p < fr + Merk.split n))) => HI1.out A1 n1 c1 (hf _ hpl))
        have HG2 := Lib.hid (fun (A2 : Option Addr) (n2 c2 : Nat) (hf : ∀ W, PlAt W Ap np cp ps → PlAt W A2 n2 c2 (ps.filter (fun p => fr + Merk.split n ≤ p))) => HI2.out A2 n2 c2 (hf _ hpl))
        have hsum : 0 ≤ (fr : Int) + (Merk.split n : Int) ∧ (fr : Int) + (Merk.split n : Int) ≤ 3000000 := by omega
        have HW : Hid (wrap64 ((fr : Int) + (Merk.split n : Int)) = (fr : Int) + (Merk.split n : Int) ∧ IntKind.i64.wrap ((fr : Int) + (Merk.split n : Int)) = (fr : Int) + (Merk.split n : Int)) := Lib.hid ⟨by unfold wrap64; omega, wrap_small _ (by omega) (by omega)⟩
        clear ih hr hcm hl hpl hpl1 hx hcast hfl1 hfl2 hps HI1 HI2 HPL
        generalize Merk.many nd em (l.drop (Merk.split n)) (fr + Merk.split n) (ps.filter (fun p => fr + Merk.split n ≤ p)) = Q2 at *
        generalize P ++ Merk.many nd em (l.take (Merk.split n)) fr (ps.filter (fun p => p < fr + Merk.split n)) = PQ at *
        unfold CutIs at HC
        generalize ps.filter (fun p => p < fr + Merk.split n) = F1 at *
        generalize ps.filter (fun p => fr + Merk.split n ≤ p) = F2 at *
        generalize Merk.split n = k at *
        have hold : Below w0.heap.size w0 w := by obtain ⟨v, h1, _⟩ := hacc; exact h1.old
        have HOLD := Lib.hid hold
        have HACC := Lib.hid hacc
        clear hacc hold
        unfold AccIs at HG1 HG2 ⊢
        generalize hF : fnV 43 [gt, gp] = F at *
        have HF := Lib.hid hF.symm
        clear hF
        go_enter Tryd.func43, Tryd.ntmps43
        go_upto_region 5 with (first
          | (go_at_call 33; refine (HS.out _).mono ?_; rintro e w1 ⟨rfl, rfl⟩)
          | (go_at_call 44; refine (HC.out _ HOLD.out).mono ?_; rintro e w2 ⟨A1, n1, c1, A2, n2, c2, rfl, hf1, hf2, hb2⟩))
        have HI1 := Lib.hid (HG1.out A1 n1 c1 hf1)
        have HI2 := Lib.hid (HG2.out A2 n2 c2 hf2)
        have hacc2 := (HACC.out.below hb2).below (Below.refl w2.heap.size w2).drew
        have hfn : Blk w2.drew gp 75 #[F] := by obtain ⟨v, h1, _⟩ := hacc2; exact h1.fn
        have HACC2 := Lib.hid hacc2
        clear hf1 hf2 hb2 hacc2 HACC HOLD HC HG1 HG2
        rw [HF.out] at hfn
        refine wp_region_TS (S := fun W => Blk W gp 75 #[fnV 43 [gt, gp]]) 8 (by kernel_rfl) ?_
        refine WpT.take (i := 0) rfl (by kernel_rfl) (fun _ _ _ h => h) (yields_load1S rfl rfl rfl (by kernel_rfl) (fun W h => h.cell 0)) (hfn) ?_
        try simp only [nrm]
        refine WpT.take (i := 1) rfl (by kernel_rfl) (fun _ _ _ h => h) (.inl ⟨by rfl, fun w hSw => by clear hSw; go_simp; (try go_bits); (try rw [if_pos (by omega)]); (try with_reducible rfl)⟩) (hfn) ?_
        try simp only [nrm]
        refine WpT.take (i := 2) rfl (by kernel_rfl) (fun _ _ _ h => h) (.inl ⟨by rfl, fun w hSw => by clear hSw; go_simp; (try go_bits); (try rw [if_pos (by omega)]); (try with_reducible rfl)⟩) (hfn) ?_
        try simp only [nrm]
        refine WpT.take (i := 3) rfl (by kernel_rfl) (fun _ _ _ h => h) (.inl ⟨by rfl, fun w hSw => by clear hSw; go_simp; (try go_bits); (try rw [if_pos (by omega)]); (try with_reducible rfl)⟩) (hfn) ?_
        try simp only [nrm]
        refine WpT.take (i := 4) rfl (by kernel_rfl) (fun _ _ _ h => h) (.inl ⟨by rfl, fun w hSw => by clear hSw; go_simp; (try go_bits); (try rw [if_pos (by omega)]); (try with_reducible rfl)⟩) (hfn) ?_
        try simp only [nrm]
        refine WpT.take (i := 5) rfl (by kernel_rfl) (fun _ _ _ h => h) (.inl ⟨by rfl, fun w hSw => by clear hSw; go_simp; (try go_bits); (try rw [if_pos (by omega)]); (try with_reducible rfl)⟩) (hfn) ?_
        try simp only [nrm]
        refine WpT.take (i := 6) rfl (by kernel_rfl) (fun _ _ _ h => h) (.inl ⟨by rfl, fun w hSw => by clear hSw; go_simp; (try go_bits); (try rw [if_pos (by omega)]); (try with_reducible rfl)⟩) (hfn) ?_
        try simp only [nrm]
        refine WpT.one (i := 7) rfl (by kernel_rfl) (fun K hK => ?_)
        go_simp; refine (HI1.out _ HACC2.out).mono ?_; rintro e w5 ⟨rfl, v5, hS5, hown5⟩; have hfn5 := hS5.fn; rw [HF.out] at hfn5
        refine hK _ _ (hfn5) ?_; clear hK K; try simp only [nrm]
        refine WpT.done (by kernel_rfl) ?_ _
        skip
        have HACC5 : Hid (Acc w0 gp gt B 75 F PQ w5.drew) := Lib.hid (Acc.below ⟨v5, hS5, hown5⟩ (Below.refl _ _).drew)
        replace hfn5 := hfn5.below (Below.refl w5.heap.size w5).drew
        clear hfn HACC2 hS5 hown5 HI1
        go_upto_region 6 with (fail)
        refine wp_region_TS (S := fun W => Blk W gp 75 #[fnV 43 [gt, gp]]) 9 (by kernel_rfl) ?_
        refine WpT.take (i := 0) rfl (by kernel_rfl) (fun _ _ _ h => h) (yields_load1S rfl rfl rfl (by kernel_rfl) (fun W h => h.cell 0)) (hfn5) ?_
        try simp only [nrm]
        refine WpT.take (i := 1) rfl (by kernel_rfl) (fun _ _ _ h => h) (.inl ⟨by rfl, fun w hSw => by clear hSw; go_simp; (try go_bits); (try rw [if_pos (by omega)]); (try with_reducible rfl)⟩) (hfn5) ?_
        try simp only [nrm]
        refine WpT.take (i := 2) rfl (by kernel_rfl) (fun _ _ _ h => h) (.inl ⟨by rfl, fun w hSw => by clear hSw; go_simp; (try go_bits); (try rw [if_pos (by omega)]); (try with_reducible rfl)⟩) (hfn5) ?_
        try simp only [nrm]
        refine WpT.take (i := 3) rfl (by kernel_rfl) (fun _ _ _ h => h) (.inl ⟨by rfl, fun w hSw => by clear hSw; go_simp; (try go_bits); (try rw [if_pos (by omega)]); (try with_reducible rfl)⟩) (hfn5) ?_
        try simp only [nrm]
        refine WpT.take (i := 4) rfl (by kernel_rfl) (fun _ _ _ h => h) (.inl ⟨by rfl, fun w hSw => by clear hSw; go_simp; (try go_bits); (try rw [if_pos (by omega)]); (try with_reducible rfl)⟩) (hfn5) ?_
        try simp only [nrm]
        refine WpT.take (i := 5) rfl (by kernel_rfl) (fun _ _ _ h => h) (.inl ⟨by rfl, fun w hSw => by clear hSw; go_simp; (try go_bits); (try rw [if_pos (by omega)]); (try with_reducible rfl)⟩) (hfn5) ?_
        try simp only [nrm]
        refine WpT.take (i := 6) rfl (by kernel_rfl) (fun _ _ _ h => h) (.inl ⟨by rfl, fun w hSw => by clear hSw; go_simp; (try go_bits); (try rw [if_pos (by omega)]); (try with_reducible rfl)⟩) (hfn5) ?_
        try simp only [nrm]
        refine WpT.take (i := 7) rfl (by kernel_rfl) (fun _ _ _ h => h) (.inl ⟨by rfl, fun w hSw => by clear hSw; go_simp; (try go_bits); (try rw [if_pos (by omega)]); (try with_reducible rfl)⟩) (hfn5) ?_
        try simp only [nrm]
        refine WpT.one (i := 8) rfl (by kernel_rfl) (fun K hK => ?_)
        go_simp; (try simp only [HW.out.1, HW.out.2]); refine (HI2.out _ HACC5.out).mono ?_; rintro e w8 ⟨rfl, hacc8⟩; have hfn8 : Blk w8 gp 75 #[F] := (by obtain ⟨v, h1, _⟩ := hacc8; exact h1.fn); rw [HF.out] at hfn8
        refine hK _ _ (hfn8) ?_; clear hK K; try simp only [nrm]
        refine WpT.done (by kernel_rfl) ?_ _
        skip
        clear hfn5 hfn8 HACC5
        go_wp2_with fail
        refine bodyPost_end (results_none rfl _ _ _) rfl ?_
        exact ⟨rfl, hacc8⟩
      · obtain rfl : n = 1 := by omega
        rw [many_one nd em hpn (by omega), List.append_nil]
        unfold AccIs
        go_enter Tryd.func43, Tryd.ntmps43
        go_wp2_with fail
        refine bodyPost_end (results_none rfl _ _ _) rfl ?_
        exact ⟨rfl, hacc⟩
set_option maxRecDepth 20000 in
set_option maxHeartbeats 1000000 in
theorem many_some {nd : Nat → Nat → Nat} {em : Nat} (N : Nds nd em) (l : List Nat) (ps : List Nat) (A : Option Addr) (n c : Nat) (Ap : Option Addr) (np cp : Nat) (w : World) (hn : n ≤ 1000000) (h1 : 1 ≤ n) (hr : RdD w A n l) (hnc : n ≤ c) (hcm : c ≤ maxLen)
    (hpl : PlAt w Ap np cp ps) (hnp : np ≤ 1000000) (hps : ps.Pairwise (· < ·)) (hasc : ascB (ps.map fun (p : Nat) => (p : Int)) n = true) (hg : GCon w) :
    Calls Tryd.prog 21 #[.slice A n c, .slice Ap np cp] w (ErIs (Merk.many nd em l 0 ps, 0) w) := by
  have hmf : ∀ (fn : Fn) (first cap : Array Value) (w : World), (Instr.makeFunc fn first cap).run Tryd.prog w = .ok (.func fn first cap) w := fun _ _ _ _ => rfl
  have HAS := Lib.hid (fun W hr => asc_any (ps.map fun (p : Nat) => (p : Int)) Ap np cp (n : Int) W hnp (by simpa using hpl.len) hr)
  rw [hasc] at HAS
  have HPR := Lib.hid hpl.rd
  have d0 : (n : Int) > 0 := by omega
  have HI := Lib.hid (fun (gp gt B : Nat) (hpos : Pos w gp gt B) (W : World) (h : Acc w gp gt B 75 (fnV 43 [gt, gp]) [] W) => manyC_any N w gp gt B hpos hg n l 0 ps A n c Ap np cp [] W (Nat.le_refl _) h1 hn (by omega) (by simp; omega) hr hnc hcm hpl hnp hps h)
  simp only [List.nil_append] at HI
  clear hr hg hcm hpl hasc hps
  generalize Merk.many nd em l 0 ps = P at *
  unfold AccIs at HI
  unfold ErIs
  go_enter Tryd.func21, Tryd.ntmps21
  go_upto_region 5 with (go_at_call 42; refine (HAS.out _ HPR.out).mono ?_; rintro e w7 ⟨rfl, rfl⟩)
  clear HAS HPR
  change Code.wp _ _ _ _ ((w.alloc (.cells #[.slice none 0 0] 22)).alloc (.cells #[.nilFunc] 75))
  obtain ⟨wa, hwa, hb0, q0, q1, hsz⟩ : ∃ wa : World, wa = (w.alloc (.cells #[.slice none 0 0] 22)).alloc (.cells #[.nilFunc] 75) ∧ Below w.heap.size w wa ∧ Blk wa w.heap.size 22 #[.slice none 0 0] ∧ Blk wa (w.heap.size + 1) 75 #[.nilFunc] ∧ wa.heap.size = w.heap.size + 2 :=
    ⟨_, rfl, ((Below.refl w.heap.size w).alloc (Nat.le_refl _) _).alloc (by simp) _, (Blk.new _ _ _).alloc _, Blk.new2 _ _ _ _, by simp⟩
  rw [← hwa]
  clear hwa
  obtain ⟨gt, hgt⟩ : ∃ g, g = w.heap.size := ⟨_, rfl⟩
  obtain ⟨gp, hgp⟩ : ∃ g, g = w.heap.size + 1 := ⟨_, rfl⟩
  rw [← hgt] at q0
  rw [← hgp] at q1
  have hpos : Pos w gp gt wa.heap.size := ⟨by omega, by omega, by omega, by omega, by omega⟩
  have HGP := Lib.hid hgp
  have HGT := Lib.hid hgt
  rw [← hgp, ← hgt]
  clear hsz hgp hgt
  go_upto_region 7 with ((with_reducible show wpList _ _ _ (⟨none, _, _, _, _, _⟩ :: _) _ _); refine wpList_set (g := gp) (j := 0) (v := fnV 43 [gt, gp]) (cs' := #[fnV 43 [gt, gp]]) rfl rfl (by kernel_rfl) rfl rfl rfl q1 (by simp) (by simp) ?_; intro w2 ht2 b2)
  have hacc : Acc w gp gt wa.heap.size 75 (fnV 43 [gt, gp]) [] w2 :=
    ⟨.slice none 0 0, ⟨hb0.trans (ht2.below _ hpos.p), b2, ht2.blk q0 hpos.ne.symm, by rw [ht2.size]; exact Nat.le_refl _⟩, OwnDs.nil _ _⟩
  have HI2 := Lib.hid (HI.out gp gt wa.heap.size hpos w2 hacc)
  have c2 := b2.cell 0
  simp only [List.getElem?_toArray, List.getElem?_cons_zero] at c2
  clear b2 ht2 q0 q1 hacc HI
  go_wp2_with fail
  refine HI2.out.mono ?_
  rintro e w5 ⟨rfl, v5, hS5, hown5⟩
  have c5 := hS5.var.cell 0
  simp only [List.getElem?_toArray, List.getElem?_cons_zero] at c5
  have hsz : w.heap.size ≤ wa.heap.size := hb0.size
  have hold := hS5.old
  clear hS5
  go_wp2_with fail
  refine bodyPost_ret (results_tmp2 rfl _ _ _) rfl ?_
  exact ⟨_, rfl, hown5.lower hsz, hold⟩
theorem many_asc_false (l : List Nat) (ps : List Int) (A : Option Addr) (n c : Nat) (Ap : Option Addr) (np cp : Nat) (w : World) (hnp : np ≤ 1000000) (hl : ps.length = np) (hr : Rd w Ap np (iv ps)) (hasc : ascB ps n = false) :
    Calls Tryd.prog 21 #[.slice A n c, .slice Ap np cp] w (ErIs ([], 1) w) := by
  have HAS := Lib.hid (asc_any ps Ap np cp (n : Int) w hnp hl hr)
  rw [hasc] at HAS
  unfold ErIs
  go_enter Tryd.func21, Tryd.ntmps21
  go_wp2_with (go_at_call 42; refine HAS.out.mono ?_; rintro e w7 ⟨rfl, rfl⟩)
  refine bodyPost_ret (results_tmp2 rfl _ _ _) rfl ?_
  exact ⟨_, rfl, OwnDs.nil _ _, Below.refl _ _⟩
set_option maxRecDepth 20000 in
set_option maxHeartbeats 1000000 in
theorem many_zero (A : Option Addr) (c : Nat) (Ap : Option Addr) (cp : Nat) (w : World) :
    Calls Tryd.prog 21 #[.slice A 0 c, .slice Ap 0 cp] w (ErIs ([], 0) w) := by
  have hmf : ∀ (fn : Fn) (first cap : Array Value) (w : World), (Instr.makeFunc fn first cap).run Tryd.prog w = .ok (.func fn first cap) w := fun _ _ _ _ => rfl
  have HAS := Lib.hid (asc_any [] Ap 0 cp 0 w (by omega) rfl (by exact ⟨rfl, fun k u hk => by simp [iv] at hk⟩))
  rw [show ascB [] 0 = true from rfl] at HAS
  unfold ErIs
  go_enter Tryd.func21, Tryd.ntmps21
  go_upto_region 5 with (go_at_call 42; refine HAS.out.mono ?_; rintro e w7 ⟨rfl, rfl⟩)
  clear HAS
  change Code.wp _ _ _ _ ((w.alloc (.cells #[.slice none 0 0] 22)).alloc (.cells #[.nilFunc] 75))
  obtain ⟨wa, hwa, hb0, q0, q1, hsz⟩ : ∃ wa : World, wa = (w.alloc (.cells #[.slice none 0 0] 22)).alloc (.cells #[.nilFunc] 75) ∧ Below w.heap.size w wa ∧ Blk wa w.heap.size 22 #[.slice none 0 0] ∧ Blk wa (w.heap.size + 1) 75 #[.nilFunc] ∧ wa.heap.size = w.heap.size + 2 :=
    ⟨_, rfl, ((Below.refl w.heap.size w).alloc (Nat.le_refl _) _).alloc (by simp) _, (Blk.new _ _ _).alloc _, Blk.new2 _ _ _ _, by simp⟩
  rw [← hwa]
  clear hwa
  obtain ⟨gt, hgt⟩ : ∃ g, g = w.heap.size := ⟨_, rfl⟩
  obtain ⟨gp, hgp⟩ : ∃ g, g = w.heap.size + 1 := ⟨_, rfl⟩
  rw [← hgt] at q0
  rw [← hgp] at q1
  have hpos : Pos w gp gt wa.heap.size := ⟨by omega, by omega, by omega, by omega, by omega⟩
  have HGP := Lib.hid hgp
  have HGT := Lib.hid hgt
  rw [← hgp, ← hgt]
  clear hsz hgp hgt
  go_upto_region 6 with ((with_reducible show wpList _ _ _ (⟨none, _, _, _, _, _⟩ :: _) _ _); refine wpList_set (g := gp) (j := 0) (v := fnV 43 [gt, gp]) (cs' := #[fnV 43 [gt, gp]]) rfl rfl (by kernel_rfl) rfl rfl rfl q1 (by simp) (by simp) ?_; intro w2 ht2 b2)
  have c5 := (ht2.blk q0 hpos.ne.symm).cell 0
  simp only [List.getElem?_toArray, List.getElem?_cons_zero] at c5
  have hold := hb0.trans (ht2.below _ hpos.p)
  clear b2 ht2 q0 q1
  go_wp2_with fail
  refine bodyPost_ret (results_tmp2 rfl _ _ _) rfl ?_
  exact ⟨_, rfl, OwnDs.nil _ _, hold⟩
def manyR (nd : Nat → Nat → Nat) (em : Nat) (l : List Nat) (ps : List Int) : List Nat × Int := if ascB ps l.length then (if l = [] then [] else Merk.many nd em l 0 (ps.map Int.toNat), 0) else ([], 1)
theorem toNat_cast (ps : List Nat) : (ps.map fun (p : Nat) => (p : Int)).map Int.toNat = ps := by
  rw [List.map_map]; conv => rhs; rw [← List.map_id ps]
  exact List.map_congr_left fun x _ => by simp
theorem many_all {nd : Nat → Nat → Nat} {em : Nat} (N : Nds nd em) (l : List Nat) (ps : List Int) (A : Option Addr) (n c : Nat) (Ap : Option Addr) (np cp : Nat) (w : World) (hn : n ≤ 1000000) (hr : RdD w A n l) (hnc : n ≤ c) (hcm : c ≤ maxLen)
    (hnp : np ≤ 1000000) (hpl : ps.length = np) (hrp : Rd w Ap np (iv ps)) (hpc : np ≤ cp) (hpm : cp ≤ maxLen) (hg : GCon w) :
    Calls Tryd.prog 21 #[.slice A n c, .slice Ap np cp] w (ErIs (manyR nd em l ps) w) := by
  have hl := hr.len
  unfold manyR
  cases hasc : ascB ps l.length with
  | false =>
    rw [hl] at hasc
    exact many_asc_false l ps A n c Ap np cp w hnp hpl hrp hasc
  | true =>
    obtain ⟨qs, rfl, hq1, hq2⟩ := asc_nat hasc
    rw [toNat_cast, if_pos rfl]
    by_cases h0 : l = []
    · subst h0
      obtain rfl : qs = [] := by
        cases qs with
        | nil => rfl
        | cons x qs => have := hq2 x (by simp); simp at this; omega
      obtain rfl : n = 0 := by simpa using hl.symm
      obtain rfl : np = 0 := by simpa using hpl.symm
      rw [if_pos rfl]
      exact many_zero A c Ap cp w
    · rw [if_neg h0]
      exact many_some N l qs A n c Ap np cp w hn (by have := Merk.pos_len h0; omega) hr hnc hcm ⟨by simpa using hpl, hrp, hpc, hpm⟩ hnp hq1 (by rw [hl] at hasc; exact hasc) hg
end Go.Proofs.YtgggpnjnhhkmgaaDoor
namespace Go.Proofs.YtgggpnjnhhkmgaaDoor
set_option linter.unusedSimpArgs false
set_option linter.unusedVariables false
open Go.RowKit Exch Merk
theorem climbM_nil (nd : Nat → Nat → Nat) (fr n : Nat) (p q : Pth) : climbM nd fr n [] p q = (p.first.1, p.first.2, q) := by rw [climbM, if_pos rfl]
theorem climbM_one (nd : Nat → Nat → Nat) {fr n : Nat} {ps : List Nat} (hp : ps ≠ []) (h : ¬ 2 ≤ n) (p q : Pth) : climbM nd fr n ps p q = (q.first.1, p, q.first.2) := by rw [climbM, if_neg hp, dif_neg h]
abbrev cmA (nd : Nat → Nat → Nat) (fr n : Nat) (ps : List Nat) (p q : Pth) : Nat × Pth × Pth := climbM nd fr (Merk.split n) (ps.filter (fun x => x < fr + Merk.split n)) p q
abbrev cmB (nd : Nat → Nat → Nat) (fr n : Nat) (ps : List Nat) (p q : Pth) : Nat × Pth × Pth := climbM nd (fr + Merk.split n) (n - Merk.split n) (ps.filter (fun x => fr + Merk.split n ≤ x)) (cmA nd fr n ps p q).2.1 (cmA nd fr n ps p q).2.2
theorem climbM_two (nd : Nat → Nat → Nat) {fr n : Nat} {ps : List Nat} (hp : ps ≠ []) (h : 2 ≤ n) (p q : Pth) : climbM nd fr n ps p q = (nd (cmA nd fr n ps p q).1 (cmB nd fr n ps p q).1, (cmB nd fr n ps p q).2) := by rw [climbM, if_neg hp, dif_pos h]
structure CmS (w0 : World) (gv gu gb gq gf : Nat) (F : Value) (p q : Pth) (W : World) : Prop where
  path : PthAt w0 gb p W
  found : PthAt w0 gq q W
  pv : Blk W gv 79 #[.pointer (some ⟨gb, 0, none⟩)]
  qv : Blk W gu 79 #[.pointer (some ⟨gq, 0, none⟩)]
  fn : Blk W gf 84 #[F]
structure CmPos (w0 : World) (gv gu gb gq gf : Nat) : Prop where
  bq : gb ≠ gq
  vb : gv ≠ gb ∧ gv ≠ gq
  ub : gu ≠ gb ∧ gu ≠ gq
  fb : gf ≠ gb ∧ gf ≠ gq
  ge : w0.heap.size ≤ gv ∧ w0.heap.size ≤ gu ∧ w0.heap.size ≤ gb ∧ w0.heap.size ≤ gq ∧ w0.heap.size ≤ gf
section
variable {w0 W W' : World} {gv gu gb gq gf : Nat} {F : Value} {p p' q q' : Pth}
theorem CmS.below (h : CmS w0 gv gu gb gq gf F p q W) (hb : Below W.heap.size W W') : CmS w0 gv gu gb gq gf F p q W' :=
  ⟨h.path.below hb, h.found.below hb, h.pv.below hb, h.qv.below hb, h.fn.below hb⟩
theorem CmS.wentP (h : CmS w0 gv gu gb gq gf F p q W) (hp : CmPos w0 gv gu gb gq gf) (hg : Grew [gb] W W') (h2 : PthAt w0 gb p' W') : CmS w0 gv gu gb gq gf F p' q W' :=
  ⟨h2, h.found.grew hg (by simpa using hp.bq.symm) (by simpa using hp.ge.2.2.1), hg.blk h.pv (by simpa using hp.vb.1), hg.blk h.qv (by simpa using hp.ub.1), hg.blk h.fn (by simpa using hp.fb.1)⟩
theorem CmS.wentQ (h : CmS w0 gv gu gb gq gf F p q W) (hp : CmPos w0 gv gu gb gq gf) (hg : Grew [gq] W W') (h2 : PthAt w0 gq q' W') : CmS w0 gv gu gb gq gf F p q' W' :=
  ⟨h.path.grew hg (by simpa using hp.bq) (by simpa using hp.ge.2.2.2.1), h2, hg.blk h.pv (by simpa using hp.vb.2), hg.blk h.qv (by simpa using hp.ub.2), hg.blk h.fn (by simpa using hp.fb.2)⟩
theorem CmS.other (h : CmS w0 gv gu gb gq gf F p q W) {g : Nat} (ht : Turned g W W') (hn : gv ≠ g ∧ gu ≠ g ∧ gb ≠ g ∧ gq ≠ g ∧ gf ≠ g) (h0 : w0.heap.size ≤ g) : CmS w0 gv gu gb gq gf F p q W' :=
  ⟨h.path.grew ((Grew.refl [g] W).turned ht (.inl (by simp))) (by simpa using hn.2.2.1) (by simpa using h0), h.found.grew ((Grew.refl [g] W).turned ht (.inl (by simp))) (by simpa using hn.2.2.2.1) (by simpa using h0), ht.blk h.pv hn.1, ht.blk h.qv hn.2.1, ht.blk h.fn hn.2.2.2.2⟩
theorem CmS.lt (h : CmS w0 gv gu gb gq gf F p q W) : gv < W.heap.size ∧ gu < W.heap.size ∧ gb < W.heap.size ∧ gq < W.heap.size ∧ gf < W.heap.size := by
  obtain ⟨_, _, _, _, _, _, _, hb⟩ := h.path.blk
  obtain ⟨_, _, _, _, _, _, _, hq⟩ := h.found.blk
  exact ⟨h.pv.lt, h.qv.lt, hb.lt, hq.lt, h.fn.lt⟩
end
def CmIs (r : Nat × Pth × Pth) (w0 : World) (gv gu gb gq gf : Nat) (F : Value) (w : World) (e : Ending) (w' : World) : Prop := e = .returned (dgV r.1) ∧ CmS w0 gv gu gb gq gf F r.2.1 r.2.2 w' ∧ Grew [gb, gq] w w'
abbrev F48 (gv gu gf : Nat) : Value := fnV 48 [gv, gu, gf]
set_option maxRecDepth 20000 in
set_option maxHeartbeats 4000000 in
theorem climbM_any {nd : Nat → Nat → Nat} {em : Nat} (N : Nds nd em) (w0 : World) (gv gu gb gq gf : Nat) (hpos : CmPos w0 gv gu gb gq gf) (hg : GCon w0) (K : Nat) : ∀ (fr n : Nat) (ps : List Nat) (Ap : Option Addr) (np cp : Nat) (p q : Pth) (w : World), n ≤ K → 1 ≤ n → fr + n ≤ 1099511627776 → PlAt w0 Ap np cp ps → np ≤ 1000000 → ps.Pairwise (· < ·) →
    CmS w0 gv gu gb gq gf (F48 gv gu gf) p q w →
    Calls Tryd.prog 48 #[.int .i64 fr, .int .i64 n, .slice Ap np cp, .pointer (some ⟨gv, 0, none⟩), .pointer (some ⟨gu, 0, none⟩), .pointer (some ⟨gf, 0, none⟩)] w (CmIs (climbM nd fr n ps p q) w0 gv gu gb gq gf (F48 gv gu gf) w) := by
  induction K with
  | zero => intro fr n ps Ap np cp p q w hK h1; omega
  | succ K ih =>
    intro fr n ps Ap np cp p q w hK h1 hfn hpl hnp hps hs
    have HPOS := Lib.hid hpos
    have HSt := Lib.hid hs
    have HLT := Lib.hid (And.intro hs.lt hs.path.old.size)
    by_cases h0 : np = 0
    · subst h0
      obtain rfl := List.eq_nil_of_length_eq_zero hpl.len
      rw [climbM_nil]
      have HF1 := Lib.hid (fun (W : World) (h : PthAt w0 gb p W) => first_any p w0 gb W h)
      unfold EndIs at HF1
      unfold CmIs
      show Calls _ _ _ _ fun e w' => e = .returned (dgV p.first.1) ∧ CmS w0 gv gu gb gq gf (F48 gv gu gf) p.first.2 q w' ∧ Grew [gb, gq] w w'
      clear hs hpos hg ih hpl hps
      generalize p.first.1 = X at *
      generalize p.first.2 = P1 at *
      generalize F48 gv gu gf = F at *
      go_enter Tryd.func48, Tryd.ntmps48
      go_upto_region 1 with ((with_reducible show wpList _ _ _ (⟨some 9, _, _, _, _, _⟩ :: _) _ _); refine wpList_new (cs := dgC 0) rfl rfl zeroDg ?_; intro w1 g9 hg9 q9 hb1 lt9; have HG9 := Lib.hid hg9; clear hg9)
      have hst := HSt.out.below hb1
      have cv := hst.pv.cell 0
      simp only [List.getElem?_toArray, List.getElem?_cons_zero] at cv
      go_wp2_with fail
      refine (HF1.out _ hst.path).mono ?_
      rintro e w5 ⟨rfl, hpl, hgl⟩
      replace hst := hst.wentP HPOS.out hgl hpl
      replace q9 := hgl.blk q9 (by have := HG9.out; have := HLT.out; simp; omega)
      have hgr : Grew [gb, gq] w w5 := (Grew.of_below hb1).trans (hgl.more (by simp))
      clear cv hpl hgl
      go_wp2_with ((with_reducible show wpList _ _ _ (⟨none, _, _, _, _, _⟩ :: _) _ _); refine wpList_put (vs := dgC X) rfl rfl rfl rfl q9 (by rw [dgC_size, dgC_size]) (by rw [sizeDg, dgC_size]) (one_dgC _) ?_; intro w9 ht9 b9)
      have hlt := HLT.out
      have h9 := HG9.out
      exact ret_blk rfl rfl rfl b9 aggDg (by rw [sizeDg, dgC_size]) ⟨rfl, hst.other ht9 (by omega) (by omega), hgr.turned ht9 (.inr (by omega))⟩
    · have e0 : ((np : Int) == 0) = false := by simp; omega
      have hpn : ps ≠ [] := fun e => by subst e; exact h0 (by simpa using hpl.len.symm)
      by_cases h2 : 2 ≤ n
      · have hk1 := Merk.split_lt (n := n) h2
        have hk0 := Merk.split_pos n
        rw [climbM_two nd hpn h2]
        have HS := Lib.hid (fun W => split_any n W h2 (by omega))
        have e1 : ((n : Int) == 1) = false := by simp; omega
        have HC := Lib.hid (fun (W : World) (hb : Below w0.heap.size w0 W) => cut_any ps Ap np cp (fr + Merk.split n) W hnp (hpl.below hb) hps)
        have hfl1 : (ps.filter (fun x => x < fr + Merk.split n)).length ≤ 1000000 := by have := List.length_filter_le (fun x => decide (x < fr + Merk.split n)) ps; have := hpl.len; omega
        have hfl2 : (ps.filter (fun x => fr + Merk.split n ≤ x)).length ≤ 1000000 := by have := List.length_filter_le (fun x => decide (fr + Merk.split n ≤ x)) ps; have := hpl.len; omega
        have HI1 := Lib.hid (fun (A1 : Option Addr) (n1 c1 : Nat) (hf : ∀ W, PlAt W Ap np cp ps → PlAt W A1 n1 c1 (ps.filter (fun x => x < fr + Merk.split n))) (W : World) (h : CmS w0 gv gu gb gq gf (F48 gv gu gf) p q W) => ih fr (Merk.split n) (ps.filter (fun x => x < fr + Merk.split n)) A1 n1 c1 p q W (by omega) (by omega) (by omega) (hf _ hpl) (by have := (hf _ hpl).len; omega) (hps.filter _) h)
        have HI2 := Lib.hid (fun (A2 : Option Addr) (n2 c2 : Nat) (hf : ∀ W, PlAt W Ap np cp ps → PlAt W A2 n2 c2 (ps.filter (fun x => fr + Merk.split n ≤ x))) (W : World) (h : CmS w0 gv gu gb gq gf (F48 gv gu gf) (cmA nd fr n ps p q).2.1 (cmA nd fr n ps p q).2.2 W) => ih (fr + Merk.split n) (n - Merk.split n) (ps.filter (fun x => fr + Merk.split n ≤ x)) A2 n2 c2 (cmA nd fr n ps p q).2.1 (cmA nd fr n ps p q).2.2 W (by omega) (by omega) (by omega) (hf _ hpl) (by have := (hf _ hpl).len; omega) (hps.filter _) h)
        have HN := Lib.hid (fun (W : World) (h : GCon W) => N.node (cmA nd fr n ps p q).1 (cmB nd fr n ps p q).1 W h)
        have HG := Lib.hid hg
        have hc1 : ((fr + Merk.split n : Nat) : Int) = (fr : Int) + (Merk.split n : Int) := by omega
        have hc2 : ((n - Merk.split n : Nat) : Int) = (n : Int) - (Merk.split n : Int) := by omega
        simp only [hc1, hc2] at HI2
        simp only [hc1] at HC
        have hsum : 0 ≤ (fr : Int) + (Merk.split n : Int) ∧ (fr : Int) + (Merk.split n : Int) ≤ 1099511627776 := by omega
        have hsub : 0 ≤ (n : Int) - (Merk.split n : Int) ∧ (n : Int) - (Merk.split n : Int) ≤ 1099511627776 := by omega
        have HW : Hid ((wrap64 ((fr : Int) + (Merk.split n : Int)) = (fr : Int) + (Merk.split n : Int) ∧ IntKind.i64.wrap ((fr : Int) + (Merk.split n : Int)) = (fr : Int) + (Merk.split n : Int)) ∧ (wrap64 ((n : Int) - (Merk.split n : Int)) = (n : Int) - (Merk.split n : Int) ∧ IntKind.i64.wrap ((n : Int) - (Merk.split n : Int)) = (n : Int) - (Merk.split n : Int))) := Lib.hid ⟨⟨by unfold wrap64; omega, wrap_small _ (by omega) (by omega)⟩, by unfold wrap64; omega, wrap_small _ (by omega) (by omega)⟩
        change Hid (∀ (A1 : Option Addr) (n1 c1 : Nat) (hf : ∀ W, PlAt W Ap np cp ps → PlAt W A1 n1 c1 (ps.filter (fun x => x < fr + Merk.split n))) (W : World) (h : CmS w0 gv gu gb gq gf (F48 gv gu gf) p q W), Calls _ _ _ _ (CmIs (cmA nd fr n ps p q) w0 gv gu gb gq gf (F48 gv gu gf) W)) at HI1
        change Hid (∀ (A2 : Option Addr) (n2 c2 : Nat) (hf : ∀ W, PlAt W Ap np cp ps → PlAt W A2 n2 c2 (ps.filter (fun x => fr + Merk.split n ≤ x))) (W : World) (h : CmS w0 gv gu gb gq gf (F48 gv gu gf) (cmA nd fr n ps p q).2.1 (cmA nd fr n ps p q).2.2 W), Calls _ _ _ _ (CmIs (cmB nd fr n ps p q) w0 gv gu gb gq gf (F48 gv gu gf) W)) at HI2
        unfold CmIs at HI1 HI2 ⊢
        unfold CutIs at HC
        show Calls _ _ _ _ fun e w' => e = .returned (dgV (nd (cmA nd fr n ps p q).1 (cmB nd fr n ps p q).1)) ∧ CmS w0 gv gu gb gq gf (F48 gv gu gf) (cmB nd fr n ps p q).2.1 (cmB nd fr n ps p q).2.2 w' ∧ Grew [gb, gq] w w'
        have HPL := Lib.hid hpl
        clear ih hs hpos hg hpl hps hc1 hc2 hfl1 hfl2
        generalize nd (cmA nd fr n ps p q).1 (cmB nd fr n ps p q).1 = Z at *
        generalize (cmB nd fr n ps p q).1 = E at *
        generalize (cmB nd fr n ps p q).2.1 = P2 at *
        generalize (cmB nd fr n ps p q).2.2 = Q2 at *
        generalize (cmA nd fr n ps p q).1 = D at *
        generalize (cmA nd fr n ps p q).2.1 = P1 at *
        generalize (cmA nd fr n ps p q).2.2 = Q1 at *
        generalize ps.filter (fun x => x < fr + Merk.split n) = F1 at *
        generalize ps.filter (fun x => fr + Merk.split n ≤ x) = F2 at *
        generalize Merk.split n = k at *
        generalize hF : F48 gv gu gf = F at *
        have HF := Lib.hid hF.symm
        clear hF
        go_enter Tryd.func48, Tryd.ntmps48
        go_upto_region 5 with ((with_reducible show wpList _ _ _ (⟨some 9, _, _, _, _, _⟩ :: _) _ _); refine wpList_new (cs := dgC 0) rfl rfl zeroDg ?_; intro w1 g9 hg9 q9 hb1 lt9; have HG9 := Lib.hid hg9; clear hg9)
        have HH0 := Lib.hid (show w.heap.size ≤ g9 by have := HG9.out; omega)
        have hst := HSt.out.below hb1
        have hgr : Grew [gb, gq] w w1 := Grew.of_below hb1
        have HOLD := Lib.hid hst.path.old
        have HB1 := Lib.hid hb1
        clear hb1 lt9 HG9
        go_upto_region 7 with (first
          | (go_at_call 33; refine (HS.out _).mono ?_; rintro e wS ⟨rfl, rfl⟩)
          | (go_at_call 44; refine (HC.out _ HOLD.out).mono ?_; rintro e w2 ⟨A1, n1, c1, A2, n2, c2, rfl, hf1, hf2, hb2⟩))
        have HJ1 := Lib.hid (HI1.out A1 n1 c1 hf1)
        have HJ2 := Lib.hid (HI2.out A2 n2 c2 hf2)
        replace hst := hst.below hb2
        replace hgr := hgr.later hb2
        replace q9 := q9.below hb2
        clear hf1 hf2 hb2 HOLD HC HI1 HI2 HB1
        have cf := hst.fn.cell 0
        simp only [List.getElem?_toArray, List.getElem?_cons_zero] at cf
        rw [HF.out] at cf
        go_wp2_with fail
        refine (HJ1.out _ hst).mono ?_
        rintro e w5 ⟨rfl, hst2, hgC⟩
        replace q9 := hgC.blk q9 (by have := HH0.out; have := HLT.out; simp; omega)
        replace hgr := hgr.trans hgC
        clear hst cf hgC
        go_upto_region 8 with (first
          | ((with_reducible show wpList _ _ _ (⟨some 13, _, _, _, _, _⟩ :: _) _ _); refine wpList_new (cs := dgC 0) rfl rfl zeroDg ?_; intro w6 g13 hg13 q13 hb6 lt13; have HG13 := Lib.hid hg13; clear hg13)
          | ((with_reducible show wpList _ _ _ (⟨none, _, _, _, _, _⟩ :: _) _ _); refine wpList_put (vs := dgC D) rfl rfl rfl rfl q13 (by rw [dgC_size, dgC_size]) (by rw [sizeDg, dgC_size]) (one_dgC _) ?_; intro w7 ht7 b13))
        have HH := Lib.hid (show w.heap.size ≤ g9 ∧ g9 < g13 from ⟨HH0.out, by have := HG13.out; have := q9.lt; omega⟩)
        replace hst2 := ((hst2.below hb6).other ht7 (by have := HH.out; have := HLT.out; omega) (by have := HH.out; have := HLT.out; omega)).below (Below.refl w7.heap.size w7).drew
        replace hgr := ((hgr.later hb6).turned ht7 (.inr (by have := HH.out; have := HLT.out; omega))).later (Below.refl w7.heap.size w7).drew
        replace q9 := (ht7.blk (q9.below hb6) (by have := HH.out; have := HLT.out; omega)).below (Below.refl w7.heap.size w7).drew
        replace b13 := b13.below (Below.refl w7.heap.size w7).drew
        clear q13 hb6 ht7 HG13 lt13
        have hS : Blk w7.drew gf 84 #[F] ∧ Blk w7.drew g13 31 (dgC D) := ⟨hst2.fn, b13⟩
        rw [HF.out] at hS
        refine wp_region_TS (S := fun W => Blk W gf 84 #[F48 gv gu gf] ∧ Blk W g13 31 (dgC D)) 11 (by kernel_rfl) ?_
        refine WpT.take (i := 0) rfl (by kernel_rfl) (fun _ _ _ h => h) (yields_blkS rfl rfl rfl aggDg (by rw [sizeDg, dgC_size]) (fun W h => h.2)) (hS) ?_
        try simp only [nrm]
        refine WpT.take (i := 1) rfl (by kernel_rfl) (fun _ _ _ h => h) (yields_load1S rfl rfl rfl (by kernel_rfl) (fun W h => h.1.cell 0)) (hS) ?_
        try simp only [nrm]
        refine WpT.take (i := 2) rfl (by kernel_rfl) (fun _ _ _ h => h) (.inl ⟨by rfl, fun w hSw => by clear hSw; go_simp; (try go_bits); (try rw [if_pos (by omega)]); (try with_reducible rfl)⟩) (hS) ?_
        try simp only [nrm]
        refine WpT.take (i := 3) rfl (by kernel_rfl) (fun _ _ _ h => h) (.inl ⟨by rfl, fun w hSw => by clear hSw; go_simp; (try go_bits); (try rw [if_pos (by omega)]); (try with_reducible rfl)⟩) (hS) ?_
        try simp only [nrm]
        refine WpT.take (i := 4) rfl (by kernel_rfl) (fun _ _ _ h => h) (.inl ⟨by rfl, fun w hSw => by clear hSw; go_simp; (try go_bits); (try rw [if_pos (by omega)]); (try with_reducible rfl)⟩) (hS) ?_
        try simp only [nrm]
        refine WpT.take (i := 5) rfl (by kernel_rfl) (fun _ _ _ h => h) (.inl ⟨by rfl, fun w hSw => by clear hSw; go_simp; (try go_bits); (try rw [if_pos (by omega)]); (try with_reducible rfl)⟩) (hS) ?_
        try simp only [nrm]
        refine WpT.take (i := 6) rfl (by kernel_rfl) (fun _ _ _ h => h) (.inl ⟨by rfl, fun w hSw => by clear hSw; go_simp; (try go_bits); (try rw [if_pos (by omega)]); (try with_reducible rfl)⟩) (hS) ?_
        try simp only [nrm]
        refine WpT.take (i := 7) rfl (by kernel_rfl) (fun _ _ _ h => h) (.inl ⟨by rfl, fun w hSw => by clear hSw; go_simp; (try go_bits); (try rw [if_pos (by omega)]); (try with_reducible rfl)⟩) (hS) ?_
        try simp only [nrm]
        refine WpT.take (i := 8) rfl (by kernel_rfl) (fun _ _ _ h => h) (.inl ⟨by rfl, fun w hSw => by clear hSw; go_simp; (try go_bits); (try rw [if_pos (by omega)]); (try with_reducible rfl)⟩) (hS) ?_
        try simp only [nrm]
        refine WpT.one (i := 9) rfl (by kernel_rfl) (fun K hK => ?_)
        go_simp; (try simp only [HW.out.1.1, HW.out.1.2, HW.out.2.1, HW.out.2.2]); refine (HJ2.out _ hst2).mono ?_; rintro e wC ⟨rfl, hst3, hgC⟩; replace q9 := hgC.blk q9 (by have := HH.out; have := HLT.out; simp; omega); replace b13 := hgC.blk b13 (by have := HH.out; have := HLT.out; simp; omega); replace hgr := hgr.trans hgC; replace hS := And.intro hst3.fn b13; rw [HF.out] at hS
        refine hK _ _ (hS) ?_; clear hK K; try simp only [nrm]
        refine WpT.one (i := 10) rfl (by kernel_rfl) (fun K hK => ?_)
        go_simp; refine (HN.out _ (HG.out.below hst3.path.old)).mono ?_; rintro e wM ⟨rfl, hbM⟩; replace hst3 := hst3.below hbM; replace q9 := q9.below hbM; replace b13 := b13.below hbM; replace hgr := hgr.later hbM; replace hS := And.intro hst3.fn b13; rw [HF.out] at hS
        refine hK _ _ (hS) ?_; clear hK K; try simp only [nrm]
        refine WpT.tail (i := 11) rfl (by kernel_rfl) (by kernel_rfl) (fun K hK => ?_)
        refine (if_pos (by rfl)).mpr ?_; refine wp_put (vs := dgC Z) rfl rfl rfl q9 (by rw [dgC_size, dgC_size]) (by rw [sizeDg, dgC_size]) (one_dgC _) ?_; intro w9 ht9 b9
        refine hK _ _ ?_; clear hK K; try simp only [nrm]
        refine WpT.done (by kernel_rfl) ?_ _
        skip
        have hfin := hst3.other ht9 (by have := HH.out; have := HLT.out; omega) (by have := HH.out; have := HLT.out; omega)
        replace hgr := hgr.turned ht9 (.inr (by have := HH.out; have := HLT.out; omega))
        clear hS q9 b13 hst2 hst3
        go_wp2_with fail
        exact ret_blk rfl rfl rfl b9 aggDg (by rw [sizeDg, dgC_size]) ⟨rfl, hfin, hgr⟩
      · obtain rfl : n = 1 := by omega
        rw [climbM_one nd hpn (by omega)]
        have HF1 := Lib.hid (fun (W : World) (h : PthAt w0 gq q W) => first_any q w0 gq W h)
        unfold EndIs at HF1
        unfold CmIs
        show Calls _ _ _ _ fun e w' => e = .returned (dgV q.first.1) ∧ CmS w0 gv gu gb gq gf (F48 gv gu gf) p q.first.2 w' ∧ Grew [gb, gq] w w'
        clear hs hpos hg ih hpl hps
        generalize q.first.1 = X at *
        generalize q.first.2 = P1 at *
        generalize F48 gv gu gf = F at *
        go_enter Tryd.func48, Tryd.ntmps48
        go_upto_region 1 with ((with_reducible show wpList _ _ _ (⟨some 9, _, _, _, _, _⟩ :: _) _ _); refine wpList_new (cs := dgC 0) rfl rfl zeroDg ?_; intro w1 g9 hg9 q9 hb1 lt9; have HG9 := Lib.hid hg9; clear hg9)
        have hst := HSt.out.below hb1
        have cv := hst.qv.cell 0
        simp only [List.getElem?_toArray, List.getElem?_cons_zero] at cv
        go_wp2_with fail
        refine (HF1.out _ hst.found).mono ?_
        rintro e w5 ⟨rfl, hpl, hgl⟩
        replace hst := hst.wentQ HPOS.out hgl hpl
        replace q9 := hgl.blk q9 (by have := HG9.out; have := HLT.out; simp; omega)
        have hgr : Grew [gb, gq] w w5 := (Grew.of_below hb1).trans (hgl.more (by simp))
        clear cv hpl hgl
        go_wp2_with ((with_reducible show wpList _ _ _ (⟨none, _, _, _, _, _⟩ :: _) _ _); refine wpList_put (vs := dgC X) rfl rfl rfl rfl q9 (by rw [dgC_size, dgC_size]) (by rw [sizeDg, dgC_size]) (one_dgC _) ?_; intro w9 ht9 b9)
        have hlt := HLT.out
        have h9 := HG9.out
        exact ret_blk rfl rfl rfl b9 aggDg (by rw [sizeDg, dgC_size]) ⟨rfl, hst.other ht9 (by omega) (by omega), hgr.turned ht9 (.inr (by omega))⟩
end Go.Proofs.YtgggpnjnhhkmgaaDoor
namespace Go.Proofs.YtgggpnjnhhkmgaaDoor
set_option linter.unusedSimpArgs false
set_option linter.unusedVariables false
open Go.RowKit Exch Merk
theorem box2 (w : World) (c1 c2 : Array Value) (t1 t2 : TypeId) : ∃ wa : World, wa = (w.alloc (.cells c1 t1)).alloc (.cells c2 t2) ∧ Below w.heap.size w wa ∧ Blk wa w.heap.size t1 c1 ∧ Blk wa (w.heap.size + 1) t2 c2 :=
  ⟨_, rfl, ((Below.refl w.heap.size w).alloc (Nat.le_refl _) _).alloc (by simp) _, (Blk.new _ _ _).alloc _, Blk.new2 _ _ _ _⟩
theorem zeroF48 (W : World) : (zeroValue 84).run Tryd.prog W = .ok .nilFunc W := by kernel_rfl
set_option maxRecDepth 20000 in
set_option maxHeartbeats 4000000 in
theorem checkM_some {nd : Nat → Nat → Nat} {em : Nat} (N : Nds nd em) (n : Nat) (ps : List Nat) (root : Nat) (l lf : List Nat) (A : Option Addr) (m c : Nat) (Af : Option Addr) (nf cf : Nat) (Ap : Option Addr) (np cp : Nat) (w : World) (hroot : root < 2 ^ 128)
    (hm : m ≤ 1000000) (hr : RdD w A m l) (hmc : m ≤ c) (hcm : c ≤ maxLen) (hnf : nf ≤ 1000000) (hrf : RdD w Af nf lf) (hnc : nf ≤ cf) (hcf : cf ≤ maxLen) (hfp : nf = np) (hlt : (climbM nd 0 n ps ⟨l, false⟩ ⟨lf, false⟩).1 < 2 ^ 128)
    (hn1 : 1 ≤ n) (hn : n ≤ 1099511627776) (hpl : PlAt w Ap np cp ps) (hps : ps.Pairwise (· < ·)) (hasc : ascB (ps.map fun (p : Nat) => (p : Int)) n = true) (hg : GCon w) :
    Calls Tryd.prog 23 #[.int .i64 n, .slice Ap np cp, .slice Af nf cf, .slice A m c, dgV root] w (BIs (settled (decide ((climbM nd 0 n ps ⟨l, false⟩ ⟨lf, false⟩).1 = root)) (climbM nd 0 n ps ⟨l, false⟩ ⟨lf, false⟩).2.1) w) := by
  have hmf : ∀ (fn : Fn) (first cap : Array Value) (w : World), (Instr.makeFunc fn first cap).run Tryd.prog w = .ok (.func fn first cap) w := fun _ _ _ _ => rfl
  have d3 : ((n : Int) == 0) = false := by simp; omega
  have HAS := Lib.hid (fun W (hb : Below w.heap.size w W) => asc_any (ps.map fun (p : Nat) => (p : Int)) Ap np cp (n : Int) W (by omega) (by simpa using hpl.len) (hpl.rd.below hb))
  rw [hasc] at HAS
  have d0 : decide ((n : Int) < 0) = false := by simp
  have d1 : decide ((n : Int) > 1099511627776) = false := by simp; omega
  have d2 : ((nf : Int) != (np : Int)) = false := by simp; omega
  have HP : Hid (∀ W gb, Below w.heap.size w W → w.heap.size ≤ gb → Blk W gb 81 #[.slice A m c, .bool false] → PthAt w gb ⟨l, false⟩ W) := Lib.hid (fun W gb h1 h2 h3 => ⟨h1, h2, A, m, c, hr, hm, hmc, hcm, h3⟩)
  have HPQ : Hid (∀ W gb, Below w.heap.size w W → w.heap.size ≤ gb → Blk W gb 81 #[.slice Af nf cf, .bool false] → PthAt w gb ⟨lf, false⟩ W) := Lib.hid (fun W gb h1 h2 h3 => ⟨h1, h2, Af, nf, cf, hrf, hnf, hnc, hcf, h3⟩)
  have HBP := Lib.hid (build_path A m c)
  have HBQ := Lib.hid (build_path Af nf cf)
  have HI := Lib.hid (fun (gv gu gb gq gf : Nat) (hpos : CmPos w gv gu gb gq gf) (W : World) (h : CmS w gv gu gb gq gf (F48 gv gu gf) ⟨l, false⟩ ⟨lf, false⟩ W) => climbM_any N w gv gu gb gq gf hpos hg n 0 n ps Ap np cp ⟨l, false⟩ ⟨lf, false⟩ W (Nat.le_refl _) hn1 (by omega) hpl (by omega) hps h)
  have HQ := Lib.hid (fun W => eql_Dg hlt hroot W)
  unfold CmIs at HI
  unfold BIs
  clear hr hg hlt hcm hrf hcf hpl hps hasc hfp
  generalize (climbM nd 0 n ps ⟨l, false⟩ ⟨lf, false⟩).1 = D at *
  generalize (climbM nd 0 n ps ⟨l, false⟩ ⟨lf, false⟩).2.1 = Q at *
  generalize (climbM nd 0 n ps ⟨l, false⟩ ⟨lf, false⟩).2.2 = Q2 at *
  generalize decide (D = root) = bq at *
  obtain ⟨wa, hwa, hba, qr, qo⟩ := box2 w (dgC root) #[.bool false] 31 4
  have HWA := Lib.hid hwa
  have hsza : wa.heap.size = w.heap.size + 1 + 1 := by rw [hwa]; simp
  obtain ⟨gr, hgr⟩ : ∃ g, g = w.heap.size := ⟨_, rfl⟩
  obtain ⟨go, hgo⟩ : ∃ g, g = w.heap.size + 1 := ⟨_, rfl⟩
  rw [← hgo] at qo
  rw [← hgr] at qr
  obtain ⟨w1, hw1, hb1, qb, qq⟩ : ∃ w1 : World, w1 = (wa.alloc (.cells #[.slice A m c, .bool false] 81)).alloc (.cells #[.slice Af nf cf, .bool false] 81) ∧ Below wa.heap.size wa w1 ∧ Blk w1 wa.heap.size 81 #[.slice A m c, .bool false] ∧ Blk w1 (wa.heap.size + 1) 81 #[.slice Af nf cf, .bool false] :=
    ⟨_, rfl, ((Below.refl _ _).alloc (Nat.le_refl _) _).alloc (by simp) _, (Blk.new _ _ _).alloc _, Blk.new2 _ _ _ _⟩
  have hsz1 : w1.heap.size = wa.heap.size + 1 + 1 := by rw [hw1]; simp
  have HW1 := Lib.hid hw1
  have HG := Lib.hid (And.intro hgr (And.intro hgo (And.intro hsza hsz1)))
  clear hwa hw1 hsza hsz1 hgr hgo
  go_enter_defers Tryd.func23, Tryd.ntmps23
  go_upto_region 1 with (fail)
  change Code.wp _ _ _ _ ((w.alloc (.cells (dgC root) 31)).alloc (.cells #[.bool false] 4))
  rw [← HWA.out, ← HG.out.2.1, ← HG.out.1]
  clear HWA
  go_upto_region 3 with (fail)
  refine (HAS.out wa hba).mono ?_
  rintro e w7 ⟨rfl, rfl⟩
  go_upto_region 3 with (fail)
  go_upto_region 4 with (first
    | ((with_reducible show wpList _ _ _ (⟨some 34, _, _, _, _, _⟩ :: _) _ _); refine wpList_build1 rfl rfl rfl HBP.out ?_)
    | ((with_reducible show wpList _ _ _ (⟨some 37, _, _, _, _, _⟩ :: _) _ _); refine wpList_build1 rfl rfl rfl HBQ.out ?_)
    | ((with_reducible show wpList _ _ _ (⟨some 11, _, _, _, _, _⟩ :: _) _ _); refine wpList_new1 rfl rfl zeroPp rfl ?_; intro w2 gv hgv qv hb2 lt2; rw [← HW1.out] at hgv hb2; have HGV := Lib.hid hgv; clear hgv)
    | ((with_reducible show wpList _ _ _ (⟨some 12, _, _, _, _, _⟩ :: _) _ _); refine wpList_new1 rfl rfl zeroPp rfl ?_; intro w3 gu hgu qu hb3 lt3; have HGU := Lib.hid hgu; clear hgu; replace qv := qv.below hb3)
    | ((with_reducible show wpList _ _ _ (⟨none, _, _, _, _, _⟩ :: _) _ _); refine wpList_set (g := gv) (j := 0) (v := .pointer (some ⟨wa.heap.size, 0, none⟩)) (cs' := #[.pointer (some ⟨wa.heap.size, 0, none⟩)]) rfl rfl (by kernel_rfl) rfl rfl rfl qv (by simp) (by simp) ?_; intro w4 ht4 bv; replace qu := ht4.blk qu (by have := HGU.out; omega))
    | ((with_reducible show wpList _ _ _ (⟨none, _, _, _, _, _⟩ :: _) _ _); refine wpList_set (g := gu) (j := 0) (v := .pointer (some ⟨wa.heap.size + 1, 0, none⟩)) (cs' := #[.pointer (some ⟨wa.heap.size + 1, 0, none⟩)]) rfl rfl (by kernel_rfl) rfl rfl rfl qu (by simp) (by simp) ?_; intro w5 ht5 bu; replace bv := ht5.blk bv (by have := HGU.out; omega)))
  have hgg := HG.out
  have hgv := HGV.out
  have hgu := HGU.out
  have hs2 := hb2.size
  have hs3 := hb3.size
  have hs4 : w4.heap.size = w3.heap.size := ht4.size
  have hs5 : w5.heap.size = w4.heap.size := ht5.size
  have hb15 : Below w1.heap.size w1 w5 := ((hb2.trans (hb3.mono hs2)).trans (ht4.below _ (by omega))).trans (ht5.below _ (by omega))
  have hba5 : Below wa.heap.size wa w5 := bstep hb1 hb15
  have hbw := bstep hba hba5
  replace qb := qb.below hb15
  replace qq := qq.below hb15
  replace qr := qr.below hba5
  replace qo := qo.below hba5
  obtain ⟨gb, hgb⟩ : ∃ g, g = wa.heap.size := ⟨_, rfl⟩
  obtain ⟨gq, hgq⟩ : ∃ g, g = wa.heap.size + 1 := ⟨_, rfl⟩
  rw [← hgb] at bv qb
  rw [← hgq] at bu qq
  have HB := Lib.hid (show (gr = w.heap.size ∧ go = w.heap.size + 1) ∧ gb = w.heap.size + 1 + 1 ∧ gq = w.heap.size + 1 + 1 + 1 ∧ gv = w.heap.size + 1 + 1 + 1 + 1 ∧ gv < gu ∧ gu < w5.heap.size from ⟨⟨by omega, by omega⟩, by omega, by omega, by omega, by omega, by omega⟩)
  clear hgg hgv hgu hs2 hs3 hs4 hs5 hb15 hba5 hb1 hb2 hb3 ht4 ht5 qv qu lt2 lt3 HG HGV HGU HW1 hgb hgq hba
  have cv := bv.cell 0
  simp only [List.getElem?_toArray, List.getElem?_cons_zero] at cv
  go_upto_region 9 with (first
    | ((with_reducible show wpList _ _ _ (⟨some 13, _, _, _, _, _⟩ :: _) _ _); refine wpList_new1 rfl rfl zeroF48 rfl ?_; intro w6 gf hgf qf hb6 lt6; have HGF := Lib.hid hgf; clear hgf)
    | ((with_reducible show wpList _ _ _ (⟨none, _, _, _, _, _⟩ :: _) _ _); refine wpList_set (g := gf) (j := 0) (v := F48 gv gu gf) (cs' := #[F48 gv gu gf]) rfl rfl (by kernel_rfl) rfl rfl rfl qf (by simp) (by simp) ?_; intro w7 ht7 bf))
  have hh := HB.out
  have hgf := HGF.out
  have hpos : CmPos w gv gu gb gq gf := ⟨by omega, by omega, by omega, by omega, by omega⟩
  have hb57 : Below w5.heap.size w5 w7 := hb6.trans (ht7.below _ (by omega))
  have hbw7 := bstep hbw hb57
  have hst0 : CmS w gv gu gb gq gf (F48 gv gu gf) ⟨l, false⟩ ⟨lf, false⟩ w7 := ⟨HP.out _ _ hbw7 (by omega) (qb.below hb57), HPQ.out _ _ hbw7 (by omega) (qq.below hb57), bv.below hb57, bu.below hb57, bf⟩
  have hst := hst0.below (Below.refl w7.heap.size w7).drew
  have qr5 := (qr.below hb57).below (Below.refl w7.heap.size w7).drew
  have qo5 := (qo.below hb57).below (Below.refl w7.heap.size w7).drew
  have hbwd := bstep hbw7 (Below.refl w7.heap.size w7).drew
  have HI2 := Lib.hid (HI.out gv gu gb gq gf hpos)
  have HO := Lib.hid (show (gr ≠ gb ∧ gr ≠ gq) ∧ (go ≠ gb ∧ go ≠ gq) ∧ w.heap.size ≤ go ∧ w.heap.size ≤ gb ∧ w.heap.size ≤ gq from ⟨⟨by omega, by omega⟩, ⟨by omega, by omega⟩, by omega, by omega, by omega⟩)
  clear hh hgf hpos hb57 hbw7 hst0 qr qo qb qq bv bu cv hb6 ht7 qf bf lt6 HGF HB hbw HI HP HPQ HBP HBQ
  have hS : Blk w7.drew gf 84 #[F48 gv gu gf] ∧ Blk w7.drew gr 31 (dgC root) := ⟨hst.fn, qr5⟩
  refine wp_region_TS (S := fun W => Blk W gf 84 #[F48 gv gu gf] ∧ Blk W gr 31 (dgC root)) 6 (by kernel_rfl) ?_
  refine WpT.take (i := 0) rfl (by kernel_rfl) (fun c a w h => panic_put rfl (by decide) h) (yields_load1S rfl rfl rfl (by kernel_rfl) (fun W h => h.1.cell 0)) (hS) ?_
  try simp only [nrm]
  refine WpT.take (i := 1) rfl (by kernel_rfl) (fun c a w h => panic_put rfl (by decide) h) (.inl ⟨by rfl, fun w hSw => by clear hSw; go_simp; (try go_bits); (try rw [if_pos (by omega)]); (try with_reducible rfl)⟩) (hS) ?_
  try simp only [nrm]
  refine WpT.take (i := 2) rfl (by kernel_rfl) (fun c a w h => panic_put rfl (by decide) h) (.inl ⟨by rfl, fun w hSw => by clear hSw; go_simp; (try go_bits); (try rw [if_pos (by omega)]); (try with_reducible rfl)⟩) (hS) ?_
  try simp only [nrm]
  refine WpT.take (i := 4) rfl (by kernel_rfl) (fun c a w h => panic_put rfl (by decide) h) (yields_blkS rfl rfl rfl aggDg (by rw [sizeDg, dgC_size]) (fun W h => h.2)) (hS) ?_
  try simp only [nrm]
  refine WpT.one (i := 3) rfl (by kernel_rfl) (fun K hK => ?_)
  go_simp; refine (HI2.out _ hst).mono ?_; rintro e wC ⟨rfl, hst2, hgC⟩; replace qr5 := hgC.blk qr5 (by have := HO.out; simp; omega); replace qo5 := hgC.blk qo5 (by have := HO.out; simp; omega); replace hst := hst2; clear hst2; replace hS := And.intro hst.fn qr5; replace hbwd := hbwd.trans (hgC.below hbwd.size (by have := HO.out; simp; omega))
  refine hK _ _ (hS) ?_; clear hK K; try simp only [nrm]
  have hq := HQ.out
  refine WpT.take (i := 5) rfl (by kernel_rfl) (fun c a w h => panic_put rfl (by decide) h) (.inl ⟨by rfl, fun w hSw => by clear hSw; go_simp; (try go_bits); (try rw [if_pos (by omega)]); (try with_reducible rfl)⟩) (hS) ?_
  try simp only [nrm]
  refine WpT.tail (i := 6) rfl (by kernel_rfl) (by kernel_rfl) (fun K hK => ?_)
  refine (if_pos (by rfl)).mpr ?_; refine wp_set (j := 0) (v := .bool bq) (cs' := #[.bool bq]) rfl (by kernel_rfl) (by rfl) (by rfl) rfl qo5 (by simp) (by simp) ?_; intro w9 ht9 b9
  refine hK _ _ ?_; clear hK K; try simp only [nrm]
  refine WpT.done (by kernel_rfl) ?_ _
  skip
  have ho := HO.out
  have hp9 : PthAt w gb Q w9 := hst.path.grew ((Grew.refl [go] _).turned ht9 (.inl (by simp))) (by simp; omega) (by simp; omega)
  have hb9 := hbwd.trans (ht9.below _ (by omega))
  have hgo2 : w.heap.size ≤ go := ho.2.2.1
  clear hS qr5 qo5 hst ht9 ho hq hbwd
  go_wp2_with fail
  refine leaves_cons (f := 47) (args := #[.pointer (some ⟨gb, 0, none⟩), .pointer (some ⟨go, 0, none⟩)]) (by simp) (by simp [go_sem]) ?_
  refine (settle_any bq Q w gb go .returning _ hp9 b9).mono ?_
  rintro e u' w'' ⟨rfl, rfl, hbS, hbel, _⟩
  exact ⟨_, results_bool rfl rfl hbS, rfl, hb9.trans (hbel.mono hgo2)⟩
set_option maxRecDepth 20000 in
set_option maxHeartbeats 4000000 in
theorem checkM_zero {nd : Nat → Nat → Nat} {em : Nat} (N : Nds nd em) (root : Nat) (l lf : List Nat) (A : Option Addr) (m c : Nat) (Af : Option Addr) (cf : Nat) (Ap : Option Addr) (cp : Nat) (w : World) (hroot : root < 2 ^ 128)
    (hm : m ≤ 1000000) (hr : RdD w A m l) (hmc : m ≤ c) (hcm : c ≤ maxLen) (hrf : RdD w Af 0 lf) (hcf : cf ≤ maxLen) (hg : GCon w) :
    Calls Tryd.prog 23 #[.int .i64 0, .slice Ap 0 cp, .slice Af 0 cf, .slice A m c, dgV root] w (BIs (settled (decide (root = em)) ⟨l, false⟩) w) := by
  have HAS := Lib.hid (fun W (hb : Below w.heap.size w W) => asc_any [] Ap 0 cp 0 W (by omega) rfl (by exact ⟨rfl, fun k u hk => by simp [iv] at hk⟩))
  rw [show ascB [] 0 = true from rfl] at HAS
  have d0 : decide ((0 : Int) < 0) = false := by simp
  have d1 : decide ((0 : Int) > 1099511627776) = false := by simp
  have HP : Hid (∀ W gb, Below w.heap.size w W → w.heap.size ≤ gb → Blk W gb 81 #[.slice A m c, .bool false] → PthAt w gb ⟨l, false⟩ W) := Lib.hid (fun W gb h1 h2 h3 => ⟨h1, h2, A, m, c, hr, hm, hmc, hcm, h3⟩)
  have HPQ : Hid (∀ W gb, Below w.heap.size w W → w.heap.size ≤ gb → Blk W gb 81 #[.slice Af 0 cf, .bool false] → PthAt w gb ⟨lf, false⟩ W) := Lib.hid (fun W gb h1 h2 h3 => ⟨h1, h2, Af, 0, cf, hrf, by omega, Nat.zero_le _, hcf, h3⟩)
  have HBP := Lib.hid (build_path A m c)
  have HBQ := Lib.hid (build_path Af 0 cf)
  have HE := Lib.hid (fun (W : World) (hb : Below w.heap.size w W) => N.empty W (hg.below hb))
  have HQ := Lib.hid (fun W => eql_Dg hroot N.lt0 W)
  unfold BIs
  clear hr hg hcm hrf hcf
  generalize decide (root = em) = bq at *
  obtain ⟨wa, hwa, hba, qr, qo⟩ := box2 w (dgC root) #[.bool false] 31 4
  have HWA := Lib.hid hwa
  have hsza : wa.heap.size = w.heap.size + 1 + 1 := by rw [hwa]; simp
  obtain ⟨gr, hgr⟩ : ∃ g, g = w.heap.size := ⟨_, rfl⟩
  obtain ⟨go, hgo⟩ : ∃ g, g = w.heap.size + 1 := ⟨_, rfl⟩
  rw [← hgo] at qo
  rw [← hgr] at qr
  obtain ⟨w1, hw1, hb1, qb, qq⟩ : ∃ w1 : World, w1 = (wa.alloc (.cells #[.slice A m c, .bool false] 81)).alloc (.cells #[.slice Af 0 cf, .bool false] 81) ∧ Below wa.heap.size wa w1 ∧ Blk w1 wa.heap.size 81 #[.slice A m c, .bool false] ∧ Blk w1 (wa.heap.size + 1) 81 #[.slice Af 0 cf, .bool false] :=
    ⟨_, rfl, ((Below.refl _ _).alloc (Nat.le_refl _) _).alloc (by simp) _, (Blk.new _ _ _).alloc _, Blk.new2 _ _ _ _⟩
  have hsz1 : w1.heap.size = wa.heap.size + 1 + 1 := by rw [hw1]; simp
  have HW1 := Lib.hid hw1
  have HG := Lib.hid (And.intro hgr (And.intro hgo (And.intro hsza hsz1)))
  clear hwa hw1 hsza hsz1 hgr hgo
  go_enter_defers Tryd.func23, Tryd.ntmps23
  go_upto_region 1 with (fail)
  change Code.wp _ _ _ _ ((w.alloc (.cells (dgC root) 31)).alloc (.cells #[.bool false] 4))
  rw [← HWA.out, ← HG.out.2.1, ← HG.out.1]
  clear HWA
  go_upto_region 3 with (fail)
  refine (HAS.out wa hba).mono ?_
  rintro e w7 ⟨rfl, rfl⟩
  go_upto_region 3 with (fail)
  go_upto_region 4 with (first
    | ((with_reducible show wpList _ _ _ (⟨some 34, _, _, _, _, _⟩ :: _) _ _); refine wpList_build1 rfl rfl rfl HBP.out ?_)
    | ((with_reducible show wpList _ _ _ (⟨some 37, _, _, _, _, _⟩ :: _) _ _); refine wpList_build1 rfl rfl rfl HBQ.out ?_)
    | ((with_reducible show wpList _ _ _ (⟨some 11, _, _, _, _, _⟩ :: _) _ _); refine wpList_new1 rfl rfl zeroPp rfl ?_; intro w2 gv hgv qv hb2 lt2; rw [← HW1.out] at hgv hb2; have HGV := Lib.hid hgv; clear hgv)
    | ((with_reducible show wpList _ _ _ (⟨some 12, _, _, _, _, _⟩ :: _) _ _); refine wpList_new1 rfl rfl zeroPp rfl ?_; intro w3 gu hgu qu hb3 lt3; have HGU := Lib.hid hgu; clear hgu; replace qv := qv.below hb3)
    | ((with_reducible show wpList _ _ _ (⟨none, _, _, _, _, _⟩ :: _) _ _); refine wpList_set (g := gv) (j := 0) (v := .pointer (some ⟨wa.heap.size, 0, none⟩)) (cs' := #[.pointer (some ⟨wa.heap.size, 0, none⟩)]) rfl rfl (by kernel_rfl) rfl rfl rfl qv (by simp) (by simp) ?_; intro w4 ht4 bv; replace qu := ht4.blk qu (by have := HGU.out; omega))
    | ((with_reducible show wpList _ _ _ (⟨none, _, _, _, _, _⟩ :: _) _ _); refine wpList_set (g := gu) (j := 0) (v := .pointer (some ⟨wa.heap.size + 1, 0, none⟩)) (cs' := #[.pointer (some ⟨wa.heap.size + 1, 0, none⟩)]) rfl rfl (by kernel_rfl) rfl rfl rfl qu (by simp) (by simp) ?_; intro w5 ht5 bu; replace bv := ht5.blk bv (by have := HGU.out; omega)))
  have hgg := HG.out
  have hgv := HGV.out
  have hgu := HGU.out
  have hs2 := hb2.size
  have hs3 := hb3.size
  have hs4 : w4.heap.size = w3.heap.size := ht4.size
  have hs5 : w5.heap.size = w4.heap.size := ht5.size
  have hb15 : Below w1.heap.size w1 w5 := ((hb2.trans (hb3.mono hs2)).trans (ht4.below _ (by omega))).trans (ht5.below _ (by omega))
  have hba5 : Below wa.heap.size wa w5 := bstep hb1 hb15
  have hbw := bstep hba hba5
  replace qb := qb.below hb15
  replace qq := qq.below hb15
  replace qr := qr.below hba5
  replace qo := qo.below hba5
  obtain ⟨gb, hgb⟩ : ∃ g, g = wa.heap.size := ⟨_, rfl⟩
  obtain ⟨gq, hgq⟩ : ∃ g, g = wa.heap.size + 1 := ⟨_, rfl⟩
  rw [← hgb] at bv qb
  rw [← hgq] at bu qq
  have HB := Lib.hid (show (gr = w.heap.size ∧ go = w.heap.size + 1) ∧ gb = w.heap.size + 1 + 1 ∧ gq = w.heap.size + 1 + 1 + 1 ∧ gv = w.heap.size + 1 + 1 + 1 + 1 ∧ gv < gu ∧ gu < w5.heap.size from ⟨⟨by omega, by omega⟩, by omega, by omega, by omega, by omega, by omega⟩)
  clear hgg hgv hgu hs2 hs3 hs4 hs5 hb15 hba5 hb1 hb2 hb3 ht4 ht5 qv qu lt2 lt3 HG HGV HGU HW1 hgb hgq hba
  have cv := bv.cell 0
  simp only [List.getElem?_toArray, List.getElem?_cons_zero] at cv
  have hh := HB.out
  have hp3 := HP.out w5 gb hbw (by omega) qb
  have HO := Lib.hid (show go ≠ gb ∧ go ≠ gr ∧ w.heap.size ≤ go ∧ w.heap.size ≤ gb from ⟨by omega, by omega, by omega, by omega⟩)
  have hbwd := bstep hbw (Below.refl w5.heap.size w5).drew
  replace qr := qr.below (Below.refl w5.heap.size w5).drew
  replace qo := qo.below (Below.refl w5.heap.size w5).drew
  replace hp3 := hp3.below (Below.refl w5.heap.size w5).drew
  have hS := qr
  clear hh qb qq bv bu HB hbw HP HPQ HBP HBQ
  go_upto_region 6 with (fail)
  refine wp_region_TS (S := fun W => Blk W gr 31 (dgC root)) 3 (by kernel_rfl) ?_
  refine WpT.take (i := 0) rfl (by kernel_rfl) (fun c a w h => panic_put rfl (by decide) h) (yields_blkS rfl rfl rfl aggDg (by rw [sizeDg, dgC_size]) (fun W h => h)) (hS) ?_
  try simp only [nrm]
  refine WpT.one (i := 1) rfl (by kernel_rfl) (fun K hK => ?_)
  go_simp; refine (HE.out _ hbwd).mono ?_; rintro e wE ⟨rfl, hbE⟩; replace hS := hS.below hbE; replace qo := qo.below hbE; replace hp3 := hp3.below hbE; replace hbwd := bstep hbwd hbE
  refine hK _ _ (hS) ?_; clear hK K; try simp only [nrm]
  have hq := HQ.out
  refine WpT.take (i := 2) rfl (by kernel_rfl) (fun c a w h => panic_put rfl (by decide) h) (.inl ⟨by rfl, fun w hSw => by clear hSw; go_simp; (try go_bits); (try rw [if_pos (by omega)]); (try with_reducible rfl)⟩) (hS) ?_
  try simp only [nrm]
  refine WpT.tail (i := 3) rfl (by kernel_rfl) (by kernel_rfl) (fun K hK => ?_)
  refine (if_pos (by rfl)).mpr ?_; refine wp_set (j := 0) (v := .bool bq) (cs' := #[.bool bq]) rfl (by kernel_rfl) (by rfl) (by rfl) rfl qo (by simp) (by simp) ?_; intro w9 ht9 b9
  refine hK _ _ ?_; clear hK K; try simp only [nrm]
  refine WpT.done (by kernel_rfl) ?_ _
  skip
  have ho := HO.out
  have hp9 : PthAt w gb ⟨l, false⟩ w9 := hp3.grew ((Grew.refl [go] _).turned ht9 (.inl (by simp))) (by simp; omega) (by simp; omega)
  have hb9 := hbwd.trans (ht9.below _ (by omega))
  have hgo2 : w.heap.size ≤ go := ho.2.2.1
  clear hS qr qo hp3 ht9 ho hq hbwd
  go_wp2_with fail
  refine leaves_cons (f := 47) (args := #[.pointer (some ⟨gb, 0, none⟩), .pointer (some ⟨go, 0, none⟩)]) (by simp) (by simp [go_sem]) ?_
  refine (settle_any bq ⟨l, false⟩ w gb go .returning _ hp9 b9).mono ?_
  rintro e u' w'' ⟨rfl, rfl, hbS, hbel, _⟩
  exact ⟨_, results_bool rfl rfl hbS, rfl, hb9.trans (hbel.mono hgo2)⟩
set_option maxRecDepth 20000 in
set_option maxHeartbeats 1000000 in
theorem checkM_bad (root : Nat) (ps : List Int) (A : Option Addr) (m c : Nat) (Af : Option Addr) (nf cf : Nat) (Ap : Option Addr) (np cp : Nat) (n : Int) (w : World) (hnp : np ≤ 1000000) (hpl : ps.length = np) (hrp : Rd w Ap np (iv ps))
    (h : ¬ (0 ≤ n ∧ n ≤ 1099511627776 ∧ ascB ps n = true ∧ nf = np)) :
    Calls Tryd.prog 23 #[.int .i64 n, .slice Ap np cp, .slice Af nf cf, .slice A m c, dgV root] w (BIs false w) := by
  obtain ⟨wa, hwa, hba, qr, qo⟩ := box2 w (dgC root) #[.bool false] 31 4
  have HWA := Lib.hid hwa
  obtain ⟨go, hgo⟩ : ∃ g, g = w.heap.size + 1 := ⟨_, rfl⟩
  rw [← hgo] at qo
  have HGO := Lib.hid hgo
  have HAS := Lib.hid (asc_any ps Ap np cp n wa hnp hpl (hrp.below hba))
  clear hwa hgo qr hrp hpl
  unfold BIs
  by_cases h0 : n < 0
  · have d0 : decide (n < 0) = true := by simpa using h0
    go_enter Tryd.func23, Tryd.ntmps23
    go_upto_region 1 with (fail)
    change Code.wp _ _ _ _ ((w.alloc (.cells (dgC root) 31)).alloc (.cells #[.bool false] 4))
    rw [← HWA.out, ← HGO.out]
    go_upto_region 2 with (fail)
    go_wp2_with ((with_reducible show wpList _ _ _ (⟨none, _, _, _, _, _⟩ :: _) _ _); refine wpList_set (g := go) (j := 0) (v := .bool false) (cs' := #[.bool false]) rfl rfl (by kernel_rfl) rfl rfl rfl qo (by simp) (by simp) ?_; intro w9 ht9 b9)
    exact bodyPost_ret (results_bool rfl rfl b9) rfl ⟨rfl, hba.trans (ht9.below _ (by have := HGO.out; omega))⟩
  · have d0 : decide (n < 0) = false := by simpa using h0
    by_cases h1 : n > 1099511627776
    · have d1 : decide (n > 1099511627776) = true := by simpa using h1
      go_enter Tryd.func23, Tryd.ntmps23
      go_upto_region 1 with (fail)
      change Code.wp _ _ _ _ ((w.alloc (.cells (dgC root) 31)).alloc (.cells #[.bool false] 4))
      rw [← HWA.out, ← HGO.out]
      go_upto_region 2 with (fail)
      go_wp2_with ((with_reducible show wpList _ _ _ (⟨none, _, _, _, _, _⟩ :: _) _ _); refine wpList_set (g := go) (j := 0) (v := .bool false) (cs' := #[.bool false]) rfl rfl (by kernel_rfl) rfl rfl rfl qo (by simp) (by simp) ?_; intro w9 ht9 b9)
      exact bodyPost_ret (results_bool rfl rfl b9) rfl ⟨rfl, hba.trans (ht9.below _ (by have := HGO.out; omega))⟩
    · have d1 : decide (n > 1099511627776) = false := by simpa using h1
      cases hasc : ascB ps n with
      | false =>
        rw [hasc] at HAS
        clear h hasc
        go_enter Tryd.func23, Tryd.ntmps23
        go_upto_region 1 with (fail)
        change Code.wp _ _ _ _ ((w.alloc (.cells (dgC root) 31)).alloc (.cells #[.bool false] 4))
        rw [← HWA.out, ← HGO.out]
        go_upto_region 2 with (fail)
        refine HAS.out.mono ?_
        rintro e w7 ⟨rfl, rfl⟩
        go_upto_region 2 with (fail)
        go_wp2_with ((with_reducible show wpList _ _ _ (⟨none, _, _, _, _, _⟩ :: _) _ _); refine wpList_set (g := go) (j := 0) (v := .bool false) (cs' := #[.bool false]) rfl rfl (by kernel_rfl) rfl rfl rfl qo (by simp) (by simp) ?_; intro w9 ht9 b9)
        exact bodyPost_ret (results_bool rfl rfl b9) rfl ⟨rfl, hba.trans (ht9.below _ (by have := HGO.out; omega))⟩
      | true =>
        rw [hasc] at HAS
        have d2 : ((nf : Int) != (np : Int)) = true := by
          have : nf ≠ np := fun e => h ⟨by omega, by omega, hasc, e⟩
          simp; omega
        clear h hasc
        go_enter Tryd.func23, Tryd.ntmps23
        go_upto_region 1 with (fail)
        change Code.wp _ _ _ _ ((w.alloc (.cells (dgC root) 31)).alloc (.cells #[.bool false] 4))
        rw [← HWA.out, ← HGO.out]
        go_upto_region 2 with (fail)
        refine HAS.out.mono ?_
        rintro e w7 ⟨rfl, rfl⟩
        go_upto_region 2 with (fail)
        go_wp2_with ((with_reducible show wpList _ _ _ (⟨none, _, _, _, _, _⟩ :: _) _ _); refine wpList_set (g := go) (j := 0) (v := .bool false) (cs' := #[.bool false]) rfl rfl (by kernel_rfl) rfl rfl rfl qo (by simp) (by simp) ?_; intro w9 ht9 b9)
        exact bodyPost_ret (results_bool rfl rfl b9) rfl ⟨rfl, hba.trans (ht9.below _ (by have := HGO.out; omega))⟩
theorem LtP.first {p : Pth} (h : LtP p) : LtP p.first.2 ∧ p.first.1 < 2 ^ 128 := by
  obtain ⟨l, s⟩ := p
  cases l with
  | nil =>
    have e : Pth.first ⟨[], s⟩ = (0, ⟨[], true⟩) := rfl
    rw [e]
    exact ⟨fun x (hx : x ∈ []) => (by cases hx), Nat.pow_pos (show 0 < 2 by omega)⟩
  | cons x l => exact ⟨fun y hy => h y (by simp; exact .inr hy), h x (by simp)⟩
theorem climbM_lt {nd : Nat → Nat → Nat} (h : ∀ a b, nd a b < 2 ^ 128) (fr n : Nat) (ps : List Nat) (p q : Pth) (hp : LtP p) (hq : LtP q) : (climbM nd fr n ps p q).1 < 2 ^ 128 := by
  rw [climbM]
  split
  · exact hp.first.2
  · split
    · exact h _ _
    · exact hq.first.2
def checkM (nd : Nat → Nat → Nat) (em : Nat) (n : Int) (ps : List Int) (lf l : List Nat) (root : Nat) : Bool :=
  if 0 ≤ n ∧ n ≤ 1099511627776 ∧ ascB ps n = true ∧ lf.length = ps.length then
    (if n = 0 then settled (decide (root = em)) ⟨l, false⟩
     else settled (decide ((climbM nd 0 n.toNat (ps.map Int.toNat) ⟨l, false⟩ ⟨lf, false⟩).1 = root)) (climbM nd 0 n.toNat (ps.map Int.toNat) ⟨l, false⟩ ⟨lf, false⟩).2.1)
  else false
theorem checkM_any {nd : Nat → Nat → Nat} {em : Nat} (N : Nds nd em) (n : Int) (ps : List Int) (root : Nat) (l lf : List Nat) (A : Option Addr) (m c : Nat) (Af : Option Addr) (nf cf : Nat) (Ap : Option Addr) (np cp : Nat) (w : World) (hroot : root < 2 ^ 128)
    (hm : m ≤ 1000000) (hr : RdD w A m l) (hll : ∀ x ∈ l, x < 2 ^ 128) (hmc : m ≤ c) (hcm : c ≤ maxLen) (hnf : nf ≤ 1000000) (hrf : RdD w Af nf lf) (hlf : ∀ x ∈ lf, x < 2 ^ 128) (hnc : nf ≤ cf) (hcf : cf ≤ maxLen)
    (hnp : np ≤ 1000000) (hpl : ps.length = np) (hrp : Rd w Ap np (iv ps)) (hpc : np ≤ cp) (hpm : cp ≤ maxLen) (hg : GCon w) :
    Calls Tryd.prog 23 #[.int .i64 n, .slice Ap np cp, .slice Af nf cf, .slice A m c, dgV root] w (BIs (checkM nd em n ps lf l root) w) := by
  have hlfl := hrf.len
  unfold checkM
  by_cases h : 0 ≤ n ∧ n ≤ 1099511627776 ∧ ascB ps n = true ∧ lf.length = ps.length
  · rw [if_pos h]
    obtain ⟨h1, h2, h3, h4⟩ := h
    obtain ⟨k, rfl⟩ : ∃ k : Nat, n = k := ⟨n.toNat, by omega⟩
    have h5 := h3
    obtain ⟨qs, rfl, hq1, hq2⟩ := asc_nat h3
    by_cases h0 : k = 0
    · subst h0
      obtain rfl : qs = [] := by
        cases qs with
        | nil => rfl
        | cons x qs => have := hq2 x (by simp); simp at this; omega
      obtain rfl : np = 0 := by simpa using hpl.symm
      obtain rfl : nf = 0 := by simp at h4; rw [h4] at hlfl; simpa using hlfl.symm
      rw [if_pos (by simp)]
      exact checkM_zero N root l lf A m c Af cf Ap cp w hroot hm hr hmc hcm hrf hcf hg
    · rw [if_neg (by omega), toNat_cast, Int.toNat_natCast]
      exact checkM_some N k qs root l lf A m c Af nf cf Ap np cp w hroot hm hr hmc hcm hnf hrf hnc hcf (by omega) (climbM_lt N.lt _ _ _ _ _ hll hlf) (by omega) (by omega) ⟨by simpa using hpl, hrp, hpc, hpm⟩ hq1 h5 hg
  · rw [if_neg h]
    exact checkM_bad root ps A m c Af nf cf Ap np cp n w hnp hpl hrp (fun ⟨a, b, d, e⟩ => h ⟨a, b, d, by omega⟩)
end Go.Proofs.YtgggpnjnhhkmgaaDoor
namespace Go.Proofs.YtgggpnjnhhkmgaaDoor
set_option linter.unusedSimpArgs false
set_option linter.unusedVariables false
open Go.RowKit Exch Merk Go.Shelf
attribute [local go_sem] Oper.semAt_some
section
variable {F : Fence} {n : Nat} {P : Program} {w : World} {ops : Array Oper} {rest : List Oper} {o : Oper} {a : Act} {Q : Exit → Act → World → Prop}
theorem wpListIn_loadC (hgd : o.guard = none) {t : TypeId} {x : Operand} (ho : o.op = .load t x) {p : Addr} (ha : a.eval x = .pointer (some p)) {us : List Value}
    (hu : (P.underlying t).map isAggDesc = some true) (hi : (P.info? t).map (·.size) = some us.length) (hc : ∀ j u, us[j]? = some u → w.cell? (p.add j) = some u) (h : wpListIn F n P ops Q rest (a.put o.dst (.agg us.toArray)) w) : wpListIn F n P ops Q (o :: rest) a w := by
  refine wpListIn_plain hgd fun K hK => ?_
  unfold Oper.wpIn
  refine ⟨by simp [Oper.about, ho], ?_⟩
  rw [Oper.semAt_plain F _ _ (by rw [ho]; intro c hc'; cases hc')]
  unfold execOp
  simp only [ho, ha, Instr.loadAt, Instr.sureAddr, Sem.run_bind, Sem.run_pure, Result.andThen_ok, run_loadK (w := w) hu hi hc]
  exact hK _ _ h
theorem wpListIn_loadB (hgd : o.guard = none) {ty : TypeId} {x : Operand} (ho : o.op = .load ty x) {g : Nat} (hx : a.eval x = .pointer (some ⟨g, 0, none⟩)) {T : TypeId} {cs : Array Value} (hb : Blk w g T cs)
    (hu : (P.underlying ty).map isAggDesc = some true) (hi : (P.info? ty).map (·.size) = some cs.size) (h : wpListIn F n P ops Q rest (a.put o.dst (.agg cs)) w) : wpListIn F n P ops Q (o :: rest) a w := by
  refine wpListIn_plain hgd fun K hK => ?_
  unfold Oper.wpIn
  refine ⟨by simp [Oper.about, ho], ?_⟩
  rw [Oper.semAt_plain F _ _ (by rw [ho]; intro c hc'; cases hc')]
  unfold execOp
  simp only [ho, hx, Instr.loadAt, Instr.sureAddr, Sem.run_bind, Sem.run_pure, Result.andThen_ok, run_loadVar_blk w g T ty cs hb hu hi]
  exact hK _ _ h
theorem wpListIn_storeB (hgd : o.guard = none) {ty : TypeId} {x y : Operand} (ho : o.op = .store ty x y) {g : Nat} (hx : a.eval x = .pointer (some ⟨g, 0, none⟩)) {T : TypeId} {cs vs : Array Value} (hy : a.eval y = .agg vs) (hb : Blk w g T cs) (hs : vs.size = cs.size)
    (hi : (P.info? ty).map (·.size) = some vs.size) (h1 : vs.all (·.oneCell') = true)
    (h : ∀ w', w' = w.setCells g 0 vs.toList → Blk w' g T vs → Below g w w' → wpListIn F n P ops Q rest (a.put o.dst undef) w') : wpListIn F n P ops Q (o :: rest) a w := by
  refine wpListIn_plain hgd fun K hK => ?_
  unfold Oper.wpIn
  refine ⟨by simp [Oper.about, ho], ?_⟩
  rw [Oper.semAt_plain F _ _ (by rw [ho]; intro c hc'; cases hc')]
  unfold execOp
  simp only [ho, hx, hy, Instr.storeAt, Instr.sureAddr, Sem.run_bind, Sem.run_pure, Result.andThen_ok, run_storeVar_mid w g 0 ty vs (hb.there (by omega)) hi h1]
  exact hK _ _ (h _ rfl (hb.all vs hs) (below_setCells (Below.refl _ _) (Nat.le_refl _) 0 _))
theorem wpListIn_loadDg {o : Oper} {rest : List Oper} (hgd : o.guard = none) {x : Operand} (ho : o.op = .load 31 x) {p : Addr} (ha : a.eval x = .pointer (some p)) {k : Nat}
    (hc : ∀ j u, (bv (dg k))[j]? = some u → w.cell? (p.add j) = some u) (h : wpListIn F n Tryd.prog ops Q rest (a.put o.dst (dgV k)) w) : wpListIn F n Tryd.prog ops Q (o :: rest) a w :=
  wpListIn_loadC (us := bv (dg k)) hgd ho ha aggDg (by rw [sizeDg, bv_dg_len]) hc h
end
/-- Below a number nothing has changed, but for one block. -/
structure BelX (g B : Nat) (w w' : World) : Prop where
  os : w'.os = w.os
  tape : w'.tape = w.tape
  output : w'.output = w.output
  size : w.heap.size ≤ w'.heap.size
  block : ∀ k, k < B → k ≠ g → w'.heap[k]? = w.heap[k]?
section
variable {g B : Nat} {w w1 w2 : World}
theorem BelX.refl (g B : Nat) (w : World) : BelX g B w w := ⟨rfl, rfl, rfl, Nat.le_refl _, fun _ _ _ => rfl⟩
theorem BelX.trans (h : BelX g B w w1) (k : BelX g B w1 w2) : BelX g B w w2 :=
  ⟨k.os.trans h.os, k.tape.trans h.tape, k.output.trans h.output, Nat.le_trans h.size k.size, fun i hi hg => (k.block i hi hg).trans (h.block i hi hg)⟩
theorem BelX.of_below (h : Below B w w1) : BelX g B w w1 := ⟨h.os, h.tape, h.output, h.size, fun k hk _ => h.block k hk⟩
theorem BelX.cell (h : BelX g B w w1) {p : Addr} (hp : p.block < B) (hg : p.block ≠ g) : w1.cell? p = w.cell? p := World.cell?_of_block (h.block _ hp hg)
theorem BelX.setCells (w : World) (g B o : Nat) (vs : List Value) : BelX g B w (w.setCells g o vs) := by
  have h := os_setCells g vs o w
  exact ⟨h.1, h.2.1, h.2.2, by rw [size_setCells]; exact Nat.le_refl _, fun k _ hk => heap_setCells_other g vs o w k hk⟩
theorem BelX.grown (h : BelX g B w w1) {row : Option Nat} (hg : w1.grownBy w2 row) (hn : B ≤ w1.heap.size) (hr : ∀ r, row = some r → B ≤ r) : BelX g B w w2 :=
  ⟨hg.os.trans h.os, hg.tape.trans h.tape, hg.output.trans h.output, Nat.le_trans h.size hg.size, fun k hk hne => (hg.block k (by omega) (fun e => by have := hr k e.symm; omega)).trans (h.block k hk hne)⟩
theorem belX_b {w : World} (hn : B ≤ w.heap.size) (W : World) (l : Nat) (o o' : Obj) (hl : w.heap.size ≤ l) (h : W.heap[l]? = some o) (_ : o.isCells = false) (_ : o.isWalk = false) : BelX g B W (W.putObj l o') :=
  (BelX.refl g B W).grown (grownBy_putObj' W l o') (by have := (Array.getElem?_eq_some_iff.1 h).1; omega) (fun k e => by cases e; omega)
theorem ownFrom_belX {β : Type} {n₀ : Nat} {w₀ : World} (hn : n₀ ≤ w₀.heap.size) (hB : n₀ ≤ B) : OwnFrom B (fun (_ : β) W => BelX g n₀ w₀ W) :=
  fun _ _ _ _ hs hg hr => hs.grown hg (Nat.le_trans hn hs.size) (fun k e => Nat.le_trans hB (hr k e).1)
theorem BelX.blk (h : BelX g B w w1) {k : Nat} {T : TypeId} {cs : Array Value} (hb : Blk w k T cs) (hk : k < B) (hg : k ≠ g) : Blk w1 k T cs := (h.block k hk hg).trans hb
theorem BelX.below {C : Nat} (h : BelX g B w w1) (hC : C ≤ B) (hg : C ≤ g) : Below C w w1 := ⟨h.os, h.tape, h.output, h.size, fun k hk => h.block k (by omega) (by omega)⟩
end
/-- What has come when k rounds are over. -/
def upto {α : Type} (f : Nat → α) (k : Nat) : List α := (List.range k).map f
theorem upto_succ {α : Type} (f : Nat → α) (k : Nat) : upto f (k + 1) = upto f k ++ [f k] := by simp [upto, List.range_succ]
theorem upto_length {α : Type} (f : Nat → α) (k : Nat) : (upto f k).length = k := by simp [upto]
/-- What Backward hands on: the place, the digest. -/
def bwAt (m : Nat) (L : Nat → Nat) (j : Nat) : Nat × Nat := (m - 1 - j, L (m - 1 - j))
set_option maxRecDepth 100000 in
set_option maxHeartbeats 2000000 in
theorem backward1_in (F : Fence) (n : Nat) (h7 : F.fn 72) (hro : F.round = none) (hn : 1 ≤ n) (l Bs gx n₀ : Nat) (A : Option Addr) (m cap : Nat) (hm : m ≤ 1000) (hmc : m ≤ cap) (hcap : cap ≤ 9223372036854775807) (L : Nat → Nat)
    (J Jx : List (Nat × Nat) → World → Prop)
    (hY : ∀ pre x W, J pre W → pre.length < m → YieldAt F (n - 1) Tryd.prog l #[.int .i64 (x.1 : Int), dgV x.2] W fun e W' =>
      (e = .returned (.bool true) ∧ J (pre ++ [x]) W' ∧ BelX gx n₀ W W') ∨ (e = .returned (.bool false) ∧ Jx (pre ++ [x]) W'))
    (W : World) (hBn : Bs < n₀) (hBx : Bs ≠ gx) (hBs : W.cell? ⟨Bs, 0, none⟩ = some (.slice A m cap)) (hc : ∀ W', BelX gx n₀ W W' → ∀ i, i < m → ∃ ad, A = some ad ∧ ∀ j u, (bv (dg (L i)))[j]? = some u → W'.cell? ((ad.add (i * 16)).add j) = some u) (h0 : J [] W) :
    CallsIn F n Tryd.prog 72 #[.func (.yield l) #[] #[], .pointer (some ⟨Bs, 0, none⟩)] W fun e W' => (∃ v, e = .returned v) ∧
      ((∃ ys, ys = upto (bwAt m L) m ∧ J ys W') ∨ (∃ pre, (∃ k, k ≤ m ∧ pre = upto (bwAt m L) k) ∧ Jx pre W')) := by
  refine callsIn_of_wp Tryd.func72 rfl h7 ?_ hro
  simp only [Tryd.ntmps72, List.size_toArray, List.length_cons, List.length_nil, Nat.reduceAdd, Nat.reduceSub, Array.replicate_succ, Array.replicate_zero, List.push_toArray, List.append_toArray, List.nil_append, List.cons_append]
  gi_wp2
  gi_loopw [3] (fun i wr => ∃ q : Nat, q ≤ m ∧ i = .int .i64 ((q : Int) - 1) ∧ J (upto (bwAt m L) (m - q)) wr ∧ BelX gx n₀ W wr)
    (fun i _ => (intOf i + 1).toNat)
  case atStart => exact ⟨m, Nat.le_refl _, rfl, by rw [Nat.sub_self]; exact h0, BelX.refl _ _ _⟩
  case round =>
    obtain ⟨q, hq, rfl, hJs, hnx⟩ := hrel
    rcases q with _ | q
    · gi_wp2
      go_end0
      exact ⟨⟨_, rfl⟩, .inl ⟨_, rfl, by simpa using hJs⟩⟩
    · obtain ⟨ad, rfl, hcc⟩ := hc wr hnx q (by omega)
      have hBs' : wr.cell? ⟨Bs, 0, none⟩ = some (.slice (some ad) m cap) := (hnx.cell (p := ⟨Bs, 0, none⟩) hBn hBx).trans hBs
      obtain ⟨fn, tmps, assign, body, hy, hR⟩ := hY _ (q, L q) wr hJs (by rw [upto_length]; omega)
      have hup : upto (bwAt m L) (m - (q + 1)) ++ [(q, L q)] = upto (bwAt m L) (m - q) := by
        rw [show m - q = m - (q + 1) + 1 by omega, upto_succ]
        have e : bwAt m L (m - (q + 1)) = (q, L q) := by unfold bwAt; rw [show m - 1 - (m - (q + 1)) = q by omega]
        rw [e]
      rw [hup] at hR
      dsimp only at hy
      generalize L q = x at *
      have e1 : (((q + 1 : Nat) : Int) - 1) = q := by omega
      rw [e1]
      clear e1 hup hY hc
      have hqm : q < m := by omega
      gi_wp2_with (refine wpListIn_loadDg (k := x) rfl rfl rfl hcc ?_)
      refine hR.mono ?_
      rintro e W3 (⟨rfl, hJ3, hk3⟩ | ⟨rfl, hJx3⟩)
      · gi_wp2
        go_roundw
        case rel => exact ⟨q, by omega, rfl, hJ3, hnx.trans hk3⟩
        case measure => simp [intOf]
      · gi_wp2
        refine bodyPost_ret (results_none rfl _ _ _) rfl ?_
        exact ⟨⟨_, rfl⟩, .inr ⟨_, ⟨m - q, by omega, rfl⟩, hJx3⟩⟩
set_option maxHeartbeats 1000000 in
theorem backward_any (A : Option Addr) (m c : Nat) (w : World) :
    Calls Tryd.prog 56 #[.slice A m c] w fun e w' => e = .returned (.func (.func 72) #[] #[.pointer (some ⟨w.heap.size, 0, none⟩)]) ∧ w' = w.alloc (.cells #[.slice A m c] 22) := by
  go_enter Tryd.func56, Tryd.ntmps56
  go_wp2
  go_ret
  exact ⟨rfl, rfl⟩
theorem backward_stops (n : Nat) (hn : 1 ≤ n) (Bs gx n₀ : Nat) (A : Option Addr) (m cap : Nat) (hm : m ≤ 1000) (hmc : m ≤ cap) (hcap : cap ≤ 9223372036854775807) (L : Nat → Nat) (w : World) (hBs : Bs < n₀) (hBx : Bs ≠ gx) (hn₀ : n₀ ≤ w.heap.size)
    (hs : w.cell? ⟨Bs, 0, none⟩ = some (.slice A m cap)) (hc : ∀ W', BelX gx n₀ w W' → ∀ i, i < m → ∃ ad, A = some ad ∧ ∀ j u, (bv (dg (L i)))[j]? = some u → W'.cell? ((ad.add (i * 16)).add j) = some u) :
    SeqStopsK Fence.wide n Tryd.prog 72 #[.pointer (some ⟨Bs, 0, none⟩)] (fun x : Nat × Nat => #[Value.int .i64 (x.1 : Int), dgV x.2]) (BelX gx n₀) (fun ys => ys = upto (bwAt m L) m) (fun pre => ∃ k, k ≤ m ∧ pre = upto (bwAt m L) k) m w := fun l J Jx W hW _ _ hY h0 =>
  backward1_in Fence.wide n trivial rfl hn l Bs gx n₀ A m cap hm hmc hcap L J Jx hY W hBs hBx ((hW.cell (p := ⟨Bs, 0, none⟩) (by show Bs < _; omega)).trans hs) (fun W' hb => hc W' ((BelX.of_below (hW.mono hn₀)).trans hb)) h0
theorem blk_own {β : Type} (B : Nat) (t : TypeId) (f : β → Array Value) : Go.Own (fun s W => Blk W B t (f s)) := fun s X Y row hs hg hrow =>
  (hg.block B hs.lt (fun e' => by
    obtain ⟨o, ho, hc⟩ := hrow B e'.symm
    rw [show X.heap[B]? = _ from hs] at ho
    cases ho
    cases hc)).trans hs
theorem keepsFrom_below {B : Nat} {W W' : World} (hb : Below W.heap.size W W') : KeepsFrom B W W' := ⟨hb.size, fun k o _ hk _ => (hb.block k (Array.getElem?_eq_some_iff.1 hk).1).trans hk⟩
theorem keepsFrom_setCells {B : Nat} {W : World} {g : Nat} (hg : g < B) (o : Nat) (vs : List Value) : KeepsFrom B W (W.setCells g o vs) := ⟨by rw [size_setCells]; exact Nat.le_refl _, fun k ob hB hk _ => (heap_setCells_other g vs o W k (by omega)).trans hk⟩
end Go.Proofs.YtgggpnjnhhkmgaaDoor
namespace Go.Proofs.YtgggpnjnhhkmgaaDoor
set_option linter.unusedSimpArgs false
set_option linter.unusedVariables false
open Go.RowKit Exch Merk Go.Shelf
attribute [local go_sem] Oper.semAt_some
theorem dg0C : dgC 0 = #[.int .u8 0, .int .u8 0, .int .u8 0, .int .u8 0, .int .u8 0, .int .u8 0, .int .u8 0, .int .u8 0, .int .u8 0, .int .u8 0, .int .u8 0, .int .u8 0, .int .u8 0, .int .u8 0, .int .u8 0, .int .u8 0] := by kernel_rfl
section
variable {F : Fence} {n : Nat} {P : Program} {w : World} {ops : Array Oper} {rest : List Oper} {o : Oper} {a : Act} {Q : Exit → Act → World → Prop}
theorem wpListIn_newB (hgd : o.guard = none) {t : TypeId} (ho : o.op = .alloc t) {cs : Array Value} (hz : ∀ w, (zeroValue t).run P w = .ok (.agg cs) w)
    (h : ∀ w' g, g = w.heap.size → Blk w' g t cs → Below w.heap.size w w' → w' = w.alloc (.cells cs t) → wpListIn F n P ops Q rest (a.put o.dst (.pointer (some ⟨g, 0, none⟩))) w') : wpListIn F n P ops Q (o :: rest) a w := by
  refine wpListIn_plain hgd fun K hK => ?_
  unfold Oper.wpIn
  refine ⟨by simp [Oper.about, ho], ?_⟩
  rw [Oper.semAt_plain F _ _ (by rw [ho]; intro c hc'; cases hc')]
  unfold execOp
  simp only [ho, Instr.alloc, newVar, newRow, hz, Sem.run_bind, Result.andThen_ok, run_newObj_alloc, Sem.run_pure, Value.cells]
  exact hK _ _ (h _ _ rfl (Blk.new _ _ _) ((Below.refl _ _).alloc (Nat.le_refl _) _) rfl)
end
theorem results_cell_tmp' {P : Program} {fn : Func} {tmps : Array Value} {w : World} {g : Nat} {t : TypeId} {cs : Array Value} {p q : Tmp} {ty : TypeId} (h : fn.results = #[.cell p ty, .tmp q]) (hp : tmps.getD p undef = .pointer (some ⟨g, 0, none⟩))
    (hb : Blk w g t cs) (hu : (P.underlying ty).map isAggDesc = some true) (hi : (P.info? ty).map (·.size) = some cs.size) : (results fn tmps).run P w = .ok (.tuple #[.agg cs, tmps.getD q undef]) w := by
  have hp' : tmps[p]?.getD undef = .pointer (some ⟨g, 0, none⟩) := by simpa using hp
  simp [results, h, hp', asAddr, run_loadVar_blk w g t ty cs hb hu hi]
/-- Digests from the last to the first one. -/
def backD (l : List Nat) (i : Nat) : Nat := l.getD i 0
theorem topN_snoc (nd : Nat → Nat → Nat) (em x : Nat) : ∀ l : List Nat, topN nd em (l ++ [x]) = l.foldr nd x
  | [] => rfl
  | y :: l => by rw [List.cons_append, topN_cons nd em _ _ (by simp), topN_snoc nd em x l]; rfl
theorem fold_upto (nd : Nat → Nat → Nat) (L : Nat → Nat) (x m : Nat) : ∀ j, j ≤ m → (upto (bwAt m L) j).foldl (fun d q => nd q.2 d) x = ((List.range' (m - j) j).map L).foldr nd x
  | 0, _ => rfl
  | j + 1, h => by
    rw [upto_succ, List.foldl_append, fold_upto nd L x m j (by omega)]
    have e : List.range' (m - (j + 1)) (j + 1) = (m - (j + 1)) :: List.range' (m - j) j := by
      rw [List.range'_succ, show m - (j + 1) + 1 = m - j by omega]
    rw [e]
    simp only [List.foldl_cons, List.foldl_nil, List.map_cons, List.foldr_cons, bwAt]
    rw [show m - 1 - j = m - (j + 1) by omega]
theorem range_back (l : List Nat) (k : Nat) (h : k ≤ l.length) : (List.range' 0 k).map (backD l) = l.take k := by
  refine List.ext_getElem (by simp; omega) fun i h1 h2 => ?_
  simp only [List.length_map, List.length_range'] at h1
  simp only [List.getElem_map, List.getElem_range', List.getElem_take, backD]
  rw [List.getD_eq_getElem?_getD, List.getElem?_eq_getElem (by omega)]
  simp
set_option maxRecDepth 100000 in
set_option maxHeartbeats 4000000 in
theorem top_some {nd : Nat → Nat → Nat} {em : Nat} (N : Nds nd em) (s : Int) (A : Option Addr) (m c : Nat) (tl : List Nat) (w : World) (hm : m ≤ 1000) (h1 : 1 ≤ m) (hr : RdD w A m tl) (hmc : m ≤ c) (hcm : c ≤ maxLen) (hf : formedB s m = true) (hg : GCon w) :
    Calls Tryd.prog 29 #[pkV s A m c] w fun e w' => e = .returned (.tuple #[dgV (topN nd em tl), .int .i64 0]) ∧ Below w.heap.size w w' := by
  have HF := Lib.hid (fun W => formed_any s A m c W)
  rw [hf] at HF
  have hcm2 : c ≤ 9223372036854775807 := hcm
  have e0 : ((m : Int) == 0) = false := by simp; omega
  obtain ⟨k, hk⟩ : ∃ k, m = k + 1 := ⟨m - 1, by omega⟩
  have e1 : (m : Int) - 1 = (k : Int) := by omega
  have e2 : 0 ≤ (k : Int) ∧ (k : Int) < (m : Int) := by omega
  have e3 : 0 ≤ (k : Int) ∧ (k : Int) ≤ (c : Int) := by omega
  have HK := Lib.hid hk
  obtain ⟨wa, hwa, hb0, q1, q2, hsz⟩ : ∃ wa : World, wa = (w.alloc (.cells (pkC s A m c) 51)).alloc (.cells (dgC 0) 31) ∧ Below w.heap.size w wa ∧ Blk wa w.heap.size 51 (pkC s A m c) ∧ Blk wa (w.heap.size + 1) 31 (dgC 0) ∧ wa.heap.size = w.heap.size + 2 :=
    ⟨_, rfl, ((Below.refl w.heap.size w).alloc (Nat.le_refl _) _).alloc (by simp) _, (Blk.new _ _ _).alloc _, Blk.new2 _ _ _ _, by simp⟩
  have HWA := Lib.hid hwa
  have HSZ := Lib.hid hsz
  clear hwa hsz hk hf
  refine (callsIn_wide (n := 6)).1 ?_
  refine callsIn_of_wp_marks Tryd.func29 rfl trivial ?_ rfl
  simp only [Tryd.ntmps29, List.size_toArray, List.length_cons, List.length_nil, Nat.reduceAdd, Nat.reduceSub, Array.replicate_succ, Array.replicate_zero, List.push_toArray, List.append_toArray, List.nil_append, List.cons_append]
  gi_wp2_with fail
  change Fence.wide.fn 54 ∧ CallsIn Fence.wide 5 Tryd.prog 54 #[pkV s A m c] ((w.alloc (.cells (pkC s A m c) 51)).alloc (.cells (dgC 0) 31)) _
  rw [← HWA.out]
  refine ⟨trivial, (callsIn_wide.2 (HF.out wa)).mono ?_⟩
  rintro e w1 ⟨rfl, hb1⟩
  replace q1 := q1.below hb1
  replace q2 := q2.below hb1
  have hb01 := bstep hb0 hb1
  have hsz1 : w.heap.size + 2 ≤ w1.heap.size := by have := HSZ.out; have := hb1.size; omega
  have c1 := q1.cell 1
  simp only [List.getElem?_toArray, List.getElem?_cons_zero, List.getElem?_cons_succ] at c1
  have hl := hr.len
  have hr1 := hr.below hb01
  obtain ⟨ad, rfl, hcx⟩ := hr1.elem (i := k) (by have := HK.out; omega)
  obtain ⟨x, hx⟩ : ∃ x, x = tl[k]'(by have := HK.out; omega) := ⟨_, rfl⟩
  rw [← hx] at hcx
  have HX := Lib.hid hx
  clear hx
  gi_wp2_with (first
    | ((with_reducible show wpListIn _ _ _ _ _ (⟨some 23, _, _, _, _, _⟩ :: _) _ _); refine wpListIn_loadC (us := bv (dg x)) rfl rfl rfl aggDg (by rw [sizeDg, bv_dg_len]) hcx ?_)
    | ((with_reducible show wpListIn _ _ _ _ _ (⟨some 5, _, _, _, _, _⟩ :: _) _ _); refine wpListIn_newB (cs := dgC 0) rfl rfl zeroDg ?_; intro w2 g5 hg5 q5 hb2 hw2; have HG5 := Lib.hid hg5; clear hg5 hw2)
    | ((with_reducible show wpListIn _ _ _ _ _ (⟨none, _, _, _, _, _⟩ :: _) _ _); refine wpListIn_storeB (vs := dgC x) rfl rfl rfl rfl q5 (by rw [dgC_size, dgC_size]) (by rw [sizeDg, dgC_size]) (one_dgC _) ?_; intro w3 hw3 b5 hb3; have q13 : Blk w3 w.heap.size 51 (pkC s (some ad) m c) := (hb3.block _ (by have := HG5.out; omega)).trans (q1.below hb2); have q23 : Blk w3 (w.heap.size + 1) 31 (dgC 0) := (hb3.block _ (by have := HG5.out; omega)).trans (q2.below hb2); have c13 := q13.cell 1; simp only [List.getElem?_toArray, List.getElem?_cons_zero, List.getElem?_cons_succ] at c13; have hsz3 : w3.heap.size = w2.heap.size := (by rw [hw3, size_setCells]); have HSZ3 := Lib.hid hsz3; clear hw3 hcx c1 hsz3))
  refine ⟨trivial, (callsIn_wide.2 (backward_any (some ad) k c w3)).mono ?_⟩
  rintro e w4 ⟨rfl, hw4⟩
  have hbs : w4.cell? ⟨w3.heap.size, 0, none⟩ = some (.slice (some ad) k c) := by rw [hw4]; exact (Boxed.new w3 _ _).cell
  have hb4 : Below w3.heap.size w3 w4 := by rw [hw4]; exact (Below.refl _ _).alloc (Nat.le_refl _) _
  have hsz4 : w4.heap.size = w3.heap.size + 1 := by rw [hw4]; simp
  have HS4 := Lib.hid hsz4
  clear hw4 hsz4
  replace b5 := b5.below hb4
  replace q13 := q13.below hb4
  replace q23 := q23.below hb4
  clear c13
  gi_wp2_with fail
  have hg5 : g5 = w1.heap.size := HG5.out
  have hw2s := hb2.size
  have hs3 := HSZ3.out
  have hs4 := HS4.out
  have hlt5 : g5 < w2.heap.size := q5.lt
  have hB04 : Below w.heap.size w w4 := bstep (hb01.trans ((hb2.mono (by omega)).trans (hb3.mono (by omega)))) hb4
  have HB04 := Lib.hid hB04
  have hcc : ∀ W', BelX g5 w4.heap.size w4 W' → ∀ i, i < k → ∃ ad', some ad = some ad' ∧ ∀ j u, (bv (dg (backD tl i)))[j]? = some u → W'.cell? ((ad'.add (i * 16)).add j) = some u := fun W' hb i hi => by
    have := (hr.below (hB04.trans (hb.below (by omega) (by omega)))).elem (i := i) (by have := HK.out; omega)
    unfold backD
    rw [List.getD_eq_getElem?_getD, List.getElem?_eq_getElem (by have := HK.out; omega)]
    exact this
  have HFIN : Hid ((upto (bwAt k (backD tl)) k).foldl (fun d q => nd q.2 d) x = topN nd em tl) := Lib.hid (by
    rw [fold_upto nd (backD tl) x k k (Nat.le_refl _), Nat.sub_self, range_back tl k (by have := HK.out; omega)]
    have e : tl = tl.take k ++ [x] := by
      rw [HX.out, ← List.take_succ_eq_append_getElem (by have := HK.out; omega), List.take_of_length_le (by have := HK.out; omega)]
    conv => rhs; rw [e]
    rw [topN_snoc])
  have HN := Lib.hid N.node
  have HG := Lib.hid hg
  have HH := Lib.hid (show w.heap.size + 2 ≤ g5 ∧ g5 < w3.heap.size ∧ w4.heap.size = w3.heap.size + 1 ∧ w.heap.size + 2 ≤ w3.heap.size from ⟨by omega, by omega, by omega, by omega⟩)
  have hkk : k ≤ 1000 := by have := HK.out; omega
  clear hg5 hw2s hs3 hs4 hlt5 hB04 hr hr1 hg HX hb2 hb3 hb4 hb01 hb0 hb1 hsz1 HF HWA HSZ HG5 HSZ3 HS4 q1 q2 q5
  refine wpIn_rangeFunc_ownH rfl (by omega) (gf := 72) (lb := #[.pointer (some ⟨w3.heap.size, 0, none⟩)]) rfl trivial (enters_of Tryd.func72 (by kernel_rfl) rfl)
    (backward_stops 5 (by omega) w3.heap.size g5 w4.heap.size (some ad) k c hkk (by have := HK.out; omega) (by omega) (backD tl) w4 (by have := HH.out; omega) (by have := HH.out; omega) (Nat.le_refl _) hbs hcc) BelX.trans (belX_b (Nat.le_refl _)) (Below.refl _ _) (fun _ => rfl)
    (fun pre W => Blk W g5 31 (dgC (pre.foldl (fun d q => nd q.2 d) x)) ∧ BelX g5 w4.heap.size w4 W)
    (fun _ _ _ => False)
    (OwnFrom.and (Own.from (blk_own g5 31 (fun (pre : List (Nat × Nat)) => dgC (pre.foldl (fun d q => nd q.2 d) x))) _) (ownFrom_belX (Nat.le_refl _) (Nat.le_refl _)))
    (fun c => (fun _ _ _ _ hs _ _ => hs))
    ⟨b5, BelX.refl _ _ _⟩
    (fun y a' W => ∃ Bx, w4.heap.size ≤ Bx ∧ Blk W Bx 31 (dgC y.2) ∧ a' = { tmps := #[pkV s (some ad) m c, .pointer (some ⟨w.heap.size, 0, none⟩), .pointer (some ⟨w.heap.size + 1, 0, none⟩), .int .i64 0, .int .i64 m, .pointer (some ⟨g5, 0, none⟩), undef, .pointer (some ⟨Bx, 0, none⟩), .agg #[.int .i64 s, .slice (some ad) m c], .bool true, .bool false, undef, .pointer (some ⟨w.heap.size, 1, none⟩), .slice (some ad) m c, .int .i64 m, .int .i64 m, .bool false, undef, .pointer (some ⟨w.heap.size, 1, none⟩), .slice (some ad) m c, .int .i64 m, .int .i64 k, .pointer (some (ad.add (k * 16))), .agg (bv (dg x)).toArray, .pointer (some ⟨w.heap.size, 1, none⟩), .slice (some ad) m c, .int .i64 m, .int .i64 k, .slice (some ad) k c, .func (.func 72) #[] #[.pointer (some ⟨w3.heap.size, 0, none⟩)], .int .i64 (y.1 : Int), dgV y.2, undef, undef, undef, undef], defers := [] })
    (fun y a' _ X Y row hs hg hr => by obtain ⟨Bx, h1, h2, h3⟩ := hs; exact ⟨Bx, h1, blk_own Bx _ (fun (_ : Unit) => _) () X Y row h2 hg (fun r e => (hr r e).2), h3⟩)
    ?assign ?body ?done ?stop
  case assign =>
    rintro l pre ⟨yi, yd⟩ W K ⟨i1, hBW⟩ hK
    have hw := hBW.size
    have HI := Lib.hid i1
    clear i1
    have qx : Blk (W.alloc (.cells #[.int .u8 0, .int .u8 0, .int .u8 0, .int .u8 0, .int .u8 0, .int .u8 0, .int .u8 0, .int .u8 0, .int .u8 0, .int .u8 0, .int .u8 0, .int .u8 0, .int .u8 0, .int .u8 0, .int .u8 0, .int .u8 0] 31)) W.heap.size 31 #[.int .u8 0, .int .u8 0, .int .u8 0, .int .u8 0, .int .u8 0, .int .u8 0, .int .u8 0, .int .u8 0, .int .u8 0, .int .u8 0, .int .u8 0, .int .u8 0, .int .u8 0, .int .u8 0, .int .u8 0, .int .u8 0] := Blk.new _ _ _
    have hbx : Below W.heap.size W (W.alloc (.cells #[.int .u8 0, .int .u8 0, .int .u8 0, .int .u8 0, .int .u8 0, .int .u8 0, .int .u8 0, .int .u8 0, .int .u8 0, .int .u8 0, .int .u8 0, .int .u8 0, .int .u8 0, .int .u8 0, .int .u8 0, .int .u8 0] 31)) := (Below.refl _ _).alloc (Nat.le_refl _) _
    gi_wp2_with ((with_reducible show wpListIn _ _ _ _ _ (⟨none, _, _, _, _, _⟩ :: _) _ _); refine wpListIn_storeB (vs := dgC yd) rfl rfl rfl rfl qx (by rw [dgC_size]; rfl) (by rw [sizeDg, dgC_size]) (one_dgC _) ?_; intro W2 hW2 bx hb3x; clear hW2)
    have hbT : Below W.heap.size W W2 := hbx.trans hb3x
    exact hK _ _ (keepsFrom_below hbT) (BelX.of_below (hbT.mono hw)) ⟨HI.out.below hbT, hBW.trans (BelX.of_below (hbT.mono hw))⟩ ⟨W.heap.size, hw, bx, rfl⟩
  case body =>
    rintro l pre y a' W hl ⟨r, hr⟩ ⟨i1, hBW⟩ ⟨Bx, hBx, bX, rfl⟩ hlt
    have hw := hBW.size
    obtain ⟨yi, yd⟩ := y
    have HNW := Lib.hid (HN.out yd (pre.foldl (fun d q => nd q.2 d) x) W (HG.out.below (HB04.out.trans (hBW.below (by have := HH.out; omega) (by have := HH.out; omega)))))
    have HE : Hid ((pre ++ [(yi, yd)]).foldl (fun d q => nd q.2 d) x = nd yd (pre.foldl (fun d q => nd q.2 d) x)) := Lib.hid (by simp)
    generalize nd yd (pre.foldl (fun d q => nd q.2 d) x) = Z at *
    generalize pre.foldl (fun d q => nd q.2 d) x = D at *
    dsimp only at bX ⊢
    gi_wp2_with (first
      | ((with_reducible show wpListIn _ _ _ _ _ (⟨some 32, _, _, _, _, _⟩ :: _) _ _); refine wpListIn_loadB rfl rfl rfl bX aggDg (by rw [sizeDg, dgC_size]) ?_)
      | ((with_reducible show wpListIn _ _ _ _ _ (⟨some 33, _, _, _, _, _⟩ :: _) _ _); refine wpListIn_loadB rfl rfl rfl i1 aggDg (by rw [sizeDg, dgC_size]) ?_))
    refine ⟨trivial, (CallsIn.inRound l (callsIn_wide.2 HNW.out)).mono ?_⟩
    rintro e W1 ⟨rfl, hb1⟩
    replace i1 := i1.below hb1
    gi_wp2_with ((with_reducible show wpListIn _ _ _ _ _ (⟨none, _, _, _, _, _⟩ :: _) _ _); refine wpListIn_storeB (vs := dgC Z) rfl rfl rfl rfl i1 (by rw [dgC_size, dgC_size]) (by rw [sizeDg, dgC_size]) (one_dgC _) ?_; intro W2 hW2 bx hb3x; have HW2 := Lib.hid hW2; clear hW2)
    have hk1 : BelX g5 w4.heap.size W W1 := BelX.of_below (hb1.mono hw)
    have hk2 : BelX g5 w4.heap.size W1 W2 := by rw [HW2.out]; exact BelX.setCells _ _ _ _ _
    exact ⟨(keepsFrom_below hb1).trans (by rw [HW2.out]; exact keepsFrom_setCells (by have := HH.out; omega) _ _), hk1.trans hk2, by rw [HE.out]; exact bx, (hBW.trans hk1).trans hk2⟩
  case done =>
    rintro D ys W hD rfl ⟨i1, hBW⟩ hK
    rw [HFIN.out] at i1
    have q23W := hBW.blk q23 (by have := HH.out; omega) (by have := HH.out; omega)
    clear b5 q13 q23 hbs hcc HFIN
    gi_wp2_with (first
      | ((with_reducible show wpListIn _ _ _ _ _ (⟨some 35, _, _, _, _, _⟩ :: _) _ _); refine wpListIn_loadB rfl rfl rfl i1 aggDg (by rw [sizeDg, dgC_size]) ?_)
      | ((with_reducible show wpListIn _ _ _ _ _ (⟨none, _, _, _, _, _⟩ :: _) _ _); refine wpListIn_storeB (vs := dgC (topN nd em tl)) rfl rfl rfl rfl q23W (by rw [dgC_size, dgC_size]) (by rw [sizeDg, dgC_size]) (one_dgC _) ?_; intro W3 hW3 b2 hb3x; have hK3 : W3.heap[D]? = some (.deferred (some [])) := (by rw [hW3]; exact (heap_setCells_other _ _ _ _ D (by have := HH.out; omega)).trans hK); have hs3 : W3.heap.size = W.heap.size := (by rw [hW3, size_setCells]); have HS3 := Lib.hid hs3; have hb2b : Below (w.heap.size + 1) W W3 := hb3x; clear hW3 hs3))
    refine ⟨by simp, .inl ⟨_, _, rfl, run_takeDeferred hK3, ?_⟩⟩
    have hg := grownBy_putObj' W3 D (.deferred none)
    have b2' := (hg.block _ b2.lt (by have := HH.out; simp; omega)).trans b2
    refine ⟨_, results_cell_tmp' rfl rfl b2' aggDg (by rw [sizeDg, dgC_size]), rfl, ?_⟩
    have hBf : Below w.heap.size w W := HB04.out.trans (hBW.below (by have := HH.out; omega) (by have := HH.out; omega))
    exact (hBf.trans (hb2b.mono (by omega))).trans (belowK_b (w := w) (Nat.le_refl _) _ D _ _ (by have := HH.out; omega) hK3 rfl rfl)
  case stop =>
    rintro D c' pre W hD hk hF hK
    exact hF.elim
theorem pkBox (w : World) (s : Int) (A : Option Addr) (m c : Nat) : ∃ wa : World, wa = (w.alloc (.cells (pkC s A m c) 51)).alloc (.cells (dgC 0) 31) ∧ Below w.heap.size w wa ∧ Blk wa w.heap.size 51 (pkC s A m c) ∧ Blk wa (w.heap.size + 1) 31 (dgC 0) :=
  ⟨_, rfl, ((Below.refl w.heap.size w).alloc (Nat.le_refl _) _).alloc (by simp) _, (Blk.new _ _ _).alloc _, Blk.new2 _ _ _ _⟩
set_option maxRecDepth 20000 in
set_option maxHeartbeats 1000000 in
theorem top_bad (s : Int) (A : Option Addr) (m c : Nat) (w : World) (hf : formedB s m = false) :
    Calls Tryd.prog 29 #[pkV s A m c] w fun e w' => e = .returned (.tuple #[dgV 0, .int .i64 3]) ∧ Below w.heap.size w w' := by
  obtain ⟨wa, hwa, hb0, q1, q2⟩ := pkBox w s A m c
  have HF := Lib.hid (formed_any s A m c wa)
  rw [hf] at HF
  have HWA := Lib.hid hwa
  have HB := Lib.hid build0_Dg
  clear hwa
  go_enter Tryd.func29, Tryd.ntmps29
  go_upto_region 1 with (fail)
  change Code.wp _ _ _ _ ((w.alloc (.cells (pkC s A m c) 51)).alloc (.cells (dgC 0) 31))
  rw [← HWA.out]
  go_wp2_with ((with_reducible show wpList _ _ _ (⟨some 8, _, _, _, _, _⟩ :: _) _ _); refine wpList_loadRow rfl rfl rfl q1 aggPk (by rw [sizePk]; rfl) ?_)
  refine HF.out.mono ?_
  rintro e w1 ⟨rfl, hb1⟩
  replace q2 := q2.below hb1
  go_wp2_with (first
    | ((with_reducible show wpList _ _ _ (⟨some 11, _, _, _, _, _⟩ :: _) _ _); refine wpList_build0 rfl rfl HB.out ?_)
    | ((with_reducible show wpList _ _ _ (⟨none, _, _, _, _, _⟩ :: _) _ _); refine wpList_put (vs := dgC 0) rfl rfl rfl rfl q2 rfl (by rw [sizeDg, dgC_size]) (one_dgC _) ?_; intro w9 ht9 b9))
  exact ret_blk2 rfl rfl rfl b9 aggDg (by rw [sizeDg, dgC_size]) ⟨rfl, (bstep hb0 hb1).trans (ht9.below _ (by omega))⟩
set_option maxRecDepth 20000 in
set_option maxHeartbeats 1000000 in
theorem top_zero {nd : Nat → Nat → Nat} {em : Nat} (N : Nds nd em) (s : Int) (A : Option Addr) (c : Nat) (w : World) (hf : formedB s 0 = true) (hg : GCon w) :
    Calls Tryd.prog 29 #[pkV s A 0 c] w fun e w' => e = .returned (.tuple #[dgV em, .int .i64 0]) ∧ Below w.heap.size w w' := by
  obtain ⟨wa, hwa, hb0, q1, q2⟩ := pkBox w s A 0 c
  have HF := Lib.hid (formed_any s A 0 c wa)
  rw [hf] at HF
  have HWA := Lib.hid hwa
  have HE := Lib.hid N.empty
  have HG := Lib.hid hg
  clear hwa hg
  go_enter Tryd.func29, Tryd.ntmps29
  go_upto_region 1 with (fail)
  change Code.wp _ _ _ _ ((w.alloc (.cells (pkC s A 0 c) 51)).alloc (.cells (dgC 0) 31))
  rw [← HWA.out]
  go_wp2_with ((with_reducible show wpList _ _ _ (⟨some 8, _, _, _, _, _⟩ :: _) _ _); refine wpList_loadRow rfl rfl rfl q1 aggPk (by rw [sizePk]; rfl) ?_)
  refine HF.out.mono ?_
  rintro e w1 ⟨rfl, hb1⟩
  replace q1 := q1.below hb1
  replace q2 := q2.below hb1
  have c1 := q1.cell 1
  simp only [List.getElem?_toArray, List.getElem?_cons_zero, List.getElem?_cons_succ] at c1
  have hb01 := bstep hb0 hb1
  go_wp2_with fail
  refine (HE.out _ (HG.out.below hb01)).mono ?_
  rintro e w2 ⟨rfl, hb2⟩
  replace q2 := q2.below hb2
  clear q1 c1
  go_wp2_with ((with_reducible show wpList _ _ _ (⟨none, _, _, _, _, _⟩ :: _) _ _); refine wpList_put (vs := dgC em) rfl rfl rfl rfl q2 (by rw [dgC_size, dgC_size]) (by rw [sizeDg, dgC_size]) (one_dgC _) ?_; intro w9 ht9 b9)
  exact ret_blk2 rfl rfl rfl b9 aggDg (by rw [sizeDg, dgC_size]) ⟨rfl, (bstep hb01 hb2).trans (ht9.below _ (by omega))⟩
def topR (nd : Nat → Nat → Nat) (em : Nat) (s : Int) (tl : List Nat) : Nat × Int := if formedB s tl.length = true then (topN nd em tl, 0) else (0, 3)
theorem top_any {nd : Nat → Nat → Nat} {em : Nat} (N : Nds nd em) (s : Int) (A : Option Addr) (m c : Nat) (tl : List Nat) (w : World) (hm : m ≤ 1000) (hr : RdD w A m tl) (hmc : m ≤ c) (hcm : c ≤ maxLen) (hg : GCon w) :
    Calls Tryd.prog 29 #[pkV s A m c] w fun e w' => e = .returned (.tuple #[dgV (topR nd em s tl).1, .int .i64 (topR nd em s tl).2]) ∧ Below w.heap.size w w' := by
  have hl := hr.len
  unfold topR
  cases hf : formedB s tl.length with
  | false =>
    rw [hl] at hf
    rw [if_neg (by simp)]
    exact top_bad s A m c w hf
  | true =>
    rw [if_pos rfl]
    rw [hl] at hf
    by_cases h0 : m = 0
    · subst h0
      obtain rfl := List.eq_nil_of_length_eq_zero hl
      exact top_zero N s A c w hf hg
    · exact top_some N s A m c tl w hm (by omega) hr hmc hcm hf hg
end Go.Proofs.YtgggpnjnhhkmgaaDoor
namespace Go.Proofs.YtgggpnjnhhkmgaaDoor
set_option linter.unusedSimpArgs false
set_option linter.unusedVariables false
open Go.RowKit Exch Merk Go.Shelf
set_option maxRecDepth 20000 in
set_option maxHeartbeats 1000000 in
theorem cloneDs_any (A : Option Addr) (n c : Nat) (l : List Nat) (w : World) (hr : RdD w A n l) (hn : n ≤ 4294967296) :
    Calls Tryd.prog 57 #[.slice A n c] w fun e w' => ∃ v, e = .returned v ∧ OwnDs w' w.heap.size v l ∧ Below w.heap.size w w' := by
  have q : ∀ (w : World) (a : Option Addr) (n c n' c' : Nat), (binOp .eql 22 (.slice a n c) (.slice none n' c')).run Tryd.prog w = .ok (.bool a.isNone) w := fun w a n c n' c' => Lib.run_eql_slice_nil w _ 31 a n c n' c' (by kernel_rfl)
  have HL := Lib.hid hr.len
  rcases A with _ | ad
  · obtain ⟨h0, _⟩ := rd_none0 hr.rd
    have hl : l = [] := List.eq_nil_of_length_eq_zero (by have := HL.out; omega)
    subst hl
    clear hr
    go_enter Tryd.func57, Tryd.ntmps57
    go_wp2
    go_ret
    exact ⟨_, rfl, OwnDs.nil _ _, Below.refl _ _⟩
  · have ho : (w.alloc (.cells #[] 31)).ownsRow w.heap.size 31 16 (.slice (some ⟨w.heap.size, 0, none⟩) 0 0) 0 [] := World.ownsRow_made w #[] 0 (Nat.le_refl _) (Nat.zero_le _) rfl
    have hb0 := (Below.refl w.heap.size w).alloc (Nat.le_refl _) (.cells #[] 31)
    have HR := Lib.hid hr.rd
    clear hr
    go_enter Tryd.func57, Tryd.ntmps57
    go_wp2_with (at_builtin; refine wpList_appK rfl rfl elemDg rfl ho rfl (HR.out.below hb0) (one_dgsL _) (by omega) (by simp) ?_; intro v' w' hown _ hbel)
    go_ret
    have hfin : OwnDs w' w.heap.size v' l := by
      unfold OwnDs
      rw [HL.out]
      simpa using hown
    exact ⟨_, rfl, hfin, hb0.trans hbel⟩
theorem build_pk (s : Int) (A : Option Addr) (n c : Nat) (W : World) : (Instr.build 51 #[(0, .int .i64 s), (1, .slice A n c)]).run Tryd.prog W = .ok (pkV s A n c) W := by kernel_rfl
theorem build_pk0 (W : World) : (Instr.build 51 #[]).run Tryd.prog W = .ok (pkV 0 none 0 0) W := by kernel_rfl
theorem one_pkC (s : Int) (A : Option Addr) (n c : Nat) : (pkC s A n c).all (·.oneCell') = true := by simp [pkC, Value.oneCell']
theorem xor_ones (s : Nat) (h : s < 2 ^ 64) : (2 ^ 64 - 1) ^^^ s = 2 ^ 64 - (s + 1) := by
  refine Nat.eq_of_testBit_eq fun i => ?_
  rw [Nat.testBit_xor, Nat.testBit_two_pow_sub_one, Nat.testBit_two_pow_sub_succ h]
  by_cases hi : i < 64
  · simp [hi]
  · have : s.testBit i = false := Nat.testBit_lt_two_pow (Nat.lt_of_lt_of_le h (Nat.pow_le_pow_right (by omega) (by omega)))
    simp [hi, this]
theorem not_u64 (s : Nat) (h : s ≤ 1099511627776) : bits .xor .u64 (if IntKind.u64.signed = true then -1 else IntKind.u64.max) (s : Int) = ((18446744073709551615 - s : Nat) : Int) := by
  have e : (if IntKind.u64.signed = true then (-1 : Int) else IntKind.u64.max) = ((18446744073709551615 : Nat) : Int) := by rfl
  have h2 := xor_ones s (by omega)
  have h3 : (18446744073709551615 : Nat) ^^^ s = 18446744073709551615 - s := by
    have e1 : (2 : Nat) ^ 64 - 1 = 18446744073709551615 := by decide
    rw [e1] at h2
    rw [h2]; omega
  rw [e, u64_xor_nat _ _ (by omega) (by omega), h3]
end Go.Proofs.YtgggpnjnhhkmgaaDoor
