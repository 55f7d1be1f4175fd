/-
  These texts, joined.
  Valid of a stock: the program's and the reference's; the laws' few and valid. Conditions: texts of at most 400 bytes; the tables of constants stand.
-/
import Derived.Test.YtieamjjnofelcaaDoorB5
namespace Go.Proofs.YtieamjjnofelcaaDoor
set_option linter.unusedSimpArgs false
set_option linter.unusedVariables false
open Go.RowKit Exch
def chain : Option Nat → List It → Bool
  | _, [] => true
  | p, x :: l => (decide (x.tx.size ≤ 1048576) && (decide (x.nm = nameOf x.tx) && (match p with | none => true | some y => decide (y < x.nm)))) && chain (some x.nm) l
def validS (l : List It) : Bool := chain none l && decide (l.length ≤ 65536)
/-- The name before a place. -/
def prevN (l : List It) (k : Nat) : Option Nat := if k = 0 then none else (l[k - 1]?).map (·.nm)
theorem prevN_zero (l : List It) : prevN l 0 = none := rfl
theorem prevN_succ (l : List It) (k : Nat) (h : k < l.length) : prevN l (k + 1) = some l[k].nm := by
  unfold prevN
  rw [if_neg (by omega), show k + 1 - 1 = k by omega, List.getElem?_eq_getElem h]
  rfl
theorem chain_cons (p : Option Nat) (x : It) (l : List It) : chain p (x :: l) = ((decide (x.tx.size ≤ 1048576) && (decide (x.nm = nameOf x.tx) && (match p with | none => true | some y => decide (y < x.nm)))) && chain (some x.nm) l) := by cases p <;> rfl
theorem chain_nil (p : Option Nat) : chain p [] = true := by cases p <;> rfl
theorem chain_step (l : List It) (k : Nat) (h : k < l.length) (ht : l[k].tx.size ≤ 1048576) : chain (prevN l k) (l.drop k) = ((decide (l[k].nm = nameOf l[k].tx) && (match prevN l k with | none => true | some y => decide (y < l[k].nm))) && chain (prevN l (k + 1)) (l.drop (k + 1))) := by
  rw [List.drop_eq_getElem_cons h, chain_cons, prevN_succ l k h, show decide (l[k].tx.size ≤ 1048576) = true by simpa using ht, Bool.true_and]
theorem stBox1 (w : World) (A : Option Addr) (m c : Nat) : ∃ wa : World, wa = w.alloc (.cells (stC A m c) 24) ∧ Below w.heap.size w wa ∧ Blk wa w.heap.size 24 (stC A m c) :=
  ⟨_, rfl, (Below.refl w.heap.size w).alloc (Nat.le_refl _) _, Blk.new _ _ _⟩
theorem cmpN_ge (a b : Nat) : decide (0 ≤ cmpN a b) = !decide (a < b) := by
  unfold cmpN
  by_cases h : a < b
  · rw [if_pos h]; simp [h]
  · rw [if_neg h]; by_cases h2 : b < a
    · rw [if_pos h2]; simp [h]
    · rw [if_neg h2]; simp [h]
set_option maxRecDepth 20000 in
set_option maxHeartbeats 8000000 in
theorem valid_any (l : List It) (A : Option Addr) (m c : Nat) (w : World) (hm : m ≤ 1000000) (hr : RdT w A m l) (hl : ∀ x ∈ l, WfT x) (hs : ∀ x ∈ l, x.tx.size ≤ 400) (hg : GCon w) :
    Calls Tryd.prog 11 #[stV A m c] w fun e w' => e = .returned (.bool (validS l)) ∧ Below w.heap.size w w' := by
  obtain ⟨wa, hwa, hb0, q0⟩ := stBox1 w A m c
  have HWA := Lib.hid hwa
  clear hwa
  have HR := Lib.hid hr
  have HL := Lib.hid hr.len
  have HW := Lib.hid hl
  have HX := Lib.hid hs
  have HG := Lib.hid (hg.below hb0)
  have HV0 : Hid (validS l = (chain (prevN l 0) (l.drop 0) && decide (m ≤ 65536))) := Lib.hid (by unfold validS; rw [hr.len]; rfl)
  have HNM := Lib.hid (fun t W ht hg => name_any t W ht hg)
  have HOR := Lib.hid (fun a b W ha hb => order_any a b W ha hb)
  generalize validS l = V at *
  clear hr hl hs hg
  go_enter Tryd.func11, Tryd.ntmps11
  go_upto_region 1 with (fail)
  change Code.wp _ _ _ _ (w.alloc (.cells (stC A m c) 24))
  rw [← HWA.out]
  have c0 := q0.cell 0
  simp only [List.getElem?_toArray, List.getElem?_cons_zero] at c0
  go_wp2_with fail
  clear c0
  go_loopw [8] (fun vk wr => ∃ k : Nat, k ≤ m ∧ vk = .int .i64 k ∧ Below wa.heap.size wa wr ∧ Hid (V = (chain (prevN l k) (l.drop k) && decide (m ≤ 65536)))) (fun vk _ => m - (intOf vk).toNat)
  case atStart => exact ⟨0, Nat.zero_le _, rfl, Below.refl _ _, HV0⟩
  case round =>
    obtain ⟨k, hk, rfl, hbw, HV⟩ := hrel
    replace q0 := q0.below hbw
    replace hb0 := bstep hb0 hbw
    have HG1 := Lib.hid (HG.out.below hbw)
    have c0 := q0.cell 0
    simp only [List.getElem?_toArray, List.getElem?_cons_zero] at c0
    by_cases hlt : k < m
    · have hkl : k < l.length := by have := HL.out; omega
      obtain ⟨ad, rfl, hc⟩ := (HR.out.below hb0).elem hkl
      have hst := chain_step l k hkl (by have := HX.out _ (List.getElem_mem hkl); omega)
      have hv := HV.out
      rw [hst] at hv
      clear hst
      have hwf := (HW.out _ (List.getElem_mem hkl)).nm
      have hsz := HX.out _ (List.getElem_mem hkl)
      have hpv : Hid (∀ j, k = j + 1 → ∃ hj : j < l.length, prevN l k = some l[j].nm ∧ l[j].nm < 2 ^ 128 ∧ ∀ W, Below w.heap.size w W → ∀ i u, (itL l[j])[i]? = some u → W.cell? ((ad.add (j * 17)).add i) = some u) := Lib.hid (fun j e => by
        have hj : j < l.length := by omega
        refine ⟨hj, by subst e; exact prevN_succ l j hj, (HW.out _ (List.getElem_mem hj)).nm, fun W hW i u hi => ?_⟩
        obtain ⟨ad', e', hc'⟩ := (HR.out.below hW).elem hj
        injection e' with e'
        subst e'
        exact hc' i u hi)
      have hp0 : Hid (k = 0 → prevN l k = none) := Lib.hid (fun e => by subst e; rfl)
      generalize prevN l k = P at *
      generalize l[k] = x at *
      have hne := neq_Dg hwf (nameOf_lt x.tx)
      
      have HN := Lib.hid (fun W hg => HNM.out x.tx W (by omega) hg)
      have d1 : decide ((1048576 : Int) < x.tx.size) = false := by simp; omega
      have hsz2 : x.tx.size ≤ 9223372036854775807 := by omega
      go_upto_region 4 with (first
        | ((with_reducible show wpList _ _ _ _ _ _); refine wpList_loadK (us := itL x) rfl rfl rfl aggIt (by rw [sizeIt, itL_len]) hc ?_)
        | ((with_reducible show wpList _ _ _ _ _ _); refine wpList_new (cs := itC ⟨0, ⟨#[]⟩⟩) rfl rfl (fun w => by kernel_rfl) ?_; intro w5 g5 hg5 q5 hb5 lt5; have HG5 := Lib.hid hg5; clear hg5)
        | ((with_reducible show wpList _ _ _ _ _ _); refine wpList_put (vs := itC x) rfl rfl rfl rfl q5 (by rw [itC_size, itC_size]) (by rw [sizeIt, itC_size]) (one_itC _) ?_; intro w6 ht6 b6))
      have hb : Below wr.heap.size wr w6 := hb5.trans (ht6.below _ (by have := HG5.out; omega))
      replace q0 := q0.below hb
      replace hb0 := bstep hb0 hb
      replace hbw := bstep hbw hb
      have HG2 := Lib.hid (HG1.out.below hb)
      clear hb5 ht6 q5 HG5 lt5 c0 hc hb HG1
      have c0 := q0.cell 0
      simp only [List.getElem?_toArray, List.getElem?_cons_zero] at c0
      have ht16 := it_text b6.it
      have hnm := it_name b6.it
      have hS : Below w6.heap.size w6 w6.drew := (Below.refl _ w6).drew
      by_cases h2 : x.nm = nameOf x.tx
      · have d2 : decide (x.nm = nameOf x.tx) = true := by simpa using h2
        have d2' : decide (x.nm = nameOf x.tx) = true := by simpa using h2
        rw [d2] at hne
        rw [d2', Bool.true_and] at hv
        clear d2 d2' h2
        generalize nameOf x.tx = M at *
        rcases Nat.eq_zero_or_pos k with hk0 | hkp
        · have hpn := hp0.out hk0
          subst hpn
          simp only [Bool.true_and] at hv
          have HNX := Lib.hid hv
          have dk : decide ((0 : Int) < k) = false := by simp; omega
          have dkn : decide (0 < k) = false := by simp; omega
          have hke := Lib.hid hk0
          clear hv HV HV0 hpv hp0 hk0
          go_upto_region 4 with fail
          refine wp_region_TB (S := Below (w6).heap.size (w6)) 29 (by kernel_rfl) ?_
          refine WpT.take (i := 0) rfl (by kernel_rfl) (fun _ _ _ h => h) (.inl ⟨by rfl, fun w hSw => by clear hSw; go_simp; (try go_bits); (try rw [if_pos (by omega)]); (try with_reducible rfl)⟩) (hS) ?_
          try simp only [nrm]
          refine WpT.take (i := 1) rfl (by kernel_rfl) (fun _ _ _ h => h) (yields_load rfl rfl rfl (by kernel_rfl) ht16) (hS) ?_
          try simp only [nrm]
          refine WpT.take (i := 2) rfl (by kernel_rfl) (fun _ _ _ h => h) (.inl ⟨by rfl, fun w hSw => by clear hSw; go_simp; (try go_bits); (try rw [if_pos (by omega)]); (try with_reducible rfl)⟩) (hS) ?_
          try simp only [nrm]
          refine WpT.take (i := 3) rfl (by kernel_rfl) (fun _ _ _ h => h) (.inl ⟨by rfl, fun w hSw => by clear hSw; go_simp; (try go_bits); (try rw [if_pos (by omega)]); (try with_reducible rfl)⟩) (hS) ?_
          try simp only [nrm]
          refine WpT.take (i := 4) rfl (by kernel_rfl) (fun _ _ _ h => h) (.inl ⟨by rfl, fun w hSw => by clear hSw; go_simp; (try go_bits); (try rw [if_pos (by omega)]); (try with_reducible rfl)⟩) (hS) ?_
          try simp only [nrm]
          refine WpT.take (i := 5) rfl (by kernel_rfl) (fun _ _ _ h => h) (.inl ⟨by rfl, fun w hSw => by clear hSw; go_simp; (try go_bits); (try rw [if_pos (by omega)]); (try with_reducible rfl)⟩) (hS) ?_
          try simp only [nrm]
          refine WpT.take (i := 6) rfl (by kernel_rfl) (fun _ _ _ h => h) (yields_loadKW (us := bv (dg x.nm)) (by rfl) rfl rfl aggDg (by rw [sizeDg, bv_dg_len]) hnm) (hS) ?_
          try simp only [nrm]
          refine WpT.take (i := 7) rfl (by kernel_rfl) (fun _ _ _ h => h) (.inl ⟨by rfl, fun w hSw => by clear hSw; go_simp; (try go_bits); (try rw [if_pos (by omega)]); (try with_reducible rfl)⟩) (hS) ?_
          try simp only [nrm]
          refine WpT.take (i := 8) rfl (by kernel_rfl) (fun _ _ _ h => h) (yields_loadW (by rfl) rfl rfl (by kernel_rfl) ht16) (hS) ?_
          try simp only [nrm]
          refine WpT.one (i := 9) rfl (by kernel_rfl) (fun K hK => ?_)
          go_simp; refine (HN.out _ (HG2.out.below hS)).mono ?_; rintro e w7 ⟨rfl, hb7⟩; replace hS := bstep hS hb7
          refine hK _ _ (hS) ?_; clear hK K; try simp only [nrm]
          refine WpT.take (i := 10) rfl (by kernel_rfl) (fun _ _ _ h => h) (.inl ⟨by rfl, fun w hSw => by clear hSw; go_simp; (try go_bits); (try rw [if_pos (by omega)]); (try with_reducible rfl)⟩) (hS) ?_
          try simp only [nrm]
          refine WpT.take (i := 11) rfl (by kernel_rfl) (fun _ _ _ h => h) (.inl ⟨by rfl, fun w hSw => by clear hSw; go_simp; (try go_bits); (try rw [if_pos (by omega)]); (try with_reducible rfl)⟩) (hS) ?_
          try simp only [nrm]
          refine WpT.take (i := 12) rfl (by kernel_rfl) (fun _ _ _ h => h) (.inl ⟨by rfl, fun w hSw => by clear hSw; go_simp; (try go_bits); (try rw [if_pos (by omega)]); (try with_reducible rfl)⟩) (hS) ?_
          try simp only [nrm]
          refine WpT.take (i := 13) rfl (by kernel_rfl) (fun _ _ _ h => h) (.inl ⟨by rfl, fun w hSw => by clear hSw; go_simp; (try go_bits); (try rw [if_pos (by omega)]); (try with_reducible rfl)⟩) (hS) ?_
          try simp only [nrm]
          refine WpT.take (i := 14) rfl (by kernel_rfl) (fun _ _ _ h => h) (.inl ⟨by rfl, fun w hSw => by clear hSw; go_simp; (try go_bits); (try rw [if_pos (by omega)]); (try with_reducible rfl)⟩) (hS) ?_
          try simp only [nrm]
          refine WpT.take (i := 15) rfl (by kernel_rfl) (fun _ _ _ h => h) (.inl ⟨by rfl, fun w hSw => by clear hSw; go_simp; (try go_bits); (try rw [if_pos (by omega)]); (try with_reducible rfl)⟩) (hS) ?_
          try simp only [nrm]
          refine WpT.take (i := 16) rfl (by kernel_rfl) (fun _ _ _ h => h) (.inr ⟨by rfl, rfl⟩) (hS) ?_
          try simp only [nrm]
          refine WpT.take (i := 17) rfl (by kernel_rfl) (fun _ _ _ h => h) (.inr ⟨by rfl, rfl⟩) (hS) ?_
          try simp only [nrm]
          refine WpT.take (i := 18) rfl (by kernel_rfl) (fun _ _ _ h => h) (.inr ⟨by rfl, rfl⟩) (hS) ?_
          try simp only [nrm]
          refine WpT.take (i := 19) rfl (by kernel_rfl) (fun _ _ _ h => h) (.inr ⟨by rfl, rfl⟩) (hS) ?_
          try simp only [nrm]
          refine WpT.take (i := 20) rfl (by kernel_rfl) (fun _ _ _ h => h) (.inr ⟨by rfl, rfl⟩) (hS) ?_
          try simp only [nrm]
          refine WpT.take (i := 21) rfl (by kernel_rfl) (fun _ _ _ h => h) (.inr ⟨by rfl, rfl⟩) (hS) ?_
          try simp only [nrm]
          refine WpT.take (i := 22) rfl (by kernel_rfl) (fun _ _ _ h => h) (.inr ⟨by rfl, rfl⟩) (hS) ?_
          try simp only [nrm]
          refine WpT.take (i := 23) rfl (by kernel_rfl) (fun _ _ _ h => h) (.inr ⟨by rfl, rfl⟩) (hS) ?_
          try simp only [nrm]
          refine WpT.take (i := 24) rfl (by kernel_rfl) (fun _ _ _ h => h) (.inr ⟨by rfl, rfl⟩) (hS) ?_
          try simp only [nrm]
          refine WpT.take (i := 25) rfl (by kernel_rfl) (fun _ _ _ h => h) (.inr ⟨by rfl, rfl⟩) (hS) ?_
          try simp only [nrm]
          refine WpT.take (i := 26) rfl (by kernel_rfl) (fun _ _ _ h => h) (.inr ⟨by rfl, rfl⟩) (hS) ?_
          try simp only [nrm]
          refine WpT.take (i := 27) rfl (by kernel_rfl) (fun _ _ _ h => h) (.inl ⟨by rfl, fun w hSw => by clear hSw; go_simp; (try go_bits); (try rw [if_pos (by omega)]); (try with_reducible rfl)⟩) (hS) ?_
          try simp only [nrm]
          refine WpT.take (i := 28) rfl (by kernel_rfl) (fun _ _ _ h => h) (.inl ⟨by rfl, fun w hSw => by clear hSw; go_simp; (try go_bits); (try rw [if_pos (by omega)]); (try with_reducible rfl)⟩) (hS) ?_
          try simp only [nrm]
          refine WpT.done (by kernel_rfl) ?_ _
          go_wp2_with fail
          exact ⟨⟨k + 1, by omega, by go_num, bstep hbw hS, HNX⟩, by simp [intOf]; omega⟩
        · obtain ⟨j, hj⟩ : ∃ j, k = j + 1 := ⟨k - 1, by omega⟩
          obtain ⟨hjl, hpe, hpw, hpc⟩ := hpv.out j hj
          subst hpe
          subst hj
          have hcp := hpc _ hb0
          clear hpc hpv hp0
          generalize l[j] = z at *
          have dk : decide ((0 : Int) < ((j + 1 : Nat) : Int)) = true := by rw [decide_eq_true_eq]; omega
          have hje : ((j + 1 : Nat) : Int) - 1 = (j : Int) := by omega
          have hjm : j < m := by omega
          have hznm := it_name hcp
          have HO := Lib.hid (fun W => HOR.out z.nm x.nm W hpw hwf)
          simp only at hv
          by_cases h3 : z.nm < x.nm
          · have d3 : decide (z.nm < x.nm) = true := by simpa using h3
            rw [d3, Bool.true_and] at hv
            have HNX := Lib.hid hv
            have dc : decide (0 ≤ cmpN z.nm x.nm) = false := by rw [cmpN_ge]; simpa using h3
            clear hv HV HV0 d3 h3
            generalize cmpN z.nm x.nm = C at *
            go_upto_region 4 with fail
            refine wp_region_TB (S := Below (w6).heap.size (w6)) 29 (by kernel_rfl) ?_
            refine WpT.take (i := 0) rfl (by kernel_rfl) (fun _ _ _ h => h) (.inl ⟨by rfl, fun w hSw => by clear hSw; go_simp; (try go_bits); (try rw [if_pos (by omega)]); (try with_reducible rfl)⟩) (hS) ?_
            try simp only [nrm]
            refine WpT.take (i := 1) rfl (by kernel_rfl) (fun _ _ _ h => h) (yields_load rfl rfl rfl (by kernel_rfl) ht16) (hS) ?_
            try simp only [nrm]
            refine WpT.take (i := 2) rfl (by kernel_rfl) (fun _ _ _ h => h) (.inl ⟨by rfl, fun w hSw => by clear hSw; go_simp; (try go_bits); (try rw [if_pos (by omega)]); (try with_reducible rfl)⟩) (hS) ?_
            try simp only [nrm]
            refine WpT.take (i := 3) rfl (by kernel_rfl) (fun _ _ _ h => h) (.inl ⟨by rfl, fun w hSw => by clear hSw; go_simp; (try go_bits); (try rw [if_pos (by omega)]); (try with_reducible rfl)⟩) (hS) ?_
            try simp only [nrm]
            refine WpT.take (i := 4) rfl (by kernel_rfl) (fun _ _ _ h => h) (.inl ⟨by rfl, fun w hSw => by clear hSw; go_simp; (try go_bits); (try rw [if_pos (by omega)]); (try with_reducible rfl)⟩) (hS) ?_
            try simp only [nrm]
            refine WpT.take (i := 5) rfl (by kernel_rfl) (fun _ _ _ h => h) (.inl ⟨by rfl, fun w hSw => by clear hSw; go_simp; (try go_bits); (try rw [if_pos (by omega)]); (try with_reducible rfl)⟩) (hS) ?_
            try simp only [nrm]
            refine WpT.take (i := 6) rfl (by kernel_rfl) (fun _ _ _ h => h) (yields_loadKW (us := bv (dg x.nm)) (by rfl) rfl rfl aggDg (by rw [sizeDg, bv_dg_len]) hnm) (hS) ?_
            try simp only [nrm]
            refine WpT.take (i := 7) rfl (by kernel_rfl) (fun _ _ _ h => h) (.inl ⟨by rfl, fun w hSw => by clear hSw; go_simp; (try go_bits); (try rw [if_pos (by omega)]); (try with_reducible rfl)⟩) (hS) ?_
            try simp only [nrm]
            refine WpT.take (i := 8) rfl (by kernel_rfl) (fun _ _ _ h => h) (yields_loadW (by rfl) rfl rfl (by kernel_rfl) ht16) (hS) ?_
            try simp only [nrm]
            refine WpT.one (i := 9) rfl (by kernel_rfl) (fun K hK => ?_)
            go_simp; refine (HN.out _ (HG2.out.below hS)).mono ?_; rintro e w7 ⟨rfl, hb7⟩; replace hS := bstep hS hb7
            refine hK _ _ (hS) ?_; clear hK K; try simp only [nrm]
            refine WpT.take (i := 10) rfl (by kernel_rfl) (fun _ _ _ h => h) (.inl ⟨by rfl, fun w hSw => by clear hSw; go_simp; (try go_bits); (try rw [if_pos (by omega)]); (try with_reducible rfl)⟩) (hS) ?_
            try simp only [nrm]
            refine WpT.take (i := 11) rfl (by kernel_rfl) (fun _ _ _ h => h) (.inl ⟨by rfl, fun w hSw => by clear hSw; go_simp; (try go_bits); (try rw [if_pos (by omega)]); (try with_reducible rfl)⟩) (hS) ?_
            try simp only [nrm]
            refine WpT.take (i := 12) rfl (by kernel_rfl) (fun _ _ _ h => h) (.inl ⟨by rfl, fun w hSw => by clear hSw; go_simp; (try go_bits); (try rw [if_pos (by omega)]); (try with_reducible rfl)⟩) (hS) ?_
            try simp only [nrm]
            refine WpT.take (i := 13) rfl (by kernel_rfl) (fun _ _ _ h => h) (.inl ⟨by rfl, fun w hSw => by clear hSw; go_simp; (try go_bits); (try rw [if_pos (by omega)]); (try with_reducible rfl)⟩) (hS) ?_
            try simp only [nrm]
            refine WpT.take (i := 14) rfl (by kernel_rfl) (fun _ _ _ h => h) (.inl ⟨by rfl, fun w hSw => by clear hSw; go_simp; (try go_bits); (try rw [if_pos (by omega)]); (try with_reducible rfl)⟩) (hS) ?_
            try simp only [nrm]
            refine WpT.take (i := 15) rfl (by kernel_rfl) (fun _ _ _ h => h) (.inl ⟨by rfl, fun w hSw => by clear hSw; go_simp; (try go_bits); (try rw [if_pos (by omega)]); (try with_reducible rfl)⟩) (hS) ?_
            try simp only [nrm]
            refine WpT.take (i := 16) rfl (by kernel_rfl) (fun _ _ _ h => h) (.inl ⟨by rfl, fun w hSw => by clear hSw; go_simp; (try go_bits); (try rw [if_pos (by omega)]); (try with_reducible rfl)⟩) (hS) ?_
            try simp only [nrm]
            refine WpT.take (i := 17) rfl (by kernel_rfl) (fun _ _ _ h => h) (yields_loadW (by rfl) rfl rfl (by kernel_rfl) c0) (hS) ?_
            try simp only [nrm]
            refine WpT.take (i := 18) rfl (by kernel_rfl) (fun _ _ _ h => h) (.inl ⟨by rfl, fun w hSw => by clear hSw; go_simp; (try go_bits); (try rw [if_pos (by omega)]); (try with_reducible rfl)⟩) (hS) ?_
            try simp only [nrm]
            refine WpT.take (i := 19) rfl (by kernel_rfl) (fun _ _ _ h => h) (.inl ⟨by rfl, fun w hSw => by clear hSw; go_simp; (try go_bits); (try rw [if_pos (by omega)]); (try with_reducible rfl)⟩) (hS) ?_
            try simp only [nrm]
            refine WpT.take (i := 20) rfl (by kernel_rfl) (fun _ _ _ h => h) (.inl ⟨by rfl, fun w hSw => by clear hSw; go_simp; (try go_bits); (try rw [if_pos (by omega)]); (try with_reducible rfl)⟩) (hS) ?_
            try simp only [nrm]
            refine WpT.take (i := 21) rfl (by kernel_rfl) (fun _ _ _ h => h) (.inl ⟨by rfl, fun w hSw => by clear hSw; go_simp; (try go_bits); (try rw [if_pos (by omega)]); (try with_reducible rfl)⟩) (hS) ?_
            try simp only [nrm]
            refine WpT.take (i := 22) rfl (by kernel_rfl) (fun _ _ _ h => h) (yields_loadKW (us := bv (dg z.nm)) (by rfl) rfl rfl aggDg (by rw [sizeDg, bv_dg_len]) hznm) (hS) ?_
            try simp only [nrm]
            refine WpT.take (i := 23) rfl (by kernel_rfl) (fun _ _ _ h => h) (.inl ⟨by rfl, fun w hSw => by clear hSw; go_simp; (try go_bits); (try rw [if_pos (by omega)]); (try with_reducible rfl)⟩) (hS) ?_
            try simp only [nrm]
            refine WpT.take (i := 24) rfl (by kernel_rfl) (fun _ _ _ h => h) (yields_loadKW (us := bv (dg x.nm)) (by rfl) rfl rfl aggDg (by rw [sizeDg, bv_dg_len]) hnm) (hS) ?_
            try simp only [nrm]
            refine WpT.one (i := 25) rfl (by kernel_rfl) (fun K hK => ?_)
            go_simp; refine (HO.out _).mono ?_; rintro e w8 ⟨rfl, hb8⟩; replace hS := bstep hS hb8
            refine hK _ _ (hS) ?_; clear hK K; try simp only [nrm]
            refine WpT.take (i := 26) rfl (by kernel_rfl) (fun _ _ _ h => h) (.inl ⟨by rfl, fun w hSw => by clear hSw; go_simp; (try go_bits); (try rw [if_pos (by omega)]); (try with_reducible rfl)⟩) (hS) ?_
            try simp only [nrm]
            refine WpT.take (i := 27) rfl (by kernel_rfl) (fun _ _ _ h => h) (.inl ⟨by rfl, fun w hSw => by clear hSw; go_simp; (try go_bits); (try rw [if_pos (by omega)]); (try with_reducible rfl)⟩) (hS) ?_
            try simp only [nrm]
            refine WpT.take (i := 28) rfl (by kernel_rfl) (fun _ _ _ h => h) (.inl ⟨by rfl, fun w hSw => by clear hSw; go_simp; (try go_bits); (try rw [if_pos (by omega)]); (try with_reducible rfl)⟩) (hS) ?_
            try simp only [nrm]
            refine WpT.done (by kernel_rfl) ?_ _
            go_wp2_with fail
            exact ⟨⟨j + 1 + 1, by omega, by go_num, bstep hbw hS, HNX⟩, by simp [intOf]; omega⟩
          · have d3 : decide (z.nm < x.nm) = false := by simpa using h3
            rw [d3, Bool.false_and, Bool.false_and] at hv
            subst hv
            have dc : decide (0 ≤ cmpN z.nm x.nm) = true := by rw [cmpN_ge]; simpa using h3
            clear HV HV0 d3 h3
            generalize cmpN z.nm x.nm = C at *
            go_upto_region 4 with fail
            refine wp_region_TB (S := Below (w6).heap.size (w6)) 29 (by kernel_rfl) ?_
            refine WpT.take (i := 0) rfl (by kernel_rfl) (fun _ _ _ h => h) (.inl ⟨by rfl, fun w hSw => by clear hSw; go_simp; (try go_bits); (try rw [if_pos (by omega)]); (try with_reducible rfl)⟩) (hS) ?_
            try simp only [nrm]
            refine WpT.take (i := 1) rfl (by kernel_rfl) (fun _ _ _ h => h) (yields_load rfl rfl rfl (by kernel_rfl) ht16) (hS) ?_
            try simp only [nrm]
            refine WpT.take (i := 2) rfl (by kernel_rfl) (fun _ _ _ h => h) (.inl ⟨by rfl, fun w hSw => by clear hSw; go_simp; (try go_bits); (try rw [if_pos (by omega)]); (try with_reducible rfl)⟩) (hS) ?_
            try simp only [nrm]
            refine WpT.take (i := 3) rfl (by kernel_rfl) (fun _ _ _ h => h) (.inl ⟨by rfl, fun w hSw => by clear hSw; go_simp; (try go_bits); (try rw [if_pos (by omega)]); (try with_reducible rfl)⟩) (hS) ?_
            try simp only [nrm]
            refine WpT.take (i := 4) rfl (by kernel_rfl) (fun _ _ _ h => h) (.inl ⟨by rfl, fun w hSw => by clear hSw; go_simp; (try go_bits); (try rw [if_pos (by omega)]); (try with_reducible rfl)⟩) (hS) ?_
            try simp only [nrm]
            refine WpT.take (i := 5) rfl (by kernel_rfl) (fun _ _ _ h => h) (.inl ⟨by rfl, fun w hSw => by clear hSw; go_simp; (try go_bits); (try rw [if_pos (by omega)]); (try with_reducible rfl)⟩) (hS) ?_
            try simp only [nrm]
            refine WpT.take (i := 6) rfl (by kernel_rfl) (fun _ _ _ h => h) (yields_loadKW (us := bv (dg x.nm)) (by rfl) rfl rfl aggDg (by rw [sizeDg, bv_dg_len]) hnm) (hS) ?_
            try simp only [nrm]
            refine WpT.take (i := 7) rfl (by kernel_rfl) (fun _ _ _ h => h) (.inl ⟨by rfl, fun w hSw => by clear hSw; go_simp; (try go_bits); (try rw [if_pos (by omega)]); (try with_reducible rfl)⟩) (hS) ?_
            try simp only [nrm]
            refine WpT.take (i := 8) rfl (by kernel_rfl) (fun _ _ _ h => h) (yields_loadW (by rfl) rfl rfl (by kernel_rfl) ht16) (hS) ?_
            try simp only [nrm]
            refine WpT.one (i := 9) rfl (by kernel_rfl) (fun K hK => ?_)
            go_simp; refine (HN.out _ (HG2.out.below hS)).mono ?_; rintro e w7 ⟨rfl, hb7⟩; replace hS := bstep hS hb7
            refine hK _ _ (hS) ?_; clear hK K; try simp only [nrm]
            refine WpT.take (i := 10) rfl (by kernel_rfl) (fun _ _ _ h => h) (.inl ⟨by rfl, fun w hSw => by clear hSw; go_simp; (try go_bits); (try rw [if_pos (by omega)]); (try with_reducible rfl)⟩) (hS) ?_
            try simp only [nrm]
            refine WpT.take (i := 11) rfl (by kernel_rfl) (fun _ _ _ h => h) (.inl ⟨by rfl, fun w hSw => by clear hSw; go_simp; (try go_bits); (try rw [if_pos (by omega)]); (try with_reducible rfl)⟩) (hS) ?_
            try simp only [nrm]
            refine WpT.take (i := 12) rfl (by kernel_rfl) (fun _ _ _ h => h) (.inl ⟨by rfl, fun w hSw => by clear hSw; go_simp; (try go_bits); (try rw [if_pos (by omega)]); (try with_reducible rfl)⟩) (hS) ?_
            try simp only [nrm]
            refine WpT.take (i := 13) rfl (by kernel_rfl) (fun _ _ _ h => h) (.inl ⟨by rfl, fun w hSw => by clear hSw; go_simp; (try go_bits); (try rw [if_pos (by omega)]); (try with_reducible rfl)⟩) (hS) ?_
            try simp only [nrm]
            refine WpT.take (i := 14) rfl (by kernel_rfl) (fun _ _ _ h => h) (.inl ⟨by rfl, fun w hSw => by clear hSw; go_simp; (try go_bits); (try rw [if_pos (by omega)]); (try with_reducible rfl)⟩) (hS) ?_
            try simp only [nrm]
            refine WpT.take (i := 15) rfl (by kernel_rfl) (fun _ _ _ h => h) (.inl ⟨by rfl, fun w hSw => by clear hSw; go_simp; (try go_bits); (try rw [if_pos (by omega)]); (try with_reducible rfl)⟩) (hS) ?_
            try simp only [nrm]
            refine WpT.take (i := 16) rfl (by kernel_rfl) (fun _ _ _ h => h) (.inl ⟨by rfl, fun w hSw => by clear hSw; go_simp; (try go_bits); (try rw [if_pos (by omega)]); (try with_reducible rfl)⟩) (hS) ?_
            try simp only [nrm]
            refine WpT.take (i := 17) rfl (by kernel_rfl) (fun _ _ _ h => h) (yields_loadW (by rfl) rfl rfl (by kernel_rfl) c0) (hS) ?_
            try simp only [nrm]
            refine WpT.take (i := 18) rfl (by kernel_rfl) (fun _ _ _ h => h) (.inl ⟨by rfl, fun w hSw => by clear hSw; go_simp; (try go_bits); (try rw [if_pos (by omega)]); (try with_reducible rfl)⟩) (hS) ?_
            try simp only [nrm]
            refine WpT.take (i := 19) rfl (by kernel_rfl) (fun _ _ _ h => h) (.inl ⟨by rfl, fun w hSw => by clear hSw; go_simp; (try go_bits); (try rw [if_pos (by omega)]); (try with_reducible rfl)⟩) (hS) ?_
            try simp only [nrm]
            refine WpT.take (i := 20) rfl (by kernel_rfl) (fun _ _ _ h => h) (.inl ⟨by rfl, fun w hSw => by clear hSw; go_simp; (try go_bits); (try rw [if_pos (by omega)]); (try with_reducible rfl)⟩) (hS) ?_
            try simp only [nrm]
            refine WpT.take (i := 21) rfl (by kernel_rfl) (fun _ _ _ h => h) (.inl ⟨by rfl, fun w hSw => by clear hSw; go_simp; (try go_bits); (try rw [if_pos (by omega)]); (try with_reducible rfl)⟩) (hS) ?_
            try simp only [nrm]
            refine WpT.take (i := 22) rfl (by kernel_rfl) (fun _ _ _ h => h) (yields_loadKW (us := bv (dg z.nm)) (by rfl) rfl rfl aggDg (by rw [sizeDg, bv_dg_len]) hznm) (hS) ?_
            try simp only [nrm]
            refine WpT.take (i := 23) rfl (by kernel_rfl) (fun _ _ _ h => h) (.inl ⟨by rfl, fun w hSw => by clear hSw; go_simp; (try go_bits); (try rw [if_pos (by omega)]); (try with_reducible rfl)⟩) (hS) ?_
            try simp only [nrm]
            refine WpT.take (i := 24) rfl (by kernel_rfl) (fun _ _ _ h => h) (yields_loadKW (us := bv (dg x.nm)) (by rfl) rfl rfl aggDg (by rw [sizeDg, bv_dg_len]) hnm) (hS) ?_
            try simp only [nrm]
            refine WpT.one (i := 25) rfl (by kernel_rfl) (fun K hK => ?_)
            go_simp; refine (HO.out _).mono ?_; rintro e w8 ⟨rfl, hb8⟩; replace hS := bstep hS hb8
            refine hK _ _ (hS) ?_; clear hK K; try simp only [nrm]
            refine WpT.take (i := 26) rfl (by kernel_rfl) (fun _ _ _ h => h) (.inl ⟨by rfl, fun w hSw => by clear hSw; go_simp; (try go_bits); (try rw [if_pos (by omega)]); (try with_reducible rfl)⟩) (hS) ?_
            try simp only [nrm]
            refine WpT.take (i := 27) rfl (by kernel_rfl) (fun _ _ _ h => h) (.inl ⟨by rfl, fun w hSw => by clear hSw; go_simp; (try go_bits); (try rw [if_pos (by omega)]); (try with_reducible rfl)⟩) (hS) ?_
            try simp only [nrm]
            refine WpT.take (i := 28) rfl (by kernel_rfl) (fun _ _ _ h => h) (.inl ⟨by rfl, fun w hSw => by clear hSw; go_simp; (try go_bits); (try rw [if_pos (by omega)]); (try with_reducible rfl)⟩) (hS) ?_
            try simp only [nrm]
            refine WpT.done (by kernel_rfl) ?_ _
            go_wp2_with fail
            go_ret
            exact ⟨rfl, bstep hb0 hS⟩
      · have d2 : decide (x.nm = nameOf x.tx) = false := by simpa using h2
        have d2' : decide (x.nm = nameOf x.tx) = false := by simpa using h2
        rw [d2] at hne
        rw [d2', Bool.false_and, Bool.false_and, Bool.false_and] at hv
        subst hv
        clear d2 d2' h2 HV HV0 hpv hp0
        generalize nameOf x.tx = M at *
        go_upto_region 4 with fail
        refine wp_region_TB (S := Below (w6).heap.size (w6)) 29 (by kernel_rfl) ?_
        refine WpT.take (i := 0) rfl (by kernel_rfl) (fun _ _ _ h => h) (.inl ⟨by rfl, fun w hSw => by clear hSw; go_simp; (try go_bits); (try rw [if_pos (by omega)]); (try with_reducible rfl)⟩) (hS) ?_
        try simp only [nrm]
        refine WpT.take (i := 1) rfl (by kernel_rfl) (fun _ _ _ h => h) (yields_load rfl rfl rfl (by kernel_rfl) ht16) (hS) ?_
        try simp only [nrm]
        refine WpT.take (i := 2) rfl (by kernel_rfl) (fun _ _ _ h => h) (.inl ⟨by rfl, fun w hSw => by clear hSw; go_simp; (try go_bits); (try rw [if_pos (by omega)]); (try with_reducible rfl)⟩) (hS) ?_
        try simp only [nrm]
        refine WpT.take (i := 3) rfl (by kernel_rfl) (fun _ _ _ h => h) (.inl ⟨by rfl, fun w hSw => by clear hSw; go_simp; (try go_bits); (try rw [if_pos (by omega)]); (try with_reducible rfl)⟩) (hS) ?_
        try simp only [nrm]
        refine WpT.take (i := 4) rfl (by kernel_rfl) (fun _ _ _ h => h) (.inl ⟨by rfl, fun w hSw => by clear hSw; go_simp; (try go_bits); (try rw [if_pos (by omega)]); (try with_reducible rfl)⟩) (hS) ?_
        try simp only [nrm]
        refine WpT.take (i := 5) rfl (by kernel_rfl) (fun _ _ _ h => h) (.inl ⟨by rfl, fun w hSw => by clear hSw; go_simp; (try go_bits); (try rw [if_pos (by omega)]); (try with_reducible rfl)⟩) (hS) ?_
        try simp only [nrm]
        refine WpT.take (i := 6) rfl (by kernel_rfl) (fun _ _ _ h => h) (yields_loadKW (us := bv (dg x.nm)) (by rfl) rfl rfl aggDg (by rw [sizeDg, bv_dg_len]) hnm) (hS) ?_
        try simp only [nrm]
        refine WpT.take (i := 7) rfl (by kernel_rfl) (fun _ _ _ h => h) (.inl ⟨by rfl, fun w hSw => by clear hSw; go_simp; (try go_bits); (try rw [if_pos (by omega)]); (try with_reducible rfl)⟩) (hS) ?_
        try simp only [nrm]
        refine WpT.take (i := 8) rfl (by kernel_rfl) (fun _ _ _ h => h) (yields_loadW (by rfl) rfl rfl (by kernel_rfl) ht16) (hS) ?_
        try simp only [nrm]
        refine WpT.one (i := 9) rfl (by kernel_rfl) (fun K hK => ?_)
        go_simp; refine (HN.out _ (HG2.out.below hS)).mono ?_; rintro e w7 ⟨rfl, hb7⟩; replace hS := bstep hS hb7
        refine hK _ _ (hS) ?_; clear hK K; try simp only [nrm]
        refine WpT.take (i := 10) rfl (by kernel_rfl) (fun _ _ _ h => h) (.inl ⟨by rfl, fun w hSw => by clear hSw; go_simp; (try go_bits); (try rw [if_pos (by omega)]); (try with_reducible rfl)⟩) (hS) ?_
        try simp only [nrm]
        refine WpT.take (i := 11) rfl (by kernel_rfl) (fun _ _ _ h => h) (.inl ⟨by rfl, fun w hSw => by clear hSw; go_simp; (try go_bits); (try rw [if_pos (by omega)]); (try with_reducible rfl)⟩) (hS) ?_
        try simp only [nrm]
        refine WpT.take (i := 12) rfl (by kernel_rfl) (fun _ _ _ h => h) (.inl ⟨by rfl, fun w hSw => by clear hSw; go_simp; (try go_bits); (try rw [if_pos (by omega)]); (try with_reducible rfl)⟩) (hS) ?_
        try simp only [nrm]
        refine WpT.take (i := 13) rfl (by kernel_rfl) (fun _ _ _ h => h) (.inr ⟨by rfl, rfl⟩) (hS) ?_
        try simp only [nrm]
        refine WpT.take (i := 14) rfl (by kernel_rfl) (fun _ _ _ h => h) (.inr ⟨by rfl, rfl⟩) (hS) ?_
        try simp only [nrm]
        refine WpT.take (i := 15) rfl (by kernel_rfl) (fun _ _ _ h => h) (.inr ⟨by rfl, rfl⟩) (hS) ?_
        try simp only [nrm]
        refine WpT.take (i := 16) rfl (by kernel_rfl) (fun _ _ _ h => h) (.inr ⟨by rfl, rfl⟩) (hS) ?_
        try simp only [nrm]
        refine WpT.take (i := 17) rfl (by kernel_rfl) (fun _ _ _ h => h) (.inr ⟨by rfl, rfl⟩) (hS) ?_
        try simp only [nrm]
        refine WpT.take (i := 18) rfl (by kernel_rfl) (fun _ _ _ h => h) (.inr ⟨by rfl, rfl⟩) (hS) ?_
        try simp only [nrm]
        refine WpT.take (i := 19) rfl (by kernel_rfl) (fun _ _ _ h => h) (.inr ⟨by rfl, rfl⟩) (hS) ?_
        try simp only [nrm]
        refine WpT.take (i := 20) rfl (by kernel_rfl) (fun _ _ _ h => h) (.inr ⟨by rfl, rfl⟩) (hS) ?_
        try simp only [nrm]
        refine WpT.take (i := 21) rfl (by kernel_rfl) (fun _ _ _ h => h) (.inr ⟨by rfl, rfl⟩) (hS) ?_
        try simp only [nrm]
        refine WpT.take (i := 22) rfl (by kernel_rfl) (fun _ _ _ h => h) (.inr ⟨by rfl, rfl⟩) (hS) ?_
        try simp only [nrm]
        refine WpT.take (i := 23) rfl (by kernel_rfl) (fun _ _ _ h => h) (.inr ⟨by rfl, rfl⟩) (hS) ?_
        try simp only [nrm]
        refine WpT.take (i := 24) rfl (by kernel_rfl) (fun _ _ _ h => h) (.inr ⟨by rfl, rfl⟩) (hS) ?_
        try simp only [nrm]
        refine WpT.take (i := 25) rfl (by kernel_rfl) (fun _ _ _ h => h) (.inr ⟨by rfl, rfl⟩) (hS) ?_
        try simp only [nrm]
        refine WpT.take (i := 26) rfl (by kernel_rfl) (fun _ _ _ h => h) (.inr ⟨by rfl, rfl⟩) (hS) ?_
        try simp only [nrm]
        refine WpT.take (i := 27) rfl (by kernel_rfl) (fun _ _ _ h => h) (.inr ⟨by rfl, rfl⟩) (hS) ?_
        try simp only [nrm]
        refine WpT.take (i := 28) rfl (by kernel_rfl) (fun _ _ _ h => h) (.inl ⟨by rfl, fun w hSw => by clear hSw; go_simp; (try go_bits); (try rw [if_pos (by omega)]); (try with_reducible rfl)⟩) (hS) ?_
        try simp only [nrm]
        refine WpT.done (by kernel_rfl) ?_ _
        go_wp2_with fail
        go_ret
        exact ⟨rfl, bstep hb0 hS⟩
    · obtain rfl : k = m := by omega
      have hv := HV.out
      rw [List.drop_of_length_le (by have := HL.out; omega), chain_nil, Bool.true_and] at hv
      have HVV := Lib.hid hv
      have hd : decide ((k : Int) ≤ 65536) = decide (k ≤ 65536) := by rw [Bool.eq_iff_iff]; simp only [decide_eq_true_eq]; omega
      clear hv HV HV0
      go_wp2_with fail
      go_ret
      exact ⟨by rw [HVV.out]; try rw [← hd]; rfl, hb0⟩
set_option maxRecDepth 20000 in
set_option maxHeartbeats 8000000 in
theorem refValid_any (l : List It) (A : Option Addr) (m c : Nat) (w : World) (hm : m ≤ 1000000) (hr : RdT w A m l) (hl : ∀ x ∈ l, WfT x) (hs : ∀ x ∈ l, x.tx.size ≤ 400) (hg : RCon w) :
    Calls Tryd.prog 12 #[stV A m c] w fun e w' => e = .returned (.bool (validS l)) ∧ Below w.heap.size w w' := by
  obtain ⟨wa, hwa, hb0, q0⟩ := stBox1 w A m c
  have HWA := Lib.hid hwa
  clear hwa
  have HR := Lib.hid hr
  have HL := Lib.hid hr.len
  have HW := Lib.hid hl
  have HX := Lib.hid hs
  have HG := Lib.hid (hg.below hb0)
  have HV0 : Hid (validS l = (chain (prevN l 0) (l.drop 0) && decide (m ≤ 65536))) := Lib.hid (by unfold validS; rw [hr.len]; rfl)
  have HNM := Lib.hid (fun t W ht hg => refName_any t W ht hg)
  have HOR := Lib.hid (fun a b W ha hb => refLess_any a b W ha hb)
  generalize validS l = V at *
  clear hr hl hs hg
  go_enter Tryd.func12, Tryd.ntmps12
  go_upto_region 1 with (fail)
  change Code.wp _ _ _ _ (w.alloc (.cells (stC A m c) 24))
  rw [← HWA.out]
  have c0 := q0.cell 0
  simp only [List.getElem?_toArray, List.getElem?_cons_zero] at c0
  go_wp2_with fail
  clear c0
  go_loopw [3] (fun vk wr => ∃ k : Nat, k ≤ m ∧ vk = .int .i64 k ∧ Below wa.heap.size wa wr ∧ Hid (V = (chain (prevN l k) (l.drop k) && decide (m ≤ 65536)))) (fun vk _ => m - (intOf vk).toNat)
  case atStart => exact ⟨0, Nat.zero_le _, rfl, Below.refl _ _, HV0⟩
  case round =>
    obtain ⟨k, hk, rfl, hbw, HV⟩ := hrel
    replace q0 := q0.below hbw
    replace hb0 := bstep hb0 hbw
    have HG1 := Lib.hid (HG.out.below hbw)
    have c0 := q0.cell 0
    simp only [List.getElem?_toArray, List.getElem?_cons_zero] at c0
    by_cases hlt : k < m
    · have hkl : k < l.length := by have := HL.out; omega
      obtain ⟨ad, rfl, hc⟩ := (HR.out.below hb0).elem hkl
      have hst := chain_step l k hkl (by have := HX.out _ (List.getElem_mem hkl); omega)
      have hv := HV.out
      rw [hst] at hv
      clear hst
      have hwf := (HW.out _ (List.getElem_mem hkl)).nm
      have hsz := HX.out _ (List.getElem_mem hkl)
      have hpv : Hid (∀ j, k = j + 1 → ∃ hj : j < l.length, prevN l k = some l[j].nm ∧ l[j].nm < 2 ^ 128 ∧ ∀ W, Below w.heap.size w W → ∀ i u, (itL l[j])[i]? = some u → W.cell? ((ad.add (j * 17)).add i) = some u) := Lib.hid (fun j e => by
        have hj : j < l.length := by omega
        refine ⟨hj, by subst e; exact prevN_succ l j hj, (HW.out _ (List.getElem_mem hj)).nm, fun W hW i u hi => ?_⟩
        obtain ⟨ad', e', hc'⟩ := (HR.out.below hW).elem hj
        injection e' with e'
        subst e'
        exact hc' i u hi)
      have hp0 : Hid (k = 0 → prevN l k = none) := Lib.hid (fun e => by subst e; rfl)
      generalize prevN l k = P at *
      generalize l[k] = x at *
      have hne := neq_Dg hwf (nameOf_lt x.tx)
      have hne := neq_Dg (nameOf_lt x.tx) hwf
      have HN := Lib.hid (fun W hg => HNM.out x.tx W (by omega) hg)
      have d1 : decide ((1048576 : Int) < x.tx.size) = false := by simp; omega
      have hsz2 : x.tx.size ≤ 9223372036854775807 := by omega
      have HG2 := HG1
      have ht16 := it_text hc
      have hnm := it_name hc
      have hS : Below wr.heap.size wr wr.drew := (Below.refl _ wr).drew
      by_cases h2 : x.nm = nameOf x.tx
      · have d2 : decide (nameOf x.tx = x.nm) = true := by simpa using h2.symm
        have d2' : decide (x.nm = nameOf x.tx) = true := by simpa using h2
        rw [d2] at hne
        rw [d2', Bool.true_and] at hv
        clear d2 d2' h2
        generalize nameOf x.tx = M at *
        rcases Nat.eq_zero_or_pos k with hk0 | hkp
        · have hpn := hp0.out hk0
          subst hpn
          simp only [Bool.true_and] at hv
          have HNX := Lib.hid hv
          have dk : decide ((0 : Int) < k) = false := by simp; omega
          have dkn : decide (0 < k) = false := by simp; omega
          have hke := Lib.hid hk0
          clear hv HV HV0 hpv hp0 hk0
          go_upto_region 4 with fail
          refine wp_region_TB (S := Below (wr).heap.size (wr)) 45 (by kernel_rfl) ?_
          refine WpT.take (i := 0) rfl (by kernel_rfl) (fun _ _ _ h => h) (.inl ⟨by rfl, fun w hSw => by clear hSw; go_simp; (try go_bits); (try rw [if_pos (by omega)]); (try with_reducible rfl)⟩) (hS) ?_
          try simp only [nrm]
          refine WpT.take (i := 1) rfl (by kernel_rfl) (fun _ _ _ h => h) (yields_load rfl rfl rfl (by kernel_rfl) c0) (hS) ?_
          try simp only [nrm]
          refine WpT.take (i := 2) rfl (by kernel_rfl) (fun _ _ _ h => h) (.inl ⟨by rfl, fun w hSw => by clear hSw; go_simp; (try go_bits); (try rw [if_pos (by omega)]); (try with_reducible rfl)⟩) (hS) ?_
          try simp only [nrm]
          refine WpT.take (i := 3) rfl (by kernel_rfl) (fun _ _ _ h => h) (.inl ⟨by rfl, fun w hSw => by clear hSw; go_simp; (try go_bits); (try rw [if_pos (by omega)]); (try with_reducible rfl)⟩) (hS) ?_
          try simp only [nrm]
          refine WpT.take (i := 4) rfl (by kernel_rfl) (fun _ _ _ h => h) (.inl ⟨by rfl, fun w hSw => by clear hSw; go_simp; (try go_bits); (try rw [if_pos (by omega)]); (try with_reducible rfl)⟩) (hS) ?_
          try simp only [nrm]
          refine WpT.take (i := 5) rfl (by kernel_rfl) (fun _ _ _ h => h) (yields_load rfl rfl rfl (by kernel_rfl) ht16) (hS) ?_
          try simp only [nrm]
          refine WpT.take (i := 6) rfl (by kernel_rfl) (fun _ _ _ h => h) (.inl ⟨by rfl, fun w hSw => by clear hSw; go_simp; (try go_bits); (try rw [if_pos (by omega)]); (try with_reducible rfl)⟩) (hS) ?_
          try simp only [nrm]
          refine WpT.take (i := 7) rfl (by kernel_rfl) (fun _ _ _ h => h) (.inl ⟨by rfl, fun w hSw => by clear hSw; go_simp; (try go_bits); (try rw [if_pos (by omega)]); (try with_reducible rfl)⟩) (hS) ?_
          try simp only [nrm]
          refine WpT.take (i := 8) rfl (by kernel_rfl) (fun _ _ _ h => h) (.inl ⟨by rfl, fun w hSw => by clear hSw; go_simp; (try go_bits); (try rw [if_pos (by omega)]); (try with_reducible rfl)⟩) (hS) ?_
          try simp only [nrm]
          refine WpT.take (i := 9) rfl (by kernel_rfl) (fun _ _ _ h => h) (.inl ⟨by rfl, fun w hSw => by clear hSw; go_simp; (try go_bits); (try rw [if_pos (by omega)]); (try with_reducible rfl)⟩) (hS) ?_
          try simp only [nrm]
          refine WpT.take (i := 10) rfl (by kernel_rfl) (fun _ _ _ h => h) (yields_loadW (by rfl) rfl rfl (by kernel_rfl) c0) (hS) ?_
          try simp only [nrm]
          refine WpT.take (i := 11) rfl (by kernel_rfl) (fun _ _ _ h => h) (.inl ⟨by rfl, fun w hSw => by clear hSw; go_simp; (try go_bits); (try rw [if_pos (by omega)]); (try with_reducible rfl)⟩) (hS) ?_
          try simp only [nrm]
          refine WpT.take (i := 12) rfl (by kernel_rfl) (fun _ _ _ h => h) (.inl ⟨by rfl, fun w hSw => by clear hSw; go_simp; (try go_bits); (try rw [if_pos (by omega)]); (try with_reducible rfl)⟩) (hS) ?_
          try simp only [nrm]
          refine WpT.take (i := 13) rfl (by kernel_rfl) (fun _ _ _ h => h) (.inl ⟨by rfl, fun w hSw => by clear hSw; go_simp; (try go_bits); (try rw [if_pos (by omega)]); (try with_reducible rfl)⟩) (hS) ?_
          try simp only [nrm]
          refine WpT.take (i := 14) rfl (by kernel_rfl) (fun _ _ _ h => h) (yields_loadW (by rfl) rfl rfl (by kernel_rfl) ht16) (hS) ?_
          try simp only [nrm]
          refine WpT.take (i := 16) rfl (by kernel_rfl) (fun _ _ _ h => h) (.inl ⟨by rfl, fun w hSw => by clear hSw; go_simp; (try go_bits); (try rw [if_pos (by omega)]); (try with_reducible rfl)⟩) (hS) ?_
          try simp only [nrm]
          refine WpT.take (i := 17) rfl (by kernel_rfl) (fun _ _ _ h => h) (yields_loadW (by rfl) rfl rfl (by kernel_rfl) c0) (hS) ?_
          try simp only [nrm]
          refine WpT.take (i := 18) rfl (by kernel_rfl) (fun _ _ _ h => h) (.inl ⟨by rfl, fun w hSw => by clear hSw; go_simp; (try go_bits); (try rw [if_pos (by omega)]); (try with_reducible rfl)⟩) (hS) ?_
          try simp only [nrm]
          refine WpT.take (i := 19) rfl (by kernel_rfl) (fun _ _ _ h => h) (.inl ⟨by rfl, fun w hSw => by clear hSw; go_simp; (try go_bits); (try rw [if_pos (by omega)]); (try with_reducible rfl)⟩) (hS) ?_
          try simp only [nrm]
          refine WpT.take (i := 20) rfl (by kernel_rfl) (fun _ _ _ h => h) (.inl ⟨by rfl, fun w hSw => by clear hSw; go_simp; (try go_bits); (try rw [if_pos (by omega)]); (try with_reducible rfl)⟩) (hS) ?_
          try simp only [nrm]
          refine WpT.take (i := 21) rfl (by kernel_rfl) (fun _ _ _ h => h) (yields_loadKW (us := bv (dg x.nm)) (by rfl) rfl rfl aggDg (by rw [sizeDg, bv_dg_len]) hnm) (hS) ?_
          try simp only [nrm]
          refine WpT.one (i := 15) rfl (by kernel_rfl) (fun K hK => ?_)
          go_simp; refine (HN.out _ (HG2.out.below hS)).mono ?_; rintro e w7 ⟨rfl, hb7⟩; replace hS := bstep hS hb7
          refine hK _ _ (hS) ?_; clear hK K; try simp only [nrm]
          refine WpT.take (i := 22) rfl (by kernel_rfl) (fun _ _ _ h => h) (.inl ⟨by rfl, fun w hSw => by clear hSw; go_simp; (try go_bits); (try rw [if_pos (by omega)]); (try with_reducible rfl)⟩) (hS) ?_
          try simp only [nrm]
          refine WpT.take (i := 23) rfl (by kernel_rfl) (fun _ _ _ h => h) (.inl ⟨by rfl, fun w hSw => by clear hSw; go_simp; (try go_bits); (try rw [if_pos (by omega)]); (try with_reducible rfl)⟩) (hS) ?_
          try simp only [nrm]
          refine WpT.take (i := 24) rfl (by kernel_rfl) (fun _ _ _ h => h) (.inl ⟨by rfl, fun w hSw => by clear hSw; go_simp; (try go_bits); (try rw [if_pos (by omega)]); (try with_reducible rfl)⟩) (hS) ?_
          try simp only [nrm]
          refine WpT.take (i := 25) rfl (by kernel_rfl) (fun _ _ _ h => h) (.inl ⟨by rfl, fun w hSw => by clear hSw; go_simp; (try go_bits); (try rw [if_pos (by omega)]); (try with_reducible rfl)⟩) (hS) ?_
          try simp only [nrm]
          refine WpT.take (i := 26) rfl (by kernel_rfl) (fun _ _ _ h => h) (.inl ⟨by rfl, fun w hSw => by clear hSw; go_simp; (try go_bits); (try rw [if_pos (by omega)]); (try with_reducible rfl)⟩) (hS) ?_
          try simp only [nrm]
          refine WpT.take (i := 27) rfl (by kernel_rfl) (fun _ _ _ h => h) (.inl ⟨by rfl, fun w hSw => by clear hSw; go_simp; (try go_bits); (try rw [if_pos (by omega)]); (try with_reducible rfl)⟩) (hS) ?_
          try simp only [nrm]
          refine WpT.take (i := 28) rfl (by kernel_rfl) (fun _ _ _ h => h) (.inr ⟨by rfl, rfl⟩) (hS) ?_
          try simp only [nrm]
          refine WpT.take (i := 29) rfl (by kernel_rfl) (fun _ _ _ h => h) (.inr ⟨by rfl, rfl⟩) (hS) ?_
          try simp only [nrm]
          refine WpT.take (i := 30) rfl (by kernel_rfl) (fun _ _ _ h => h) (.inr ⟨by rfl, rfl⟩) (hS) ?_
          try simp only [nrm]
          refine WpT.take (i := 31) rfl (by kernel_rfl) (fun _ _ _ h => h) (.inr ⟨by rfl, rfl⟩) (hS) ?_
          try simp only [nrm]
          refine WpT.take (i := 32) rfl (by kernel_rfl) (fun _ _ _ h => h) (.inr ⟨by rfl, rfl⟩) (hS) ?_
          try simp only [nrm]
          refine WpT.take (i := 33) rfl (by kernel_rfl) (fun _ _ _ h => h) (.inr ⟨by rfl, rfl⟩) (hS) ?_
          try simp only [nrm]
          refine WpT.take (i := 34) rfl (by kernel_rfl) (fun _ _ _ h => h) (.inr ⟨by rfl, rfl⟩) (hS) ?_
          try simp only [nrm]
          refine WpT.take (i := 35) rfl (by kernel_rfl) (fun _ _ _ h => h) (.inr ⟨by rfl, rfl⟩) (hS) ?_
          try simp only [nrm]
          refine WpT.take (i := 36) rfl (by kernel_rfl) (fun _ _ _ h => h) (.inr ⟨by rfl, rfl⟩) (hS) ?_
          try simp only [nrm]
          refine WpT.take (i := 37) rfl (by kernel_rfl) (fun _ _ _ h => h) (.inr ⟨by rfl, rfl⟩) (hS) ?_
          try simp only [nrm]
          refine WpT.take (i := 38) rfl (by kernel_rfl) (fun _ _ _ h => h) (.inr ⟨by rfl, rfl⟩) (hS) ?_
          try simp only [nrm]
          refine WpT.take (i := 39) rfl (by kernel_rfl) (fun _ _ _ h => h) (.inr ⟨by rfl, rfl⟩) (hS) ?_
          try simp only [nrm]
          refine WpT.take (i := 40) rfl (by kernel_rfl) (fun _ _ _ h => h) (.inr ⟨by rfl, rfl⟩) (hS) ?_
          try simp only [nrm]
          refine WpT.take (i := 41) rfl (by kernel_rfl) (fun _ _ _ h => h) (.inr ⟨by rfl, rfl⟩) (hS) ?_
          try simp only [nrm]
          refine WpT.take (i := 42) rfl (by kernel_rfl) (fun _ _ _ h => h) (.inr ⟨by rfl, rfl⟩) (hS) ?_
          try simp only [nrm]
          refine WpT.take (i := 43) rfl (by kernel_rfl) (fun _ _ _ h => h) (.inl ⟨by rfl, fun w hSw => by clear hSw; go_simp; (try go_bits); (try rw [if_pos (by omega)]); (try with_reducible rfl)⟩) (hS) ?_
          try simp only [nrm]
          refine WpT.take (i := 44) rfl (by kernel_rfl) (fun _ _ _ h => h) (.inl ⟨by rfl, fun w hSw => by clear hSw; go_simp; (try go_bits); (try rw [if_pos (by omega)]); (try with_reducible rfl)⟩) (hS) ?_
          try simp only [nrm]
          refine WpT.done (by kernel_rfl) ?_ _
          go_wp2_with fail
          exact ⟨⟨k + 1, by omega, by go_num, bstep hbw hS, HNX⟩, by simp [intOf]; omega⟩
        · obtain ⟨j, hj⟩ : ∃ j, k = j + 1 := ⟨k - 1, by omega⟩
          obtain ⟨hjl, hpe, hpw, hpc⟩ := hpv.out j hj
          subst hpe
          subst hj
          have hcp := hpc _ hb0
          clear hpc hpv hp0
          generalize l[j] = z at *
          have dk : decide ((0 : Int) < ((j + 1 : Nat) : Int)) = true := by rw [decide_eq_true_eq]; omega
          have hje : ((j + 1 : Nat) : Int) - 1 = (j : Int) := by omega
          have hjm : j < m := by omega
          have hznm := it_name hcp
          have HO := Lib.hid (fun W => HOR.out z.nm x.nm W hpw hwf)
          simp only at hv
          by_cases h3 : z.nm < x.nm
          · have d3 : decide (z.nm < x.nm) = true := by simpa using h3
            rw [d3, Bool.true_and] at hv
            have HNX := Lib.hid hv
            have dc : decide (z.nm < x.nm) = true := by simpa using h3
            rw [dc] at HO
            clear hv HV HV0 d3 h3
            go_upto_region 4 with fail
            refine wp_region_TB (S := Below (wr).heap.size (wr)) 45 (by kernel_rfl) ?_
            refine WpT.take (i := 0) rfl (by kernel_rfl) (fun _ _ _ h => h) (.inl ⟨by rfl, fun w hSw => by clear hSw; go_simp; (try go_bits); (try rw [if_pos (by omega)]); (try with_reducible rfl)⟩) (hS) ?_
            try simp only [nrm]
            refine WpT.take (i := 1) rfl (by kernel_rfl) (fun _ _ _ h => h) (yields_load rfl rfl rfl (by kernel_rfl) c0) (hS) ?_
            try simp only [nrm]
            refine WpT.take (i := 2) rfl (by kernel_rfl) (fun _ _ _ h => h) (.inl ⟨by rfl, fun w hSw => by clear hSw; go_simp; (try go_bits); (try rw [if_pos (by omega)]); (try with_reducible rfl)⟩) (hS) ?_
            try simp only [nrm]
            refine WpT.take (i := 3) rfl (by kernel_rfl) (fun _ _ _ h => h) (.inl ⟨by rfl, fun w hSw => by clear hSw; go_simp; (try go_bits); (try rw [if_pos (by omega)]); (try with_reducible rfl)⟩) (hS) ?_
            try simp only [nrm]
            refine WpT.take (i := 4) rfl (by kernel_rfl) (fun _ _ _ h => h) (.inl ⟨by rfl, fun w hSw => by clear hSw; go_simp; (try go_bits); (try rw [if_pos (by omega)]); (try with_reducible rfl)⟩) (hS) ?_
            try simp only [nrm]
            refine WpT.take (i := 5) rfl (by kernel_rfl) (fun _ _ _ h => h) (yields_load rfl rfl rfl (by kernel_rfl) ht16) (hS) ?_
            try simp only [nrm]
            refine WpT.take (i := 6) rfl (by kernel_rfl) (fun _ _ _ h => h) (.inl ⟨by rfl, fun w hSw => by clear hSw; go_simp; (try go_bits); (try rw [if_pos (by omega)]); (try with_reducible rfl)⟩) (hS) ?_
            try simp only [nrm]
            refine WpT.take (i := 7) rfl (by kernel_rfl) (fun _ _ _ h => h) (.inl ⟨by rfl, fun w hSw => by clear hSw; go_simp; (try go_bits); (try rw [if_pos (by omega)]); (try with_reducible rfl)⟩) (hS) ?_
            try simp only [nrm]
            refine WpT.take (i := 8) rfl (by kernel_rfl) (fun _ _ _ h => h) (.inl ⟨by rfl, fun w hSw => by clear hSw; go_simp; (try go_bits); (try rw [if_pos (by omega)]); (try with_reducible rfl)⟩) (hS) ?_
            try simp only [nrm]
            refine WpT.take (i := 9) rfl (by kernel_rfl) (fun _ _ _ h => h) (.inl ⟨by rfl, fun w hSw => by clear hSw; go_simp; (try go_bits); (try rw [if_pos (by omega)]); (try with_reducible rfl)⟩) (hS) ?_
            try simp only [nrm]
            refine WpT.take (i := 10) rfl (by kernel_rfl) (fun _ _ _ h => h) (yields_loadW (by rfl) rfl rfl (by kernel_rfl) c0) (hS) ?_
            try simp only [nrm]
            refine WpT.take (i := 11) rfl (by kernel_rfl) (fun _ _ _ h => h) (.inl ⟨by rfl, fun w hSw => by clear hSw; go_simp; (try go_bits); (try rw [if_pos (by omega)]); (try with_reducible rfl)⟩) (hS) ?_
            try simp only [nrm]
            refine WpT.take (i := 12) rfl (by kernel_rfl) (fun _ _ _ h => h) (.inl ⟨by rfl, fun w hSw => by clear hSw; go_simp; (try go_bits); (try rw [if_pos (by omega)]); (try with_reducible rfl)⟩) (hS) ?_
            try simp only [nrm]
            refine WpT.take (i := 13) rfl (by kernel_rfl) (fun _ _ _ h => h) (.inl ⟨by rfl, fun w hSw => by clear hSw; go_simp; (try go_bits); (try rw [if_pos (by omega)]); (try with_reducible rfl)⟩) (hS) ?_
            try simp only [nrm]
            refine WpT.take (i := 14) rfl (by kernel_rfl) (fun _ _ _ h => h) (yields_loadW (by rfl) rfl rfl (by kernel_rfl) ht16) (hS) ?_
            try simp only [nrm]
            refine WpT.take (i := 16) rfl (by kernel_rfl) (fun _ _ _ h => h) (.inl ⟨by rfl, fun w hSw => by clear hSw; go_simp; (try go_bits); (try rw [if_pos (by omega)]); (try with_reducible rfl)⟩) (hS) ?_
            try simp only [nrm]
            refine WpT.take (i := 17) rfl (by kernel_rfl) (fun _ _ _ h => h) (yields_loadW (by rfl) rfl rfl (by kernel_rfl) c0) (hS) ?_
            try simp only [nrm]
            refine WpT.take (i := 18) rfl (by kernel_rfl) (fun _ _ _ h => h) (.inl ⟨by rfl, fun w hSw => by clear hSw; go_simp; (try go_bits); (try rw [if_pos (by omega)]); (try with_reducible rfl)⟩) (hS) ?_
            try simp only [nrm]
            refine WpT.take (i := 19) rfl (by kernel_rfl) (fun _ _ _ h => h) (.inl ⟨by rfl, fun w hSw => by clear hSw; go_simp; (try go_bits); (try rw [if_pos (by omega)]); (try with_reducible rfl)⟩) (hS) ?_
            try simp only [nrm]
            refine WpT.take (i := 20) rfl (by kernel_rfl) (fun _ _ _ h => h) (.inl ⟨by rfl, fun w hSw => by clear hSw; go_simp; (try go_bits); (try rw [if_pos (by omega)]); (try with_reducible rfl)⟩) (hS) ?_
            try simp only [nrm]
            refine WpT.take (i := 21) rfl (by kernel_rfl) (fun _ _ _ h => h) (yields_loadKW (us := bv (dg x.nm)) (by rfl) rfl rfl aggDg (by rw [sizeDg, bv_dg_len]) hnm) (hS) ?_
            try simp only [nrm]
            refine WpT.one (i := 15) rfl (by kernel_rfl) (fun K hK => ?_)
            go_simp; refine (HN.out _ (HG2.out.below hS)).mono ?_; rintro e w7 ⟨rfl, hb7⟩; replace hS := bstep hS hb7
            refine hK _ _ (hS) ?_; clear hK K; try simp only [nrm]
            refine WpT.take (i := 22) rfl (by kernel_rfl) (fun _ _ _ h => h) (.inl ⟨by rfl, fun w hSw => by clear hSw; go_simp; (try go_bits); (try rw [if_pos (by omega)]); (try with_reducible rfl)⟩) (hS) ?_
            try simp only [nrm]
            refine WpT.take (i := 23) rfl (by kernel_rfl) (fun _ _ _ h => h) (.inl ⟨by rfl, fun w hSw => by clear hSw; go_simp; (try go_bits); (try rw [if_pos (by omega)]); (try with_reducible rfl)⟩) (hS) ?_
            try simp only [nrm]
            refine WpT.take (i := 24) rfl (by kernel_rfl) (fun _ _ _ h => h) (.inl ⟨by rfl, fun w hSw => by clear hSw; go_simp; (try go_bits); (try rw [if_pos (by omega)]); (try with_reducible rfl)⟩) (hS) ?_
            try simp only [nrm]
            refine WpT.take (i := 25) rfl (by kernel_rfl) (fun _ _ _ h => h) (.inl ⟨by rfl, fun w hSw => by clear hSw; go_simp; (try go_bits); (try rw [if_pos (by omega)]); (try with_reducible rfl)⟩) (hS) ?_
            try simp only [nrm]
            refine WpT.take (i := 26) rfl (by kernel_rfl) (fun _ _ _ h => h) (.inl ⟨by rfl, fun w hSw => by clear hSw; go_simp; (try go_bits); (try rw [if_pos (by omega)]); (try with_reducible rfl)⟩) (hS) ?_
            try simp only [nrm]
            refine WpT.take (i := 27) rfl (by kernel_rfl) (fun _ _ _ h => h) (.inl ⟨by rfl, fun w hSw => by clear hSw; go_simp; (try go_bits); (try rw [if_pos (by omega)]); (try with_reducible rfl)⟩) (hS) ?_
            try simp only [nrm]
            refine WpT.take (i := 28) rfl (by kernel_rfl) (fun _ _ _ h => h) (.inl ⟨by rfl, fun w hSw => by clear hSw; go_simp; (try go_bits); (try rw [if_pos (by omega)]); (try with_reducible rfl)⟩) (hS) ?_
            try simp only [nrm]
            refine WpT.take (i := 29) rfl (by kernel_rfl) (fun _ _ _ h => h) (yields_loadW (by rfl) rfl rfl (by kernel_rfl) c0) (hS) ?_
            try simp only [nrm]
            refine WpT.take (i := 30) rfl (by kernel_rfl) (fun _ _ _ h => h) (.inl ⟨by rfl, fun w hSw => by clear hSw; go_simp; (try go_bits); (try rw [if_pos (by omega)]); (try with_reducible rfl)⟩) (hS) ?_
            try simp only [nrm]
            refine WpT.take (i := 31) rfl (by kernel_rfl) (fun _ _ _ h => h) (.inl ⟨by rfl, fun w hSw => by clear hSw; go_simp; (try go_bits); (try rw [if_pos (by omega)]); (try with_reducible rfl)⟩) (hS) ?_
            try simp only [nrm]
            refine WpT.take (i := 32) rfl (by kernel_rfl) (fun _ _ _ h => h) (.inl ⟨by rfl, fun w hSw => by clear hSw; go_simp; (try go_bits); (try rw [if_pos (by omega)]); (try with_reducible rfl)⟩) (hS) ?_
            try simp only [nrm]
            refine WpT.take (i := 33) rfl (by kernel_rfl) (fun _ _ _ h => h) (.inl ⟨by rfl, fun w hSw => by clear hSw; go_simp; (try go_bits); (try rw [if_pos (by omega)]); (try with_reducible rfl)⟩) (hS) ?_
            try simp only [nrm]
            refine WpT.take (i := 34) rfl (by kernel_rfl) (fun _ _ _ h => h) (yields_loadKW (us := bv (dg z.nm)) (by rfl) rfl rfl aggDg (by rw [sizeDg, bv_dg_len]) hznm) (hS) ?_
            try simp only [nrm]
            refine WpT.take (i := 35) rfl (by kernel_rfl) (fun _ _ _ h => h) (.inl ⟨by rfl, fun w hSw => by clear hSw; go_simp; (try go_bits); (try rw [if_pos (by omega)]); (try with_reducible rfl)⟩) (hS) ?_
            try simp only [nrm]
            refine WpT.take (i := 36) rfl (by kernel_rfl) (fun _ _ _ h => h) (yields_loadW (by rfl) rfl rfl (by kernel_rfl) c0) (hS) ?_
            try simp only [nrm]
            refine WpT.take (i := 37) rfl (by kernel_rfl) (fun _ _ _ h => h) (.inl ⟨by rfl, fun w hSw => by clear hSw; go_simp; (try go_bits); (try rw [if_pos (by omega)]); (try with_reducible rfl)⟩) (hS) ?_
            try simp only [nrm]
            refine WpT.take (i := 38) rfl (by kernel_rfl) (fun _ _ _ h => h) (.inl ⟨by rfl, fun w hSw => by clear hSw; go_simp; (try go_bits); (try rw [if_pos (by omega)]); (try with_reducible rfl)⟩) (hS) ?_
            try simp only [nrm]
            refine WpT.take (i := 39) rfl (by kernel_rfl) (fun _ _ _ h => h) (.inl ⟨by rfl, fun w hSw => by clear hSw; go_simp; (try go_bits); (try rw [if_pos (by omega)]); (try with_reducible rfl)⟩) (hS) ?_
            try simp only [nrm]
            refine WpT.take (i := 40) rfl (by kernel_rfl) (fun _ _ _ h => h) (yields_loadKW (us := bv (dg x.nm)) (by rfl) rfl rfl aggDg (by rw [sizeDg, bv_dg_len]) hnm) (hS) ?_
            try simp only [nrm]
            refine WpT.one (i := 41) rfl (by kernel_rfl) (fun K hK => ?_)
            go_simp; refine (HO.out _).mono ?_; rintro e w8 ⟨rfl, hb8⟩; replace hS := bstep hS hb8
            refine hK _ _ (hS) ?_; clear hK K; try simp only [nrm]
            refine WpT.take (i := 42) rfl (by kernel_rfl) (fun _ _ _ h => h) (.inl ⟨by rfl, fun w hSw => by clear hSw; go_simp; (try go_bits); (try rw [if_pos (by omega)]); (try with_reducible rfl)⟩) (hS) ?_
            try simp only [nrm]
            refine WpT.take (i := 43) rfl (by kernel_rfl) (fun _ _ _ h => h) (.inl ⟨by rfl, fun w hSw => by clear hSw; go_simp; (try go_bits); (try rw [if_pos (by omega)]); (try with_reducible rfl)⟩) (hS) ?_
            try simp only [nrm]
            refine WpT.take (i := 44) rfl (by kernel_rfl) (fun _ _ _ h => h) (.inl ⟨by rfl, fun w hSw => by clear hSw; go_simp; (try go_bits); (try rw [if_pos (by omega)]); (try with_reducible rfl)⟩) (hS) ?_
            try simp only [nrm]
            refine WpT.done (by kernel_rfl) ?_ _
            go_wp2_with fail
            exact ⟨⟨j + 1 + 1, by omega, by go_num, bstep hbw hS, HNX⟩, by simp [intOf]; omega⟩
          · have d3 : decide (z.nm < x.nm) = false := by simpa using h3
            rw [d3, Bool.false_and, Bool.false_and] at hv
            subst hv
            have dc : decide (z.nm < x.nm) = false := by simpa using h3
            rw [dc] at HO
            clear HV HV0 d3 h3
            go_upto_region 4 with fail
            refine wp_region_TB (S := Below (wr).heap.size (wr)) 45 (by kernel_rfl) ?_
            refine WpT.take (i := 0) rfl (by kernel_rfl) (fun _ _ _ h => h) (.inl ⟨by rfl, fun w hSw => by clear hSw; go_simp; (try go_bits); (try rw [if_pos (by omega)]); (try with_reducible rfl)⟩) (hS) ?_
            try simp only [nrm]
            refine WpT.take (i := 1) rfl (by kernel_rfl) (fun _ _ _ h => h) (yields_load rfl rfl rfl (by kernel_rfl) c0) (hS) ?_
            try simp only [nrm]
            refine WpT.take (i := 2) rfl (by kernel_rfl) (fun _ _ _ h => h) (.inl ⟨by rfl, fun w hSw => by clear hSw; go_simp; (try go_bits); (try rw [if_pos (by omega)]); (try with_reducible rfl)⟩) (hS) ?_
            try simp only [nrm]
            refine WpT.take (i := 3) rfl (by kernel_rfl) (fun _ _ _ h => h) (.inl ⟨by rfl, fun w hSw => by clear hSw; go_simp; (try go_bits); (try rw [if_pos (by omega)]); (try with_reducible rfl)⟩) (hS) ?_
            try simp only [nrm]
            refine WpT.take (i := 4) rfl (by kernel_rfl) (fun _ _ _ h => h) (.inl ⟨by rfl, fun w hSw => by clear hSw; go_simp; (try go_bits); (try rw [if_pos (by omega)]); (try with_reducible rfl)⟩) (hS) ?_
            try simp only [nrm]
            refine WpT.take (i := 5) rfl (by kernel_rfl) (fun _ _ _ h => h) (yields_load rfl rfl rfl (by kernel_rfl) ht16) (hS) ?_
            try simp only [nrm]
            refine WpT.take (i := 6) rfl (by kernel_rfl) (fun _ _ _ h => h) (.inl ⟨by rfl, fun w hSw => by clear hSw; go_simp; (try go_bits); (try rw [if_pos (by omega)]); (try with_reducible rfl)⟩) (hS) ?_
            try simp only [nrm]
            refine WpT.take (i := 7) rfl (by kernel_rfl) (fun _ _ _ h => h) (.inl ⟨by rfl, fun w hSw => by clear hSw; go_simp; (try go_bits); (try rw [if_pos (by omega)]); (try with_reducible rfl)⟩) (hS) ?_
            try simp only [nrm]
            refine WpT.take (i := 8) rfl (by kernel_rfl) (fun _ _ _ h => h) (.inl ⟨by rfl, fun w hSw => by clear hSw; go_simp; (try go_bits); (try rw [if_pos (by omega)]); (try with_reducible rfl)⟩) (hS) ?_
            try simp only [nrm]
            refine WpT.take (i := 9) rfl (by kernel_rfl) (fun _ _ _ h => h) (.inl ⟨by rfl, fun w hSw => by clear hSw; go_simp; (try go_bits); (try rw [if_pos (by omega)]); (try with_reducible rfl)⟩) (hS) ?_
            try simp only [nrm]
            refine WpT.take (i := 10) rfl (by kernel_rfl) (fun _ _ _ h => h) (yields_loadW (by rfl) rfl rfl (by kernel_rfl) c0) (hS) ?_
            try simp only [nrm]
            refine WpT.take (i := 11) rfl (by kernel_rfl) (fun _ _ _ h => h) (.inl ⟨by rfl, fun w hSw => by clear hSw; go_simp; (try go_bits); (try rw [if_pos (by omega)]); (try with_reducible rfl)⟩) (hS) ?_
            try simp only [nrm]
            refine WpT.take (i := 12) rfl (by kernel_rfl) (fun _ _ _ h => h) (.inl ⟨by rfl, fun w hSw => by clear hSw; go_simp; (try go_bits); (try rw [if_pos (by omega)]); (try with_reducible rfl)⟩) (hS) ?_
            try simp only [nrm]
            refine WpT.take (i := 13) rfl (by kernel_rfl) (fun _ _ _ h => h) (.inl ⟨by rfl, fun w hSw => by clear hSw; go_simp; (try go_bits); (try rw [if_pos (by omega)]); (try with_reducible rfl)⟩) (hS) ?_
            try simp only [nrm]
            refine WpT.take (i := 14) rfl (by kernel_rfl) (fun _ _ _ h => h) (yields_loadW (by rfl) rfl rfl (by kernel_rfl) ht16) (hS) ?_
            try simp only [nrm]
            refine WpT.take (i := 16) rfl (by kernel_rfl) (fun _ _ _ h => h) (.inl ⟨by rfl, fun w hSw => by clear hSw; go_simp; (try go_bits); (try rw [if_pos (by omega)]); (try with_reducible rfl)⟩) (hS) ?_
            try simp only [nrm]
            refine WpT.take (i := 17) rfl (by kernel_rfl) (fun _ _ _ h => h) (yields_loadW (by rfl) rfl rfl (by kernel_rfl) c0) (hS) ?_
            try simp only [nrm]
            refine WpT.take (i := 18) rfl (by kernel_rfl) (fun _ _ _ h => h) (.inl ⟨by rfl, fun w hSw => by clear hSw; go_simp; (try go_bits); (try rw [if_pos (by omega)]); (try with_reducible rfl)⟩) (hS) ?_
            try simp only [nrm]
            refine WpT.take (i := 19) rfl (by kernel_rfl) (fun _ _ _ h => h) (.inl ⟨by rfl, fun w hSw => by clear hSw; go_simp; (try go_bits); (try rw [if_pos (by omega)]); (try with_reducible rfl)⟩) (hS) ?_
            try simp only [nrm]
            refine WpT.take (i := 20) rfl (by kernel_rfl) (fun _ _ _ h => h) (.inl ⟨by rfl, fun w hSw => by clear hSw; go_simp; (try go_bits); (try rw [if_pos (by omega)]); (try with_reducible rfl)⟩) (hS) ?_
            try simp only [nrm]
            refine WpT.take (i := 21) rfl (by kernel_rfl) (fun _ _ _ h => h) (yields_loadKW (us := bv (dg x.nm)) (by rfl) rfl rfl aggDg (by rw [sizeDg, bv_dg_len]) hnm) (hS) ?_
            try simp only [nrm]
            refine WpT.one (i := 15) rfl (by kernel_rfl) (fun K hK => ?_)
            go_simp; refine (HN.out _ (HG2.out.below hS)).mono ?_; rintro e w7 ⟨rfl, hb7⟩; replace hS := bstep hS hb7
            refine hK _ _ (hS) ?_; clear hK K; try simp only [nrm]
            refine WpT.take (i := 22) rfl (by kernel_rfl) (fun _ _ _ h => h) (.inl ⟨by rfl, fun w hSw => by clear hSw; go_simp; (try go_bits); (try rw [if_pos (by omega)]); (try with_reducible rfl)⟩) (hS) ?_
            try simp only [nrm]
            refine WpT.take (i := 23) rfl (by kernel_rfl) (fun _ _ _ h => h) (.inl ⟨by rfl, fun w hSw => by clear hSw; go_simp; (try go_bits); (try rw [if_pos (by omega)]); (try with_reducible rfl)⟩) (hS) ?_
            try simp only [nrm]
            refine WpT.take (i := 24) rfl (by kernel_rfl) (fun _ _ _ h => h) (.inl ⟨by rfl, fun w hSw => by clear hSw; go_simp; (try go_bits); (try rw [if_pos (by omega)]); (try with_reducible rfl)⟩) (hS) ?_
            try simp only [nrm]
            refine WpT.take (i := 25) rfl (by kernel_rfl) (fun _ _ _ h => h) (.inl ⟨by rfl, fun w hSw => by clear hSw; go_simp; (try go_bits); (try rw [if_pos (by omega)]); (try with_reducible rfl)⟩) (hS) ?_
            try simp only [nrm]
            refine WpT.take (i := 26) rfl (by kernel_rfl) (fun _ _ _ h => h) (.inl ⟨by rfl, fun w hSw => by clear hSw; go_simp; (try go_bits); (try rw [if_pos (by omega)]); (try with_reducible rfl)⟩) (hS) ?_
            try simp only [nrm]
            refine WpT.take (i := 27) rfl (by kernel_rfl) (fun _ _ _ h => h) (.inl ⟨by rfl, fun w hSw => by clear hSw; go_simp; (try go_bits); (try rw [if_pos (by omega)]); (try with_reducible rfl)⟩) (hS) ?_
            try simp only [nrm]
            refine WpT.take (i := 28) rfl (by kernel_rfl) (fun _ _ _ h => h) (.inl ⟨by rfl, fun w hSw => by clear hSw; go_simp; (try go_bits); (try rw [if_pos (by omega)]); (try with_reducible rfl)⟩) (hS) ?_
            try simp only [nrm]
            refine WpT.take (i := 29) rfl (by kernel_rfl) (fun _ _ _ h => h) (yields_loadW (by rfl) rfl rfl (by kernel_rfl) c0) (hS) ?_
            try simp only [nrm]
            refine WpT.take (i := 30) rfl (by kernel_rfl) (fun _ _ _ h => h) (.inl ⟨by rfl, fun w hSw => by clear hSw; go_simp; (try go_bits); (try rw [if_pos (by omega)]); (try with_reducible rfl)⟩) (hS) ?_
            try simp only [nrm]
            refine WpT.take (i := 31) rfl (by kernel_rfl) (fun _ _ _ h => h) (.inl ⟨by rfl, fun w hSw => by clear hSw; go_simp; (try go_bits); (try rw [if_pos (by omega)]); (try with_reducible rfl)⟩) (hS) ?_
            try simp only [nrm]
            refine WpT.take (i := 32) rfl (by kernel_rfl) (fun _ _ _ h => h) (.inl ⟨by rfl, fun w hSw => by clear hSw; go_simp; (try go_bits); (try rw [if_pos (by omega)]); (try with_reducible rfl)⟩) (hS) ?_
            try simp only [nrm]
            refine WpT.take (i := 33) rfl (by kernel_rfl) (fun _ _ _ h => h) (.inl ⟨by rfl, fun w hSw => by clear hSw; go_simp; (try go_bits); (try rw [if_pos (by omega)]); (try with_reducible rfl)⟩) (hS) ?_
            try simp only [nrm]
            refine WpT.take (i := 34) rfl (by kernel_rfl) (fun _ _ _ h => h) (yields_loadKW (us := bv (dg z.nm)) (by rfl) rfl rfl aggDg (by rw [sizeDg, bv_dg_len]) hznm) (hS) ?_
            try simp only [nrm]
            refine WpT.take (i := 35) rfl (by kernel_rfl) (fun _ _ _ h => h) (.inl ⟨by rfl, fun w hSw => by clear hSw; go_simp; (try go_bits); (try rw [if_pos (by omega)]); (try with_reducible rfl)⟩) (hS) ?_
            try simp only [nrm]
            refine WpT.take (i := 36) rfl (by kernel_rfl) (fun _ _ _ h => h) (yields_loadW (by rfl) rfl rfl (by kernel_rfl) c0) (hS) ?_
            try simp only [nrm]
            refine WpT.take (i := 37) rfl (by kernel_rfl) (fun _ _ _ h => h) (.inl ⟨by rfl, fun w hSw => by clear hSw; go_simp; (try go_bits); (try rw [if_pos (by omega)]); (try with_reducible rfl)⟩) (hS) ?_
            try simp only [nrm]
            refine WpT.take (i := 38) rfl (by kernel_rfl) (fun _ _ _ h => h) (.inl ⟨by rfl, fun w hSw => by clear hSw; go_simp; (try go_bits); (try rw [if_pos (by omega)]); (try with_reducible rfl)⟩) (hS) ?_
            try simp only [nrm]
            refine WpT.take (i := 39) rfl (by kernel_rfl) (fun _ _ _ h => h) (.inl ⟨by rfl, fun w hSw => by clear hSw; go_simp; (try go_bits); (try rw [if_pos (by omega)]); (try with_reducible rfl)⟩) (hS) ?_
            try simp only [nrm]
            refine WpT.take (i := 40) rfl (by kernel_rfl) (fun _ _ _ h => h) (yields_loadKW (us := bv (dg x.nm)) (by rfl) rfl rfl aggDg (by rw [sizeDg, bv_dg_len]) hnm) (hS) ?_
            try simp only [nrm]
            refine WpT.one (i := 41) rfl (by kernel_rfl) (fun K hK => ?_)
            go_simp; refine (HO.out _).mono ?_; rintro e w8 ⟨rfl, hb8⟩; replace hS := bstep hS hb8
            refine hK _ _ (hS) ?_; clear hK K; try simp only [nrm]
            refine WpT.take (i := 42) rfl (by kernel_rfl) (fun _ _ _ h => h) (.inl ⟨by rfl, fun w hSw => by clear hSw; go_simp; (try go_bits); (try rw [if_pos (by omega)]); (try with_reducible rfl)⟩) (hS) ?_
            try simp only [nrm]
            refine WpT.take (i := 43) rfl (by kernel_rfl) (fun _ _ _ h => h) (.inl ⟨by rfl, fun w hSw => by clear hSw; go_simp; (try go_bits); (try rw [if_pos (by omega)]); (try with_reducible rfl)⟩) (hS) ?_
            try simp only [nrm]
            refine WpT.take (i := 44) rfl (by kernel_rfl) (fun _ _ _ h => h) (.inl ⟨by rfl, fun w hSw => by clear hSw; go_simp; (try go_bits); (try rw [if_pos (by omega)]); (try with_reducible rfl)⟩) (hS) ?_
            try simp only [nrm]
            refine WpT.done (by kernel_rfl) ?_ _
            go_wp2_with fail
            go_ret
            exact ⟨rfl, bstep hb0 hS⟩
      · have d2 : decide (nameOf x.tx = x.nm) = false := by simpa using fun e => h2 (Eq.symm e)
        have d2' : decide (x.nm = nameOf x.tx) = false := by simpa using h2
        rw [d2] at hne
        rw [d2', Bool.false_and, Bool.false_and, Bool.false_and] at hv
        subst hv
        clear d2 d2' h2 HV HV0 hpv hp0
        generalize nameOf x.tx = M at *
        go_upto_region 4 with fail
        refine wp_region_TB (S := Below (wr).heap.size (wr)) 45 (by kernel_rfl) ?_
        refine WpT.take (i := 0) rfl (by kernel_rfl) (fun _ _ _ h => h) (.inl ⟨by rfl, fun w hSw => by clear hSw; go_simp; (try go_bits); (try rw [if_pos (by omega)]); (try with_reducible rfl)⟩) (hS) ?_
        try simp only [nrm]
        refine WpT.take (i := 1) rfl (by kernel_rfl) (fun _ _ _ h => h) (yields_load rfl rfl rfl (by kernel_rfl) c0) (hS) ?_
        try simp only [nrm]
        refine WpT.take (i := 2) rfl (by kernel_rfl) (fun _ _ _ h => h) (.inl ⟨by rfl, fun w hSw => by clear hSw; go_simp; (try go_bits); (try rw [if_pos (by omega)]); (try with_reducible rfl)⟩) (hS) ?_
        try simp only [nrm]
        refine WpT.take (i := 3) rfl (by kernel_rfl) (fun _ _ _ h => h) (.inl ⟨by rfl, fun w hSw => by clear hSw; go_simp; (try go_bits); (try rw [if_pos (by omega)]); (try with_reducible rfl)⟩) (hS) ?_
        try simp only [nrm]
        refine WpT.take (i := 4) rfl (by kernel_rfl) (fun _ _ _ h => h) (.inl ⟨by rfl, fun w hSw => by clear hSw; go_simp; (try go_bits); (try rw [if_pos (by omega)]); (try with_reducible rfl)⟩) (hS) ?_
        try simp only [nrm]
        refine WpT.take (i := 5) rfl (by kernel_rfl) (fun _ _ _ h => h) (yields_load rfl rfl rfl (by kernel_rfl) ht16) (hS) ?_
        try simp only [nrm]
        refine WpT.take (i := 6) rfl (by kernel_rfl) (fun _ _ _ h => h) (.inl ⟨by rfl, fun w hSw => by clear hSw; go_simp; (try go_bits); (try rw [if_pos (by omega)]); (try with_reducible rfl)⟩) (hS) ?_
        try simp only [nrm]
        refine WpT.take (i := 7) rfl (by kernel_rfl) (fun _ _ _ h => h) (.inl ⟨by rfl, fun w hSw => by clear hSw; go_simp; (try go_bits); (try rw [if_pos (by omega)]); (try with_reducible rfl)⟩) (hS) ?_
        try simp only [nrm]
        refine WpT.take (i := 8) rfl (by kernel_rfl) (fun _ _ _ h => h) (.inl ⟨by rfl, fun w hSw => by clear hSw; go_simp; (try go_bits); (try rw [if_pos (by omega)]); (try with_reducible rfl)⟩) (hS) ?_
        try simp only [nrm]
        refine WpT.take (i := 9) rfl (by kernel_rfl) (fun _ _ _ h => h) (.inl ⟨by rfl, fun w hSw => by clear hSw; go_simp; (try go_bits); (try rw [if_pos (by omega)]); (try with_reducible rfl)⟩) (hS) ?_
        try simp only [nrm]
        refine WpT.take (i := 10) rfl (by kernel_rfl) (fun _ _ _ h => h) (yields_loadW (by rfl) rfl rfl (by kernel_rfl) c0) (hS) ?_
        try simp only [nrm]
        refine WpT.take (i := 11) rfl (by kernel_rfl) (fun _ _ _ h => h) (.inl ⟨by rfl, fun w hSw => by clear hSw; go_simp; (try go_bits); (try rw [if_pos (by omega)]); (try with_reducible rfl)⟩) (hS) ?_
        try simp only [nrm]
        refine WpT.take (i := 12) rfl (by kernel_rfl) (fun _ _ _ h => h) (.inl ⟨by rfl, fun w hSw => by clear hSw; go_simp; (try go_bits); (try rw [if_pos (by omega)]); (try with_reducible rfl)⟩) (hS) ?_
        try simp only [nrm]
        refine WpT.take (i := 13) rfl (by kernel_rfl) (fun _ _ _ h => h) (.inl ⟨by rfl, fun w hSw => by clear hSw; go_simp; (try go_bits); (try rw [if_pos (by omega)]); (try with_reducible rfl)⟩) (hS) ?_
        try simp only [nrm]
        refine WpT.take (i := 14) rfl (by kernel_rfl) (fun _ _ _ h => h) (yields_loadW (by rfl) rfl rfl (by kernel_rfl) ht16) (hS) ?_
        try simp only [nrm]
        refine WpT.take (i := 16) rfl (by kernel_rfl) (fun _ _ _ h => h) (.inl ⟨by rfl, fun w hSw => by clear hSw; go_simp; (try go_bits); (try rw [if_pos (by omega)]); (try with_reducible rfl)⟩) (hS) ?_
        try simp only [nrm]
        refine WpT.take (i := 17) rfl (by kernel_rfl) (fun _ _ _ h => h) (yields_loadW (by rfl) rfl rfl (by kernel_rfl) c0) (hS) ?_
        try simp only [nrm]
        refine WpT.take (i := 18) rfl (by kernel_rfl) (fun _ _ _ h => h) (.inl ⟨by rfl, fun w hSw => by clear hSw; go_simp; (try go_bits); (try rw [if_pos (by omega)]); (try with_reducible rfl)⟩) (hS) ?_
        try simp only [nrm]
        refine WpT.take (i := 19) rfl (by kernel_rfl) (fun _ _ _ h => h) (.inl ⟨by rfl, fun w hSw => by clear hSw; go_simp; (try go_bits); (try rw [if_pos (by omega)]); (try with_reducible rfl)⟩) (hS) ?_
        try simp only [nrm]
        refine WpT.take (i := 20) rfl (by kernel_rfl) (fun _ _ _ h => h) (.inl ⟨by rfl, fun w hSw => by clear hSw; go_simp; (try go_bits); (try rw [if_pos (by omega)]); (try with_reducible rfl)⟩) (hS) ?_
        try simp only [nrm]
        refine WpT.take (i := 21) rfl (by kernel_rfl) (fun _ _ _ h => h) (yields_loadKW (us := bv (dg x.nm)) (by rfl) rfl rfl aggDg (by rw [sizeDg, bv_dg_len]) hnm) (hS) ?_
        try simp only [nrm]
        refine WpT.one (i := 15) rfl (by kernel_rfl) (fun K hK => ?_)
        go_simp; refine (HN.out _ (HG2.out.below hS)).mono ?_; rintro e w7 ⟨rfl, hb7⟩; replace hS := bstep hS hb7
        refine hK _ _ (hS) ?_; clear hK K; try simp only [nrm]
        refine WpT.take (i := 22) rfl (by kernel_rfl) (fun _ _ _ h => h) (.inl ⟨by rfl, fun w hSw => by clear hSw; go_simp; (try go_bits); (try rw [if_pos (by omega)]); (try with_reducible rfl)⟩) (hS) ?_
        try simp only [nrm]
        refine WpT.take (i := 23) rfl (by kernel_rfl) (fun _ _ _ h => h) (.inl ⟨by rfl, fun w hSw => by clear hSw; go_simp; (try go_bits); (try rw [if_pos (by omega)]); (try with_reducible rfl)⟩) (hS) ?_
        try simp only [nrm]
        refine WpT.take (i := 24) rfl (by kernel_rfl) (fun _ _ _ h => h) (.inl ⟨by rfl, fun w hSw => by clear hSw; go_simp; (try go_bits); (try rw [if_pos (by omega)]); (try with_reducible rfl)⟩) (hS) ?_
        try simp only [nrm]
        refine WpT.take (i := 25) rfl (by kernel_rfl) (fun _ _ _ h => h) (.inr ⟨by rfl, rfl⟩) (hS) ?_
        try simp only [nrm]
        refine WpT.take (i := 26) rfl (by kernel_rfl) (fun _ _ _ h => h) (.inr ⟨by rfl, rfl⟩) (hS) ?_
        try simp only [nrm]
        refine WpT.take (i := 27) rfl (by kernel_rfl) (fun _ _ _ h => h) (.inr ⟨by rfl, rfl⟩) (hS) ?_
        try simp only [nrm]
        refine WpT.take (i := 28) rfl (by kernel_rfl) (fun _ _ _ h => h) (.inr ⟨by rfl, rfl⟩) (hS) ?_
        try simp only [nrm]
        refine WpT.take (i := 29) rfl (by kernel_rfl) (fun _ _ _ h => h) (.inr ⟨by rfl, rfl⟩) (hS) ?_
        try simp only [nrm]
        refine WpT.take (i := 30) rfl (by kernel_rfl) (fun _ _ _ h => h) (.inr ⟨by rfl, rfl⟩) (hS) ?_
        try simp only [nrm]
        refine WpT.take (i := 31) rfl (by kernel_rfl) (fun _ _ _ h => h) (.inr ⟨by rfl, rfl⟩) (hS) ?_
        try simp only [nrm]
        refine WpT.take (i := 32) rfl (by kernel_rfl) (fun _ _ _ h => h) (.inr ⟨by rfl, rfl⟩) (hS) ?_
        try simp only [nrm]
        refine WpT.take (i := 33) rfl (by kernel_rfl) (fun _ _ _ h => h) (.inr ⟨by rfl, rfl⟩) (hS) ?_
        try simp only [nrm]
        refine WpT.take (i := 34) rfl (by kernel_rfl) (fun _ _ _ h => h) (.inr ⟨by rfl, rfl⟩) (hS) ?_
        try simp only [nrm]
        refine WpT.take (i := 35) rfl (by kernel_rfl) (fun _ _ _ h => h) (.inr ⟨by rfl, rfl⟩) (hS) ?_
        try simp only [nrm]
        refine WpT.take (i := 36) rfl (by kernel_rfl) (fun _ _ _ h => h) (.inr ⟨by rfl, rfl⟩) (hS) ?_
        try simp only [nrm]
        refine WpT.take (i := 37) rfl (by kernel_rfl) (fun _ _ _ h => h) (.inr ⟨by rfl, rfl⟩) (hS) ?_
        try simp only [nrm]
        refine WpT.take (i := 38) rfl (by kernel_rfl) (fun _ _ _ h => h) (.inr ⟨by rfl, rfl⟩) (hS) ?_
        try simp only [nrm]
        refine WpT.take (i := 39) rfl (by kernel_rfl) (fun _ _ _ h => h) (.inr ⟨by rfl, rfl⟩) (hS) ?_
        try simp only [nrm]
        refine WpT.take (i := 40) rfl (by kernel_rfl) (fun _ _ _ h => h) (.inr ⟨by rfl, rfl⟩) (hS) ?_
        try simp only [nrm]
        refine WpT.take (i := 41) rfl (by kernel_rfl) (fun _ _ _ h => h) (.inr ⟨by rfl, rfl⟩) (hS) ?_
        try simp only [nrm]
        refine WpT.take (i := 42) rfl (by kernel_rfl) (fun _ _ _ h => h) (.inr ⟨by rfl, rfl⟩) (hS) ?_
        try simp only [nrm]
        refine WpT.take (i := 43) rfl (by kernel_rfl) (fun _ _ _ h => h) (.inr ⟨by rfl, rfl⟩) (hS) ?_
        try simp only [nrm]
        refine WpT.take (i := 44) rfl (by kernel_rfl) (fun _ _ _ h => h) (.inl ⟨by rfl, fun w hSw => by clear hSw; go_simp; (try go_bits); (try rw [if_pos (by omega)]); (try with_reducible rfl)⟩) (hS) ?_
        try simp only [nrm]
        refine WpT.done (by kernel_rfl) ?_ _
        go_wp2_with fail
        go_ret
        exact ⟨rfl, bstep hb0 hS⟩
    · obtain rfl : k = m := by omega
      have hv := HV.out
      rw [List.drop_of_length_le (by have := HL.out; omega), chain_nil, Bool.true_and] at hv
      have HVV := Lib.hid hv
      have hd : decide ((k : Int) ≤ 65536) = decide (k ≤ 65536) := by rw [Bool.eq_iff_iff]; simp only [decide_eq_true_eq]; omega
      clear hv HV HV0
      go_wp2_with fail
      go_ret
      exact ⟨by rw [HVV.out]; try rw [← hd]; rfl, hb0⟩
end Go.Proofs.YtieamjjnofelcaaDoor
