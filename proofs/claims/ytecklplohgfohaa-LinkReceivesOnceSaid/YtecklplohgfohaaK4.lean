/-
  The law LinkReceivesOnce, walked. Conditions: none.
-/
import Derived.Test.YtecklplohgfohaaSl
namespace Go.Proofs.Ytecklplohgfohaa
set_option linter.unusedSimpArgs false
set_option linter.unusedVariables false
open Go.RowKit Link
theorem insF_mem {l : List Fr} {f x : Fr} (h : x ∈ insF l f) : x = f ∨ x ∈ l := mem_insF h
theorem wf_int {x : Int} (h0 : 0 ≤ x) (h1 : x ≤ 2199023255552) : (Lit.int .i64 x).wf = true := by
  show (decide (IntKind.i64.min ≤ x) && decide (x ≤ IntKind.i64.max)) = true
  have h2 : IntKind.i64.min = -9223372036854775808 := rfl
  have h3 : IntKind.i64.max = 9223372036854775807 := rfl
  rw [h2, h3]
  simp only [Bool.and_eq_true, decide_eq_true_eq]
  omega
theorem recvI_wf {i : Ib} {f : Fr} (hi : WfI i) (hf : WfF f) (hv : validIn i = true) : WfI (recvI i f).1 := by
  have h2 := validIn_facts (recvI_valid (f := f) hv)
  refine ⟨wf_int h2.1.1 h2.1.2, fun x hx => ?_⟩
  clear h2
  unfold recvI at hx
  split at hx
  · split at hx
    · exact hi.ahead x hx
    · split at hx
      · split at hx
        · rcases mem_insF hx with rfl | hx
          · exact hf
          · exact hi.ahead x hx
        · exact hi.ahead x hx
      · exact hi.ahead x ((rel_mem).2 x hx)
  · exact hi.ahead x hx
theorem recvI_no {i : Ib} {f : Fr} (h : (recvI i f).2.2 ≠ 0) : recvI i f = (i, [], 1) := by
  unfold recvI at h ⊢
  split
  · rename_i hc
    rw [if_pos hc] at h
    exfalso
    apply h
    split
    · rfl
    · split <;> rfl
  · rfl
set_option maxRecDepth 20000 in
set_option maxHeartbeats 8000000 in
theorem walkLinkReceivesOnce (i : Ib) (A : Option Addr) (n c : Nat) (f : Fr) (w : World) (hr : RdI w i A n c) (hi : WfI i) (hf : WfF f) :
    Calls Try.prog 4 #[ibV i A n c, frV f] w fun e w' => e = .returned (.bool true) ∧ Below w.heap.size w w' := by
  have HS := Lib.hid (fun W => sanity_any W)
  have hbs : f.body.size ≤ 9223372036854775807 := by have := hf.body; unfold maxLen at this; omega
  obtain ⟨wa, hwa, hb0, q0, q1⟩ : ∃ wa : World, wa = (w.alloc (.cells (ibC i A n c) 47)).alloc (.cells (frC f) 49) ∧ Below w.heap.size w wa ∧ Blk wa w.heap.size 47 (ibC i A n c) ∧ Blk wa (w.heap.size + 1) 49 (frC f) :=
    ⟨_, rfl, ((Below.refl w.heap.size w).alloc (Nat.le_refl _) _).alloc (by simp) _, (Blk.new _ _ _).alloc _, Blk.new2 _ _ _ _⟩
  have HWA := Lib.hid hwa
  clear hwa
  have HL := Lib.hid hr.rd.len
  have HR := Lib.hid hr
  have hnc := hr.nc
  have hcm : c ≤ 9223372036854775807 := hr.cm
  obtain ⟨c0, c1⟩ := q0.ib
  obtain ⟨e0, e1, e2⟩ := q1.fr
  by_cases h1 : 64 < n
  · have d1 : decide ((64 : Int) < n) = true := by simp; omega
    clear h1
    go_enter Try.func4, Try.ntmps4
    go_upto_region 1 with (fail)
    change Code.wp _ _ _ _ ((w.alloc (.cells (ibC i A n c) 47)).alloc (.cells (frC f) 49))
    rw [← HWA.out]
    go_wp2_with fail
    refine (HS.out _).mono ?_
    rintro e w9 ⟨rfl, hb⟩
    go_wp2_with fail
    go_ret
    exact ⟨rfl, bstep hb0 hb⟩
  have d1 : decide ((64 : Int) < n) = false := by simp; omega
  by_cases h2 : 100 < f.body.size
  · have d2 : decide ((100 : Int) < f.body.size) = true := by simp; omega
    clear h1 h2
    go_enter Try.func4, Try.ntmps4
    go_upto_region 1 with (fail)
    change Code.wp _ _ _ _ ((w.alloc (.cells (ibC i A n c) 47)).alloc (.cells (frC f) 49))
    rw [← HWA.out]
    go_wp2_with fail
    refine (HS.out _).mono ?_
    rintro e w9 ⟨rfl, hb⟩
    go_wp2_with fail
    go_ret
    exact ⟨rfl, bstep hb0 hb⟩
  have d2 : decide ((100 : Int) < f.body.size) = false := by simp; omega
  have hn : n ≤ 64 := by omega
  have HV := Lib.hid (fun W (h : RdI W i A n c) => validIn_any i A n c W (by omega) h.rd hi)
  cases hv : validIn i
  · rw [hv] at HV
    clear h1 h2 hv
    go_enter Try.func4, Try.ntmps4
    go_upto_region 1 with (fail)
    change Code.wp _ _ _ _ ((w.alloc (.cells (ibC i A n c) 47)).alloc (.cells (frC f) 49))
    rw [← HWA.out]
    go_wp2_with ((with_reducible show wpList _ _ _ _ _ _); refine wpList_loadRowW (by rfl) rfl rfl q0 aggIb sizeIb ?_)
    refine (HV.out _ (HR.out.below hb0)).mono ?_
    rintro e w1 ⟨rfl, hb⟩
    replace hb0 := bstep hb0 hb
    clear hb
    go_wp2_with fail
    refine (HS.out _).mono ?_
    rintro e w9 ⟨rfl, hb⟩
    go_wp2_with fail
    go_ret
    exact ⟨rfl, bstep hb0 hb⟩
  rw [hv] at HV
  have hv1 := recvI_valid (f := f) hv
  have hw1 := recvI_wf hi hf hv
  have hnx : i.next ≤ (recvI i f).1.next := recvI_next
  have hag := fun h => recvI_again (i := i) (f := f) h
  have hno := fun h => recvI_no (i := i) (f := f) h
  have HRc := Lib.hid (fun W (h : RdI W i A n c) => recv_any i A n c f W (by omega) h hi hf)
  have hl1 : (recvI i f).1.ahead.length ≤ 64 := (validIn_facts hv1).2.1
  generalize recvI i f = R at *
  have HRc2 := Lib.hid (fun A n c W (hn : n ≤ 100000) (h : RdI W R.1 A n c) => recv_any R.1 A n c f W hn h hw1 hf)
  have HV2 := Lib.hid (fun A n c W (hn : n ≤ 100000) (h : RdI W R.1 A n c) => validIn_any R.1 A n c W hn h.rd hw1)
  rw [hv1] at HV2
  have HAG := Lib.hid hag
  have HNO := Lib.hid hno
  have HWI := Lib.hid hi
  clear hv h1 h2 hag hno hv1 hw1 hi hf
  go_enter Try.func4, Try.ntmps4
  go_upto_region 1 with (fail)
  change Code.wp _ _ _ _ ((w.alloc (.cells (ibC i A n c) 47)).alloc (.cells (frC f) 49))
  rw [← HWA.out]
  go_wp2_with ((with_reducible show wpList _ _ _ _ _ _); refine wpList_loadRowW (by rfl) rfl rfl q0 aggIb sizeIb ?_)
  refine (HV.out _ (HR.out.below hb0)).mono ?_
  rintro e w1 ⟨rfl, hb⟩
  replace q0 := q0.below hb
  replace q1 := q1.below hb
  replace hb0 := bstep hb0 hb
  clear hb c0 c1 e0 e1 e2
  go_wp2_with fail
  go_loopw [5] (fun vj wr => ∃ k : Nat, k ≤ n ∧ vj = .int .i64 k ∧ Below w1.heap.size w1 wr) (fun vj _ => n - (intOf vj).toNat)
  case atStart => exact ⟨0, Nat.zero_le _, rfl, Below.refl _ _⟩
  case round =>
    obtain ⟨k, hk, rfl, hbw⟩ := hrel
    replace q0 := q0.below hbw
    replace q1 := q1.below hbw
    replace hb0 := bstep hb0 hbw
    obtain ⟨c0, c1⟩ := q0.ib
    by_cases hlt : k < n
    · have hkl : k < i.ahead.length := by have := HL.out; omega
      obtain ⟨ad, rfl, -, -, s2⟩ := (HR.out.below hb0).rd.three hkl
      replace s2 : wr.cell? ⟨(ad.add (k * 3)).block, (ad.add (k * 3)).off + 2, none⟩ = some (.string i.ahead[k].body) := s2
      have hsz : i.ahead[k].body.size ≤ 9223372036854775807 := by have := (HWI.out.ahead _ (List.getElem_mem hkl)).body; unfold maxLen at this; omega
      generalize i.ahead[k] = x at *
      by_cases h3 : 100 < x.body.size
      · have d3 : decide ((100 : Int) < x.body.size) = true := by simp; omega
        clear h3
        go_wp2_with fail
        refine (HS.out _).mono ?_
        rintro e w9 ⟨rfl, hb⟩
        go_wp2_with fail
        go_ret
        exact ⟨rfl, bstep hb0 hb⟩
      · have d3 : decide ((100 : Int) < x.body.size) = false := by simp; omega
        clear h3
        go_wp2_with fail
        exact ⟨⟨k + 1, by omega, by go_num, hbw⟩, by simp [intOf]; omega⟩
    · obtain rfl : k = n := by omega
      have HR8 := HR.out.below hb0
      clear hbw
      go_upto_region 9 with (first
        | ((with_reducible show wpList _ _ _ _ _ _); refine wpList_lit0f rfl rfl ?_; intro w3 g3 hown3 hb3; have c13 := cell_later hb3 c1)
        | ((with_reducible show wpList _ _ _ _ _ _); refine wpList_appK rfl rfl elemFr rfl hown3 rfl (m := k) (HR8.below hb3).rd.rd (one_fvs _) (by omega) (by have := hb3.size; omega) ?_; intro v4 w4 hown4 _ hb4; rw [Nat.zero_add, List.nil_append] at hown4; obtain ⟨A4, c4, rfl, -, -, hr4⟩ := ownsRow_form hown4))
      have hb := hb3.trans hb4
      have rK : RdF w4 A4 k i.ahead := ⟨HL.out, hr4⟩
      replace q0 := q0.below hb
      replace q1 := q1.below hb
      replace hb0 := bstep hb0 hb
      clear c0 c1 c13 hown3 hown4 hr4 hb3 hb4 hb HR8
      go_upto_region 10 with (first
        | ((with_reducible show wpList _ _ _ _ _ _); refine wpList_loadRow rfl rfl rfl q0 aggIb sizeIb ?_)
        | ((with_reducible show wpList _ _ _ _ _ _); refine wpList_loadRow rfl rfl rfl q1 aggFr sizeFr ?_))
      refine (HRc.out _ (HR.out.below hb0)).mono ?_
      rintro e w5 ⟨A5, n5, c5, v5, rfl, rI5, hown5, hb, -⟩
      obtain ⟨B5, d5, rfl, rX5, -⟩ := own_rdF hown5
      have hn5 : n5 ≤ 64 := by have := rI5.rd.len; omega
      clear hown5
      replace q0 := q0.below hb
      replace q1 := q1.below hb
      replace rK := rK.below hb
      replace hb0 := bstep hb0 hb
      clear hb
      go_upto_region 10 with (first
        | ((with_reducible show wpList _ _ _ _ _ _); refine wpList_new (cs := ibC iz none 0 0) rfl rfl (fun w => by kernel_rfl) ?_; intro w6 g7 hg7 q7 hb6 lt7; have HG7 := Lib.hid hg7; clear hg7)
        | ((with_reducible show wpList _ _ _ _ _ _); refine wpList_putIb (k := R.1) rfl rfl rfl rfl q7 rfl ?_; intro w7 ht7 b7))
      have hb : Below w5.heap.size w5 w7 := hb6.trans (ht7.below _ (by have := HG7.out; omega))
      replace q0 := q0.below hb
      replace q1 := q1.below hb
      replace rK := rK.below hb
      replace rI5 := rI5.below hb
      replace hb0 := bstep hb0 hb
      clear hb hb6 ht7 q7 HG7 lt7
      obtain ⟨c0, c1⟩ := q0.ib
      go_wp2_with fail
      refine (same_any i.ahead _ _ _ _ _ _ _ (HR.out.below hb0).rd rK (by omega) (by omega)).mono ?_
      rintro e w8 ⟨rfl, hb⟩
      replace q0 := q0.below hb
      replace q1 := q1.below hb
      replace b7 := b7.below hb
      replace rI5 := rI5.below hb
      replace hb0 := bstep hb0 hb
      clear hb rK c0 c1
      go_wp2_with ((with_reducible show wpList _ _ _ _ _ _); refine wpList_loadRowW (by rfl) rfl rfl b7 aggIb sizeIb ?_)
      refine (HV2.out _ _ _ _ (by omega) rI5).mono ?_
      rintro e w9 ⟨rfl, hb⟩
      replace q0 := q0.below hb
      replace q1 := q1.below hb
      replace b7 := b7.below hb
      replace rI5 := rI5.below hb
      replace hb0 := bstep hb0 hb
      clear hb
      obtain ⟨c0, -⟩ := q0.ib
      obtain ⟨c7, -⟩ := b7.ib
      have d7 : decide (R.1.next < i.next) = false := by simp; omega
      by_cases hE : R.2.2 = 0
      · have hE2 := HAG.out hE
        rw [hE2] at HRc2
        obtain ⟨r1, r2, r3⟩ := R
        simp only at hE
        subst hE
        dsimp only at *
        clear hE2 HNO HAG HRc HV HV2 hnx
        go_wp2_with (first
          | ((with_reducible show wpList _ _ _ _ _ _); refine wpList_loadRow rfl rfl rfl b7 aggIb sizeIb ?_)
          | ((with_reducible show wpList _ _ _ _ _ _); refine wpList_loadRow rfl rfl rfl q1 aggFr sizeFr ?_))
        refine (HRc2.out _ _ _ _ (by omega) rI5).mono ?_
        rintro e w10 ⟨A6, n6, c6, v6, rfl, rI6, hown6, hb, -⟩
        obtain ⟨B6, d6, rfl, rX6, -⟩ := own_rdF hown6
        have hn6 : n6 ≤ 64 := by have h6 : r1.ahead.length = n6 := rI6.rd.len; omega
        clear hown6
        replace b7 := b7.below hb
        replace rI5 := rI5.below hb
        replace hb0 := bstep hb0 hb
        clear hb c0 c7
        go_upto_region 15 with (first
          | ((with_reducible show wpList _ _ _ _ _ _); refine wpList_new (cs := ibC iz none 0 0) rfl rfl (fun w => by kernel_rfl) ?_; intro w11 g10 hg10 q10 hb11 lt10; have HG10 := Lib.hid hg10; clear hg10)
          | ((with_reducible show wpList _ _ _ _ _ _); refine wpList_putIb (k := r1) rfl rfl rfl rfl q10 rfl ?_; intro w12 ht12 b10))
        have hb : Below w10.heap.size w10 w12 := hb11.trans (ht12.below _ (by have := HG10.out; omega))
        replace b7 := b7.below hb
        replace rI5 := rI5.below hb
        replace rI6 := rI6.below hb
        replace hb0 := bstep hb0 hb
        clear hb hb11 ht12 q10 HG10 lt10
        go_wp2_with fail
        refine (HS.out _).mono ?_
        rintro e w13 ⟨rfl, hb⟩
        replace b7 := b7.below hb
        replace b10 := b10.below hb
        replace rI5 := rI5.below hb
        replace rI6 := rI6.below hb
        replace hb0 := bstep hb0 hb
        clear hb
        have hsm := sameIn_any r1 A5 n5 c5 r1 A6 n6 c6 w13 rI5.rd rI6.rd (by omega) (by omega)
        rw [sameIB_self] at hsm
        have HSM := Lib.hid hsm
        clear hsm
        go_wp2_with (first
          | ((with_reducible show wpList _ _ _ _ _ _); refine wpList_loadRowW (x := .tmp 7) (by rfl) rfl rfl b7 aggIb sizeIb ?_)
          | ((with_reducible show wpList _ _ _ _ _ _); refine wpList_loadRowW (x := .tmp 10) (by rfl) rfl rfl b10 aggIb sizeIb ?_))
        refine HSM.out.mono ?_
        rintro e w14 ⟨rfl, hb⟩
        go_wp2_with fail
        go_ret
        exact ⟨rfl, bstep hb0 hb⟩
      · have hR := HNO.out hE
        subst hR
        dsimp only at *
        clear HNO HAG HRc HV HV2 HRc2 hE hnx
        go_wp2_with fail
        refine (HS.out _).mono ?_
        rintro e w13 ⟨rfl, hb⟩
        replace b7 := b7.below hb
        replace q0 := q0.below hb
        replace rI5 := rI5.below hb
        replace hb0 := bstep hb0 hb
        clear hb
        have hsm := sameIn_any i A5 n5 c5 i A k c w13 rI5.rd (HR.out.below hb0).rd (by omega) (by omega)
        rw [sameIB_self] at hsm
        have HSM := Lib.hid hsm
        clear hsm
        go_wp2_with (first
          | ((with_reducible show wpList _ _ _ _ _ _); refine wpList_loadRowW (x := .tmp 7) (by rfl) rfl rfl b7 aggIb sizeIb ?_)
          | ((with_reducible show wpList _ _ _ _ _ _); refine wpList_loadRowW (x := .tmp 2) (by rfl) rfl rfl q0 aggIb sizeIb ?_))
        refine HSM.out.mono ?_
        rintro e w14 ⟨rfl, hb⟩
        go_wp2_with fail
        go_ret
        exact ⟨rfl, bstep hb0 hb⟩
end Go.Proofs.Ytecklplohgfohaa
