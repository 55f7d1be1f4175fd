/-
  The walk of HashStreamsAgree. Conditions: the tables read as the program lays them.
-/
import Derived.Test.YtnfmgklpibknfaaDoorFew
import Derived.Test.YtnfmgklpibknfaaDoorEql
namespace Go.Proofs.YtnfmgklpibknfaaDoor
set_option linter.unusedSimpArgs false
set_option linter.unusedVariables false
open Go.RowKit Sha Crc
theorem sv_take (l : List ByteArray) (k : Nat) : (sv l).take k = sv (l.take k) := by simp [sv, List.map_take]
set_option maxHeartbeats 2000000 in
set_option maxRecDepth 100000 in
theorem walkHashStreamsAgree (A0 : Option Addr) (n0 c0 : Nat) (l0 : List ByteArray) (s1 : ByteArray) (a2 : Int) (w : World)
    (x0 : n0 ≤ c0) (y0 : c0 ≤ maxLen) (z0 : l0.length = n0) (r0 : Rd w A0 n0 (sv l0)) (e0 : ∀ s ∈ l0, s.size ≤ maxLen) (f1 : s1.size ≤ maxLen) (f2 : (Lit.int .u8 a2).wf = true) (hN : GNib w) (hC : GCon w) :
    Calls Tryd.prog 12 #[.slice A0 n0 c0, .string s1, .int .u8 a2] w fun e w' => e = .returned (.bool true) ∧ Below w.heap.size w w' := by
  have Z0 := Lib.hid z0
  have E0 := Lib.hid (show ∀ s ∈ l0, s.size ≤ 9223372036854775807 from e0)
  clear z0 e0
  unfold maxLen at y0 f1
  obtain ⟨at_, rfl, ha⟩ : ∃ k : Nat, a2 = (k : Int) ∧ k < 256 := by
    simp [Lit.wf, IntKind.min, IntKind.max, IntKind.bits, IntKind.signed] at f2
    exact ⟨a2.toNat, by omega, by omega⟩
  clear f2
  by_cases hfew : fewB l0 = true
  case neg =>
    have hfalse : fewB l0 = false := by simpa using hfew
    go_enter Tryd.func12, Tryd.ntmps12
    go_wp2_with fail
    refine (sanity_any w hN hC).mono ?_
    rintro e w1 ⟨rfl, hb⟩
    go_wp2_with fail
    refine (few_any A0 n0 c0 l0 _ (by omega) (r0.below hb) E0.out).mono ?_
    rintro e w' ⟨he, rfl⟩
    rw [hfalse] at he
    subst he
    go_wp2
    go_ret
    exact ⟨rfl, hb⟩
  by_cases ho : 400 < s1.size
  · have d1 : decide ((400 : Int) < (s1.size : Int)) = true := by simp; omega
    go_enter Tryd.func12, Tryd.ntmps12
    go_wp2_with fail
    refine (sanity_any w hN hC).mono ?_
    rintro e w1 ⟨rfl, hb⟩
    go_wp2_with fail
    refine (few_any A0 n0 c0 l0 _ (by omega) (r0.below hb) E0.out).mono ?_
    rintro e w' ⟨he, rfl⟩
    rw [hfew] at he
    subst he
    go_wp2
    go_ret
    exact ⟨rfl, hb⟩
  have d1 : decide ((400 : Int) < (s1.size : Int)) = false := by simp; omega
  have FY := Lib.hid (fewB_yes hfew)
  have h12 : n0 ≤ 12 := by have := FY.out.1; rw [Z0.out] at this; exact this
  obtain ⟨kk, hk0⟩ : ∃ k : Nat, k = at_ % (n0 + 1) := ⟨_, rfl⟩
  have hkn : kk ≤ n0 := by have : at_ % (n0 + 1) < n0 + 1 := Nat.mod_lt _ (by omega); omega
  have hkk : (at_ : Int) % ((n0 : Int) + 1) = (kk : Int) := by rw [hk0]; push_cast; rfl
  clear hk0
  have hRd := fun (W : World) (hb : Below w.heap.size w W) => r0.below hb
  have HRD := Lib.hid hRd
  clear hRd
  go_enter Tryd.func12, Tryd.ntmps12
  go_wp2_with fail
  refine (sanity_any w hN hC).mono ?_
  rintro e w1 ⟨rfl, hb⟩
  go_wp2_with fail
  refine (few_any A0 n0 c0 l0 _ (by omega) (r0.below hb) E0.out).mono ?_
  rintro e w' ⟨he, rfl⟩
  rw [hfew] at he
  subst he
  have HF := Lib.hid hfew
  clear hfew
  go_wp2_with fail
  refine (begin_of _).mono ?_
  rintro e w2 ⟨rfl, hb2⟩
  replace hb := hb.trans (hb2.mono hb.size)
  clear hb2
  have hs0 : (strmOf [] (List.replicate 64 0)).size = 73 := size_strm _ _ _ (by simp)
  have hzs : zeroS.size = 73 := size_strm _ _ _ (by simp)
  have HZS := Lib.hid hzs
  clear hzs
  dsimp only
  go_step
  refine wpList_newRow rfl rfl rfl rfl (zero_S _) (fun _ => rfl) (fun _ => rfl) (by rw [hs0, HZS.out]) (by rw [hs0]; kernel_rfl) (one_strm _ _ _) ?_
  intro w3 g9 hg9 hB9 hb3 hlt9
  have hz9 : w.heap.size ≤ g9 := by rw [hg9]; exact hb.size
  replace hb := hb.trans (hb3.mono hb.size)
  clear hb3 hg9 hlt9 hs0
  simp only [Act.put]
  go_wp2_with fail
  go_loopw [10] (fun i wr => ∃ (j : Nat) (b : List UInt8), j ≤ kk ∧ i = .int .i64 j ∧ Tail (joinL (l0.take j)) b ∧ Below w.heap.size w wr ∧ Blk wr g9 53 (strmOf (joinL (l0.take j)) b)) (fun i _ => kk - (intOf i).toNat)
  case atStart => exact ⟨0, _, Nat.zero_le _, rfl, Tail.nil _ (by simp), hb, hB9⟩
  case round =>
    clear hb hB9
    obtain ⟨j, b, hj, rfl, hT, hb, hB⟩ := hrel
    have hz := hb.size
    have hjl : Hid ((joinL (l0.take j)).length ≤ 4800) := by
      show _ ≤ _
      have h1 := length_joinL (l0.take j) 400 (fun s hs => FY.out.2 s (List.mem_of_mem_take hs))
      have h2 : (l0.take j).length * 400 ≤ 12 * 400 := Nat.mul_le_mul_right _ (by rw [List.length_take]; have := FY.out.1; omega)
      omega
    have hsz := size_strm (stN (joinL (l0.take j)) ((joinL (l0.take j)).length / 64)) b (joinL (l0.take j)).length hT.len
    change (strmOf (joinL (l0.take j)) b).size = 73 at hsz
    have HSZ := Lib.hid hsz
    clear hsz
    by_cases hlt : j < kk
    · obtain ⟨ad, rfl, hcs⟩ := (HRD.out _ hb).str (k := j) (by omega) Z0.out
      have hss := FY.out.2 (l0[j]'(by have := Z0.out; omega)) (List.getElem_mem _)
      have HT : Hid (joinL (l0.take (j + 1)) = joinL (l0.take j) ++ (l0[j]'(by have := Z0.out; omega)).data.toList) := by
        show _ = _
        rw [List.take_succ_eq_append_getElem (by have := Z0.out; omega), joinL_snoc]
      generalize l0[j]'(by have := Z0.out; omega) = s at *
      generalize joinL (l0.take j) = m at *
      have hCr := hC.below hb
      go_wp2_with fail
      refine wp_region_T 6 (by kernel_rfl) ?_
      -- region 9: 7 operations, tail from 6
      refine WpT.take (i := 0) rfl (by kernel_rfl) (fun _ _ _ h => h) (yields_blk rfl rfl rfl (by kernel_rfl) (by rw [HSZ.out]; kernel_rfl) hB) ((Below.refl _ _).drew) ?_
      try simp only [Act.put, List.setIfInBounds_toArray, List.set_cons_zero, List.set_cons_succ]
      refine WpT.take (i := 1) rfl (by kernel_rfl) (fun _ _ _ h => h) (.inl ⟨by rfl, fun w hSw => by clear hSw; go_simp; (try go_bits); (try rw [if_pos (by omega)]); (try with_reducible rfl)⟩) ((Below.refl _ _).drew) ?_
      try simp only [Act.put, List.setIfInBounds_toArray, List.set_cons_zero, List.set_cons_succ]
      refine WpT.take (i := 2) rfl (by kernel_rfl) (fun _ _ _ h => h) (.inl ⟨by rfl, fun w hSw => by clear hSw; go_simp; (try go_bits); (try rw [if_pos (by omega)]); (try with_reducible rfl)⟩) ((Below.refl _ _).drew) ?_
      try simp only [Act.put, List.setIfInBounds_toArray, List.set_cons_zero, List.set_cons_succ]
      refine WpT.take (i := 3) rfl (by kernel_rfl) (fun _ _ _ h => h) (.inl ⟨by rfl, fun w hSw => by clear hSw; go_simp; (try go_bits); (try rw [if_pos (by omega)]); (try with_reducible rfl)⟩) ((Below.refl _ _).drew) ?_
      try simp only [Act.put, List.setIfInBounds_toArray, List.set_cons_zero, List.set_cons_succ]
      refine WpT.take (i := 4) rfl (by kernel_rfl) (fun _ _ _ h => h) (yields_load rfl rfl rfl (by kernel_rfl) (by assumption)) ((Below.refl _ _).drew) ?_
      try simp only [Act.put, List.setIfInBounds_toArray, List.set_cons_zero, List.set_cons_succ]
      refine WpT.one (i := 5) rfl (by kernel_rfl) (fun K hK => ?_)
      go_simp; refine (add_any m b s _ hT (by have := hjl.out; omega) (by exact hCr)).mono ?_; rintro e w4 ⟨b4, rfl, hT4, hb4⟩; have hS1 : Below wr.heap.size wr w4 := bstep (Below.refl _ wr).drew hb4
      refine hK _ _ (hS1) ?_; clear hK K; try simp only [Act.put, List.setIfInBounds_toArray, List.set_cons_zero, List.set_cons_succ]
      refine WpT.tail (i := 6) rfl (by kernel_rfl) (by kernel_rfl) (fun K hK => ?_)
      rw [if_pos (by rfl)]; have hsz := size_strm (stN (m ++ s.data.toList) ((m ++ s.data.toList).length / 64)) b4 (m ++ s.data.toList).length hT4.len; change (strmOf (m ++ s.data.toList) b4).size = 73 at hsz; refine wp_storeRow (g := g9) (o := 0) (vs := strmOf (m ++ s.data.toList) b4) rfl rfl rfl (hB.below hS1) (by rw [hsz, HSZ.out]; decide) (by rw [hsz]; kernel_rfl) (one_strm _ _ _) ?_
      refine hK _ _ ?_; clear hK K; try simp only [Act.put, List.setIfInBounds_toArray, List.set_cons_zero, List.set_cons_succ]
      refine WpT.done (by kernel_rfl) ?_ _
      have hf := (hB.below hS1).all (strmOf (m ++ s.data.toList) b4) (by rw [hsz, HSZ.out])
      have hbf := below_setCells (hb.trans (hS1.mono hz)) hz9 0 (strmOf (m ++ s.data.toList) b4).toList
      clear hB hb hb4 hS1 hcs hCr
      generalize w4.setCells g9 0 (strmOf (m ++ s.data.toList) b4).toList = wf at *
      go_wp2_with fail
      exact ⟨⟨j + 1, b4, by omega, by go_num, by rw [HT.out]; exact hT4, hbf, by rw [HT.out]; exact hf⟩, by simp [intOf]; omega⟩
    · obtain rfl : j = kk := by omega
      go_upto_region 10 with (fail)
      refine wp_region_lit ?_
      refine wpList_loadRow rfl rfl rfl hB (by kernel_rfl) (by rw [HSZ.out]; kernel_rfl) ?_
      refine wpList_newRow rfl rfl rfl rfl (zero_S _) (fun _ => rfl) (fun _ => rfl) (by rw [HSZ.out, HZS.out]) (by rw [HSZ.out]; kernel_rfl) (one_strm _ _ _) ?_
      intro w4 g11 hg11 hB11 hb4 hlt11
      have hz11 : g9 < g11 := by rw [hg11]; exact hB.lt
      replace hB := hB.below hb4
      replace hb := hb.trans (hb4.mono hz)
      clear hb4 hg11 hlt11
      simp only [Act.put]
      go_wp2_with fail
      have HJT := hjl
      clear hjl
      generalize hhd : joinL (l0.take j) = hd9 at *
      have HHD := Lib.hid hhd
      clear hhd
      go_loopw [12] (fun i wr => ∃ (q : Nat) (bq : List UInt8), j ≤ q ∧ q ≤ n0 ∧ i = .int .i64 q ∧ Tail (joinL (l0.take q)) bq ∧ Below w.heap.size w wr ∧ Blk wr g9 53 (strmOf (joinL (l0.take q)) bq) ∧ Blk wr g11 53 (strmOf hd9 b)) (fun i _ => n0 - (intOf i).toNat)
      case atStart => exact ⟨j, b, Nat.le_refl _, by omega, rfl, by rw [HHD.out]; exact hT, hb, by rw [HHD.out]; exact hB, hB11⟩
      case round =>
        clear hb hB hz hB11
        obtain ⟨q, bq, hjq, hq, rfl, hTq, hb, hB, hB1⟩ := hrel
        have hz := hb.size
        have hjl : Hid ((joinL (l0.take q)).length ≤ 4800) := by
          show _ ≤ _
          have h1 := length_joinL (l0.take q) 400 (fun s hs => FY.out.2 s (List.mem_of_mem_take hs))
          have h2 : (l0.take q).length * 400 ≤ 12 * 400 := Nat.mul_le_mul_right _ (by rw [List.length_take]; have := FY.out.1; omega)
          omega
        have hszq := size_strm (stN (joinL (l0.take q)) ((joinL (l0.take q)).length / 64)) bq (joinL (l0.take q)).length hTq.len
        change (strmOf (joinL (l0.take q)) bq).size = 73 at hszq
        have HSQ := Lib.hid hszq
        clear hszq
        by_cases hlt2 : q < n0
        · obtain ⟨ad, rfl, hcs⟩ := (HRD.out _ hb).str (k := q) hlt2 Z0.out
          have hss := FY.out.2 (l0[q]'(by have := Z0.out; omega)) (List.getElem_mem _)
          have HT : Hid (joinL (l0.take (q + 1)) = joinL (l0.take q) ++ (l0[q]'(by have := Z0.out; omega)).data.toList) := by
            show _ = _
            rw [List.take_succ_eq_append_getElem (by have := Z0.out; omega), joinL_snoc]
          generalize l0[q]'(by have := Z0.out; omega) = s at *
          generalize joinL (l0.take q) = m at *
          have hCr := hC.below hb
          go_wp2_with fail
          refine wp_region_T 6 (by kernel_rfl) ?_
          -- region 14: 7 operations, tail from 6
          refine WpT.take (i := 0) rfl (by kernel_rfl) (fun _ _ _ h => h) (yields_blk rfl rfl rfl (by kernel_rfl) (by rw [HSQ.out]; kernel_rfl) hB) ((Below.refl _ _).drew) ?_
          try simp only [Act.put, List.setIfInBounds_toArray, List.set_cons_zero, List.set_cons_succ]
          refine WpT.take (i := 1) rfl (by kernel_rfl) (fun _ _ _ h => h) (.inl ⟨by rfl, fun w hSw => by clear hSw; go_simp; (try go_bits); (try rw [if_pos (by omega)]); (try with_reducible rfl)⟩) ((Below.refl _ _).drew) ?_
          try simp only [Act.put, List.setIfInBounds_toArray, List.set_cons_zero, List.set_cons_succ]
          refine WpT.take (i := 2) rfl (by kernel_rfl) (fun _ _ _ h => h) (.inl ⟨by rfl, fun w hSw => by clear hSw; go_simp; (try go_bits); (try rw [if_pos (by omega)]); (try with_reducible rfl)⟩) ((Below.refl _ _).drew) ?_
          try simp only [Act.put, List.setIfInBounds_toArray, List.set_cons_zero, List.set_cons_succ]
          refine WpT.take (i := 3) rfl (by kernel_rfl) (fun _ _ _ h => h) (.inl ⟨by rfl, fun w hSw => by clear hSw; go_simp; (try go_bits); (try rw [if_pos (by omega)]); (try with_reducible rfl)⟩) ((Below.refl _ _).drew) ?_
          try simp only [Act.put, List.setIfInBounds_toArray, List.set_cons_zero, List.set_cons_succ]
          refine WpT.take (i := 4) rfl (by kernel_rfl) (fun _ _ _ h => h) (yields_load rfl rfl rfl (by kernel_rfl) (by assumption)) ((Below.refl _ _).drew) ?_
          try simp only [Act.put, List.setIfInBounds_toArray, List.set_cons_zero, List.set_cons_succ]
          refine WpT.one (i := 5) rfl (by kernel_rfl) (fun K hK => ?_)
          go_simp; refine (add_any m bq s _ hTq (by have := hjl.out; omega) (by exact hCr)).mono ?_; rintro e w4 ⟨b4, rfl, hT4, hb4⟩; have hS1 : Below wr.heap.size wr w4 := bstep (Below.refl _ wr).drew hb4
          refine hK _ _ (hS1) ?_; clear hK K; try simp only [Act.put, List.setIfInBounds_toArray, List.set_cons_zero, List.set_cons_succ]
          refine WpT.tail (i := 6) rfl (by kernel_rfl) (by kernel_rfl) (fun K hK => ?_)
          rw [if_pos (by rfl)]; have hsz := size_strm (stN (m ++ s.data.toList) ((m ++ s.data.toList).length / 64)) b4 (m ++ s.data.toList).length hT4.len; change (strmOf (m ++ s.data.toList) b4).size = 73 at hsz; refine wp_storeRow (g := g9) (o := 0) (vs := strmOf (m ++ s.data.toList) b4) rfl rfl rfl (hB.below hS1) (by rw [hsz, HSQ.out]; decide) (by rw [hsz]; kernel_rfl) (one_strm _ _ _) ?_
          refine hK _ _ ?_; clear hK K; try simp only [Act.put, List.setIfInBounds_toArray, List.set_cons_zero, List.set_cons_succ]
          refine WpT.done (by kernel_rfl) ?_ _
          have hf := (hB.below hS1).all (strmOf (m ++ s.data.toList) b4) (by rw [hsz, HSQ.out])
          have hbf := below_setCells (hb.trans (hS1.mono hz)) hz9 0 (strmOf (m ++ s.data.toList) b4).toList
          have hf1 := (hB1.below hS1).farRow (g := g9) (by omega) 0 (strmOf (m ++ s.data.toList) b4).toList
          clear hB hB1 hb hb4 hS1 hcs hCr
          generalize w4.setCells g9 0 (strmOf (m ++ s.data.toList) b4).toList = wf at *
          go_wp2_with fail
          exact ⟨⟨q + 1, b4, by omega, by omega, by go_num, by rw [HT.out]; exact hT4, hbf, by rw [HT.out]; exact hf, hf1⟩, by simp [intOf]; omega⟩
        · obtain rfl : q = n0 := by omega
          rw [List.take_of_length_le (by have := Z0.out; omega)] at hTq hB hjl HSQ
          have HSW := shaOf (joinL l0) (by have := hjl.out; omega)
          have HSH := shaOf hd9 (by have := HJT.out; omega)
          have HSO := shaOf (hd9 ++ s1.data.toList) (by
            have h3 : s1.data.toList.length = s1.size := by simp
            have := HJT.out
            rw [List.length_append]; omega)
          generalize sha (joinL l0) = SW at *
          generalize sha hd9 = SH at *
          generalize sha (hd9 ++ s1.data.toList) = SO at *
          go_upto_region 15 with (fail)
          refine wp_region_lit ?_
          refine wpList_loadRow rfl rfl rfl hB1 (by kernel_rfl) (by rw [HSZ.out]; kernel_rfl) ?_
          repeat go_step
          refine (add_any hd9 b s1 _ hT (by have := HJT.out; omega) (hC.below hb)).mono ?_
          rintro e w4 ⟨b4, rfl, hT4, hb4⟩
          have hsz := size_strm (stN (hd9 ++ s1.data.toList) ((hd9 ++ s1.data.toList).length / 64)) b4 (hd9 ++ s1.data.toList).length hT4.len
          change (strmOf (hd9 ++ s1.data.toList) b4).size = 73 at hsz
          have ZH13 := Lib.hid hsz
          clear hsz
          dsimp only
          go_step
          refine wpList_newRow rfl rfl rfl rfl (zero_S _) (fun _ => rfl) (fun _ => rfl) (by rw [ZH13.out, HZS.out]) (by rw [ZH13.out]; kernel_rfl) (one_strm _ _ _) ?_
          intro w5 g13 hg13 H13 hb5 hlt13
          have hb45 := hb4.trans (hb5.mono hb4.size)
          replace hb := hb.trans (hb45.mono hz)
          have H9 := hB.below hb45
          have H11 := hB1.below hb45
          clear hB hB1 hb4 hb5 hb45 hg13 hlt13
          have ZH9 := HSQ
          have ZH11 := HSZ
          clear HSQ HSZ
          simp only [Act.put]
          go_wp2_with fail
          refine (joined_any A0 q c0 l0 _ h12 (HRD.out _ hb) FY.out.2).mono ?_
          rintro e w' ⟨sw, rfl, hsw, rfl⟩
          have HHW := Lib.hid hsw
          clear hsw
          go_wp2_with fail
          refine (joined_any A0 j c0 (l0.take j) _ (by omega) ((sv_take l0 j ▸ (HRD.out _ hb).take hjq)) (fun s hs => FY.out.2 s (List.mem_of_mem_take hs))).mono ?_
          rintro e w' ⟨sh, rfl, hsh, rfl⟩
          rw [HHD.out] at hsh
          have HHH := Lib.hid hsh
          have HHO : Hid ((sh ++ s1).data.toList = hd9 ++ s1.data.toList) := by
            show _ = _
            rw [show (sh ++ s1).data.toList = sh.data.toList ++ s1.data.toList by simp, hsh]
          have hshs : sh.size ≤ 4800 := by
            have h3 : sh.data.toList.length = sh.size := by simp
            have := HJT.out
            rw [← hsh] at this
            omega
          clear hsh
          have hq1 := fun W => eql_32_same SW HSW.len W
          have hq2 := fun W => eql_32_same SH HSH.len W
          have hq3 := fun W => eql_32_same SO HSO.len W
          go_wp2_with (refine wpList_loadRowG rfl rfl rfl H9 (by kernel_rfl) (by rw [ZH9.out]; kernel_rfl) ?_)
          refine (HSW.stream bq _ hTq (hC.below hb)).mono ?_
          rintro e wv ⟨rfl, hbv⟩
          replace hb := hb.trans (hbv.mono hb.size)
          replace H9 := H9.below hbv
          replace H11 := H11.below hbv
          replace H13 := H13.below hbv
          clear hbv
          go_wp2_with (refine wpList_stbG rfl rfl bytesTy strTy rfl ?_; intro Av cv wx hrx hbx _)
          replace hb := hb.trans (hbx.mono hb.size)
          replace H9 := H9.below hbx
          replace H11 := H11.below hbx
          replace H13 := H13.below hbx
          clear hbx
          rw [HHW.out] at hrx
          refine (HSW.whole Av _ cv _ hrx (hC.below hb)).mono ?_
          rintro e wy ⟨rfl, hby⟩
          replace hb := hb.trans (hby.mono hb.size)
          replace H9 := H9.below hby
          replace H11 := H11.below hby
          replace H13 := H13.below hby
          clear hby hrx
          go_wp2_with (refine wpList_loadRowG rfl rfl rfl H11 (by kernel_rfl) (by rw [ZH11.out]; kernel_rfl) ?_)
          refine (HSH.stream b _ hT (hC.below hb)).mono ?_
          rintro e wv ⟨rfl, hbv⟩
          replace hb := hb.trans (hbv.mono hb.size)
          replace H9 := H9.below hbv
          replace H11 := H11.below hbv
          replace H13 := H13.below hbv
          clear hbv
          go_wp2_with (refine wpList_stbG rfl rfl bytesTy strTy rfl ?_; intro Av cv wx hrx hbx _)
          replace hb := hb.trans (hbx.mono hb.size)
          replace H9 := H9.below hbx
          replace H11 := H11.below hbx
          replace H13 := H13.below hbx
          clear hbx
          rw [HHH.out] at hrx
          refine (HSH.whole Av _ cv _ hrx (hC.below hb)).mono ?_
          rintro e wy ⟨rfl, hby⟩
          replace hb := hb.trans (hby.mono hb.size)
          replace H9 := H9.below hby
          replace H11 := H11.below hby
          replace H13 := H13.below hby
          clear hby hrx
          go_wp2_with (refine wpList_loadRowG rfl rfl rfl H13 (by kernel_rfl) (by rw [ZH13.out]; kernel_rfl) ?_)
          refine (HSO.stream b4 _ hT4 (hC.below hb)).mono ?_
          rintro e wv ⟨rfl, hbv⟩
          replace hb := hb.trans (hbv.mono hb.size)
          replace H9 := H9.below hbv
          replace H11 := H11.below hbv
          replace H13 := H13.below hbv
          clear hbv
          go_wp2_with (refine wpList_stbG rfl rfl bytesTy strTy rfl ?_; intro Av cv wx hrx hbx _)
          replace hb := hb.trans (hbx.mono hb.size)
          replace H9 := H9.below hbx
          replace H11 := H11.below hbx
          replace H13 := H13.below hbx
          clear hbx
          rw [show (sh ++ s1).size = sh.size + s1.size from ByteArray.size_append] at hrx
          rw [HHO.out] at hrx
          refine (HSO.whole Av _ cv _ hrx (hC.below hb)).mono ?_
          rintro e wy ⟨rfl, hby⟩
          replace hb := hb.trans (hby.mono hb.size)
          replace H9 := H9.below hby
          replace H11 := H11.below hby
          replace H13 := H13.below hby
          clear hby hrx
          go_wp2
          go_ret
          exact ⟨rfl, hb⟩
end Go.Proofs.YtnfmgklpibknfaaDoor
