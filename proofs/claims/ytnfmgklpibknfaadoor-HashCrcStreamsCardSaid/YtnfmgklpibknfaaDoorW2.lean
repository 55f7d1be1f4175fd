/-
  The walk of HashCrcStreams. Conditions: the tables read as the program lays them.
-/
import Derived.Test.YtnfmgklpibknfaaDoorFew
namespace Go.Proofs.YtnfmgklpibknfaaDoor
set_option linter.unusedSimpArgs false
set_option linter.unusedVariables false
open Go.RowKit Sha Crc
theorem sv_take (l : List ByteArray) (k : Nat) : (sv l).take k = sv (l.take k) := by simp [sv, List.map_take]
set_option maxHeartbeats 2000000 in
set_option maxRecDepth 100000 in
theorem walkHashCrcStreams (A0 : Option Addr) (n0 c0 : Nat) (l0 : List ByteArray) (s1 : ByteArray) (a2 : Int) (w : World)
    (x0 : n0 ≤ c0) (y0 : c0 ≤ maxLen) (z0 : l0.length = n0) (r0 : Rd w A0 n0 (sv l0)) (e0 : ∀ s ∈ l0, s.size ≤ maxLen) (f1 : s1.size ≤ maxLen) (f2 : (Lit.int .u8 a2).wf = true) (hN : GNib w) (hC : GCon w) :
    Calls Tryd.prog 4 #[.slice A0 n0 c0, .string s1, .int .u8 a2] w fun e w' => e = .returned (.bool true) ∧ Below w.heap.size w w' := by
  have Z0 := Lib.hid z0
  have E0 := Lib.hid (show ∀ s ∈ l0, s.size ≤ 9223372036854775807 from e0)
  clear z0 e0
  unfold maxLen at y0 f1
  obtain ⟨at_, rfl, ha⟩ : ∃ k : Nat, a2 = (k : Int) ∧ k < 256 := by
    simp [Lit.wf, IntKind.min, IntKind.max, IntKind.bits, IntKind.signed] at f2
    exact ⟨a2.toNat, by omega, by omega⟩
  clear f2
  by_cases hfew : fewB l0 = true
  case neg =>
    have hfalse : fewB l0 = false := by simpa using hfew
    go_enter Tryd.func4, Tryd.ntmps4
    go_wp2_with fail
    refine (sanity_any w hN hC).mono ?_
    rintro e w1 ⟨rfl, hb⟩
    go_wp2_with fail
    refine (few_any A0 n0 c0 l0 _ (by omega) (r0.below hb) E0.out).mono ?_
    rintro e w' ⟨he, rfl⟩
    rw [hfalse] at he
    subst he
    go_wp2
    go_ret
    exact ⟨rfl, hb⟩
  by_cases ho : 400 < s1.size
  · have d1 : decide ((400 : Int) < (s1.size : Int)) = true := by simp; omega
    go_enter Tryd.func4, Tryd.ntmps4
    go_wp2_with fail
    refine (sanity_any w hN hC).mono ?_
    rintro e w1 ⟨rfl, hb⟩
    go_wp2_with fail
    refine (few_any A0 n0 c0 l0 _ (by omega) (r0.below hb) E0.out).mono ?_
    rintro e w' ⟨he, rfl⟩
    rw [hfew] at he
    subst he
    go_wp2
    go_ret
    exact ⟨rfl, hb⟩
  have d1 : decide ((400 : Int) < (s1.size : Int)) = false := by simp; omega
  have FY := Lib.hid (fewB_yes hfew)
  have h12 : n0 ≤ 12 := by have := FY.out.1; rw [Z0.out] at this; exact this
  obtain ⟨kk, hk0⟩ : ∃ k : Nat, k = at_ % (n0 + 1) := ⟨_, rfl⟩
  have hkn : kk ≤ n0 := by have : at_ % (n0 + 1) < n0 + 1 := Nat.mod_lt _ (by omega); omega
  have hkk : (at_ : Int) % ((n0 : Int) + 1) = (kk : Int) := by rw [hk0]; push_cast; rfl
  clear hk0
  have hRd := fun (W : World) (hb : Below w.heap.size w W) => r0.below hb
  have HRD := Lib.hid hRd
  clear hRd
  go_enter Tryd.func4, Tryd.ntmps4
  go_wp2_with fail
  refine (sanity_any w hN hC).mono ?_
  rintro e w1 ⟨rfl, hb⟩
  go_wp2_with fail
  refine (few_any A0 n0 c0 l0 _ (by omega) (r0.below hb) E0.out).mono ?_
  rintro e w' ⟨he, rfl⟩
  rw [hfew] at he
  subst he
  have HF := Lib.hid hfew
  clear hfew
  go_wp2_with fail
  refine (beginCrc_any _).mono ?_
  rintro e w2 ⟨rfl, hb2⟩
  replace hb := hb.trans (hb2.mono hb.size)
  clear hb2
  go_wp2_with fail
  have hz9 : w.heap.size ≤ w2.heap.size := hb.size
  generalize hg9 : w2.heap.size = g9 at *
  have HG9 := Lib.hid hg9
  clear hg9
  go_loopw [10] (fun i wr => ∃ j : Nat, j ≤ kk ∧ i = .int .i64 j ∧ Below w.heap.size w wr ∧ Blk wr g9 30 #[.int .u64 ((crcR ones (joinL (l0.take j))).toNat : Nat)]) (fun i _ => kk - (intOf i).toNat)
  case atStart => exact ⟨0, Nat.zero_le _, rfl, hb.alloc hb.size _, by rw [← HG9.out]; exact Blk.new _ _ _⟩
  case round =>
    clear hb
    obtain ⟨j, hj, rfl, hb, hB⟩ := hrel
    have hz := hb.size
    have hc0 := hB.cell 0
    have hf0 := hB.free 0
    simp at hc0
    by_cases hlt : j < kk
    · obtain ⟨ad, rfl, hcs⟩ := (HRD.out _ hb).str (k := j) (by omega) Z0.out
      have hss := FY.out.2 (l0[j]'(by have := Z0.out; omega)) (List.getElem_mem _)
      have HT : Hid (crcR ones (joinL (l0.take (j + 1))) = crcR (crcR ones (joinL (l0.take j))) (l0[j]'(by have := Z0.out; omega)).data.toList) := by
        show _ = _
        rw [List.take_succ_eq_append_getElem (by have := Z0.out; omega), joinL_snoc, crcR_append]
      generalize l0[j]'(by have := Z0.out; omega) = s at *
      generalize crcR ones (joinL (l0.take j)) = rj at *
      have hNr := hN.below hb
      go_wp2_with fail
      refine wp_region_T 6 (by kernel_rfl) ?_
      -- region 9: 7 operations, tail from 6
      refine WpT.take (i := 0) rfl (by kernel_rfl) (fun _ _ _ h => h) (yields_blk rfl rfl rfl (by kernel_rfl) (by kernel_rfl) (by assumption)) ((Below.refl _ _).drew) ?_
      try simp only [Act.put, List.setIfInBounds_toArray, List.set_cons_zero, List.set_cons_succ]
      refine WpT.take (i := 1) rfl (by kernel_rfl) (fun _ _ _ h => h) (.inl ⟨by rfl, fun w hSw => by clear hSw; go_simp; (try go_bits); (try rw [if_pos (by omega)]); (try with_reducible rfl)⟩) ((Below.refl _ _).drew) ?_
      try simp only [Act.put, List.setIfInBounds_toArray, List.set_cons_zero, List.set_cons_succ]
      refine WpT.take (i := 2) rfl (by kernel_rfl) (fun _ _ _ h => h) (.inl ⟨by rfl, fun w hSw => by clear hSw; go_simp; (try go_bits); (try rw [if_pos (by omega)]); (try with_reducible rfl)⟩) ((Below.refl _ _).drew) ?_
      try simp only [Act.put, List.setIfInBounds_toArray, List.set_cons_zero, List.set_cons_succ]
      refine WpT.take (i := 3) rfl (by kernel_rfl) (fun _ _ _ h => h) (.inl ⟨by rfl, fun w hSw => by clear hSw; go_simp; (try go_bits); (try rw [if_pos (by omega)]); (try with_reducible rfl)⟩) ((Below.refl _ _).drew) ?_
      try simp only [Act.put, List.setIfInBounds_toArray, List.set_cons_zero, List.set_cons_succ]
      refine WpT.take (i := 4) rfl (by kernel_rfl) (fun _ _ _ h => h) (yields_load rfl rfl rfl (by kernel_rfl) (by assumption)) ((Below.refl _ _).drew) ?_
      try simp only [Act.put, List.setIfInBounds_toArray, List.set_cons_zero, List.set_cons_succ]
      refine WpT.one (i := 5) rfl (by kernel_rfl) (fun K hK => ?_)
      go_simp; refine (crcAdd_any rj s _ (by simp only [maxLen]; omega) (by exact hNr)).mono ?_; rintro e w3 ⟨rfl, hb3⟩; have hS1 : Below wr.heap.size wr w3 := bstep (Below.refl _ wr).drew hb3; have hB3 := hB.below hS1; have hc3 := hB3.cell 0; have hf3 := hB3.free 0; simp at hc3
      refine hK _ _ (hS1) ?_; clear hK K; try simp only [Act.put, List.setIfInBounds_toArray, List.set_cons_zero, List.set_cons_succ]
      refine WpT.tail (i := 6) rfl (by kernel_rfl) (by kernel_rfl) (fun K hK => ?_)
      go_simp; (try go_bits)
      refine hK _ _ ?_; clear hK K; try simp only [Act.put, List.setIfInBounds_toArray, List.set_cons_zero, List.set_cons_succ]
      refine WpT.done (by kernel_rfl) ?_ _
      go_wp2_with fail
      refine ⟨⟨j + 1, by omega, by go_num, (hb.trans (hS1.mono hz)).setCell hz9 _, ?_⟩, by simp [intOf]; omega⟩
      rw [HT.out]
      exact hB3.set 0 _
    · obtain rfl : j = kk := by omega
      go_wp2_with fail
      have hz11 : w.heap.size ≤ wr.heap.size := hb.size
      have hlt9 := hB.lt
      generalize hg11 : wr.heap.size = g11 at *
      have HG11 := Lib.hid hg11
      clear hg11
      generalize hr9 : crcR ones (joinL (l0.take j)) = rk at *
      have HR := Lib.hid hr9
      clear hr9 hc0 hf0
      go_loopw [12] (fun i wr => ∃ q : Nat, j ≤ q ∧ q ≤ n0 ∧ i = .int .i64 q ∧ Below w.heap.size w wr ∧ Blk wr g9 30 #[.int .u64 ((crcR ones (joinL (l0.take q))).toNat : Nat)] ∧ Blk wr g11 30 #[.int .u64 (rk.toNat : Nat)]) (fun i _ => n0 - (intOf i).toNat)
      case atStart => exact ⟨j, Nat.le_refl _, by omega, rfl, hb.alloc hb.size _, by rw [HR.out]; exact hB.alloc _, by rw [← HG11.out]; exact Blk.new _ _ _⟩
      case round =>
        clear hb hB hz
        obtain ⟨q, hjq, hq, rfl, hb, hB, hB1⟩ := hrel
        have hz := hb.size
        have hc0 := hB.cell 0
        have hf0 := hB.free 0
        have hc1 := hB1.cell 0
        simp at hc0 hc1
        by_cases hlt2 : q < n0
        · obtain ⟨ad, rfl, hcs⟩ := (HRD.out _ hb).str (k := q) hlt2 Z0.out
          have hss := FY.out.2 (l0[q]'(by have := Z0.out; omega)) (List.getElem_mem _)
          have HT : Hid (crcR ones (joinL (l0.take (q + 1))) = crcR (crcR ones (joinL (l0.take q))) (l0[q]'(by have := Z0.out; omega)).data.toList) := by
            show _ = _
            rw [List.take_succ_eq_append_getElem (by have := Z0.out; omega), joinL_snoc, crcR_append]
          generalize l0[q]'(by have := Z0.out; omega) = s at *
          generalize crcR ones (joinL (l0.take q)) = rj at *
          have hNr := hN.below hb
          clear hc1
          go_wp2_with fail
          refine wp_region_T 6 (by kernel_rfl) ?_
          -- region 14: 7 operations, tail from 6
          refine WpT.take (i := 0) rfl (by kernel_rfl) (fun _ _ _ h => h) (yields_blk rfl rfl rfl (by kernel_rfl) (by kernel_rfl) (by assumption)) ((Below.refl _ _).drew) ?_
          try simp only [Act.put, List.setIfInBounds_toArray, List.set_cons_zero, List.set_cons_succ]
          refine WpT.take (i := 1) rfl (by kernel_rfl) (fun _ _ _ h => h) (.inl ⟨by rfl, fun w hSw => by clear hSw; go_simp; (try go_bits); (try rw [if_pos (by omega)]); (try with_reducible rfl)⟩) ((Below.refl _ _).drew) ?_
          try simp only [Act.put, List.setIfInBounds_toArray, List.set_cons_zero, List.set_cons_succ]
          refine WpT.take (i := 2) rfl (by kernel_rfl) (fun _ _ _ h => h) (.inl ⟨by rfl, fun w hSw => by clear hSw; go_simp; (try go_bits); (try rw [if_pos (by omega)]); (try with_reducible rfl)⟩) ((Below.refl _ _).drew) ?_
          try simp only [Act.put, List.setIfInBounds_toArray, List.set_cons_zero, List.set_cons_succ]
          refine WpT.take (i := 3) rfl (by kernel_rfl) (fun _ _ _ h => h) (.inl ⟨by rfl, fun w hSw => by clear hSw; go_simp; (try go_bits); (try rw [if_pos (by omega)]); (try with_reducible rfl)⟩) ((Below.refl _ _).drew) ?_
          try simp only [Act.put, List.setIfInBounds_toArray, List.set_cons_zero, List.set_cons_succ]
          refine WpT.take (i := 4) rfl (by kernel_rfl) (fun _ _ _ h => h) (yields_load rfl rfl rfl (by kernel_rfl) (by assumption)) ((Below.refl _ _).drew) ?_
          try simp only [Act.put, List.setIfInBounds_toArray, List.set_cons_zero, List.set_cons_succ]
          refine WpT.one (i := 5) rfl (by kernel_rfl) (fun K hK => ?_)
          go_simp; refine (crcAdd_any rj s _ (by simp only [maxLen]; omega) (by exact hNr)).mono ?_; rintro e w3 ⟨rfl, hb3⟩; have hS1 : Below wr.heap.size wr w3 := bstep (Below.refl _ wr).drew hb3; have hB3 := hB.below hS1; have hc3 := hB3.cell 0; have hf3 := hB3.free 0; simp at hc3
          refine hK _ _ (hS1) ?_; clear hK K; try simp only [Act.put, List.setIfInBounds_toArray, List.set_cons_zero, List.set_cons_succ]
          refine WpT.tail (i := 6) rfl (by kernel_rfl) (by kernel_rfl) (fun K hK => ?_)
          go_simp; (try go_bits)
          refine hK _ _ ?_; clear hK K; try simp only [Act.put, List.setIfInBounds_toArray, List.set_cons_zero, List.set_cons_succ]
          refine WpT.done (by kernel_rfl) ?_ _
          go_wp2_with fail
          refine ⟨⟨q + 1, by omega, by omega, by go_num, (hb.trans (hS1.mono hz)).setCell hz9 _, ?_, (hB1.below hS1).far (by simp; omega) _⟩, by simp [intOf]; omega⟩
          rw [HT.out]
          exact hB3.set 0 _
        · obtain rfl : q = n0 := by omega
          rw [List.take_of_length_le (by have := Z0.out; omega)] at hc0 hB
          have HW := Lib.hid (show check (joinL l0) = crcR ones (joinL l0) ^^^ ones from rfl)
          have HH := Lib.hid (show check (joinL (l0.take j)) = crcR ones (joinL (l0.take j)) ^^^ ones from rfl)
          have HO := Lib.hid (show check (joinL (l0.take j) ++ s1.data.toList) = crcR (crcR ones (joinL (l0.take j))) s1.data.toList ^^^ ones from by unfold check; rw [crcR_append])
          have hjl := length_joinL l0 400 FY.out.2
          have hjt := length_joinL (l0.take j) 400 (fun s hs => FY.out.2 s (List.mem_of_mem_take hs))
          have hl1 : l0.length * 400 ≤ 12 * 400 := Nat.mul_le_mul_right _ FY.out.1
          have hl2 : (l0.take j).length * 400 ≤ 12 * 400 := Nat.mul_le_mul_right _ (by rw [List.length_take]; have := FY.out.1; omega)
          have HJL : Hid ((joinL l0).length ≤ 4800 ∧ (joinL (l0.take j)).length ≤ 4800) := (by omega : _ ∧ _)
          clear hjl hjt hl1 hl2
          go_wp2_with fail
          refine (crcAdd_any rk s1 _ (by simp only [maxLen]; omega) (hN.below hb)).mono ?_
          rintro e w4 ⟨rfl, hb4⟩
          replace hb := hb.trans (hb4.mono hz)
          have H9 := (hB.below hb4).alloc (.cells #[.int .u64 ((crcR rk s1.data.toList).toNat : Nat)] 30)
          have H11 := (hB1.below hb4).alloc (.cells #[.int .u64 ((crcR rk s1.data.toList).toNat : Nat)] 30)
          have H13 := Blk.new w4 30 #[.int .u64 ((crcR rk s1.data.toList).toNat : Nat)]
          clear hB hB1 hb4 hc0 hc1 hf0
          go_wp2_with fail
          replace hb := hb.alloc hb.size (.cells #[.int .u64 ((crcR rk s1.data.toList).toNat : Nat)] 30)
          generalize w4.alloc (.cells #[.int .u64 ((crcR rk s1.data.toList).toNat : Nat)] 30) = w5 at *
          generalize w4.heap.size = g13 at *
          refine (joined_any A0 q c0 l0 _ h12 (HRD.out _ hb) FY.out.2).mono ?_
          rintro e w' ⟨sw, rfl, hsw, rfl⟩
          have HSW := Lib.hid hsw
          clear hsw
          go_wp2_with fail
          refine (joined_any A0 j c0 (l0.take j) _ (by omega) ((sv_take l0 j ▸ (HRD.out _ hb).take hjq)) (fun s hs => FY.out.2 s (List.mem_of_mem_take hs))).mono ?_
          rintro e w' ⟨sh, rfl, hsh, rfl⟩
          have HSH := Lib.hid hsh
          clear hsh
          have Hsw9 : Hid (sw.data.toList.length ≤ maxLen) := by
            show _ ≤ _
            rw [HSW.out]; have := HJL.out.1; simp only [maxLen]; omega
          have Hsh9 : Hid (sh.data.toList.length ≤ maxLen) := by
            show _ ≤ _
            rw [HSH.out]; have := HJL.out.2; simp only [maxLen]; omega
          have hshs : sh.size ≤ 4800 := by
            have h3 : sh.data.toList.length = sh.size := by simp
            have h4 := HSH.out
            have := HJL.out.2
            rw [← h4] at this
            omega
          have HCW : Hid (((check sw.data.toList).toNat : Nat) = (crcR ones (joinL l0) ^^^ ones).toNat) := by show _ = _; rw [HSW.out, HW.out]
          have HCH : Hid (((check sh.data.toList).toNat : Nat) = (rk ^^^ ones).toNat) := by show _ = _; rw [HSH.out, HH.out, HR.out]
          have HCO : Hid (((check (sh ++ s1).data.toList).toNat : Nat) = (crcR rk s1.data.toList ^^^ ones).toNat) := by
            show _ = _
            rw [show (sh ++ s1).data.toList = sh.data.toList ++ s1.data.toList by simp, HSH.out, HO.out, HR.out]
          have Hso9 : Hid ((sh ++ s1).data.toList.length ≤ maxLen) := by
            show _ ≤ _
            rw [show (sh ++ s1).data.toList = sh.data.toList ++ s1.data.toList by simp, List.length_append]
            have h3 : s1.data.toList.length = s1.size := by simp
            have h4 : sh.data.toList.length = sh.size := by simp
            simp only [maxLen]; omega
          have hcl := H9.cell 0
          simp at hcl
          go_wp2_with fail
          clear hcl
          refine (crcValue_any (crcR ones (joinL l0)) _).mono ?_
          rintro e wv ⟨rfl, hbv⟩
          replace hb := hb.trans (hbv.mono hb.size)
          replace H9 := H9.below hbv
          replace H11 := H11.below hbv
          replace H13 := H13.below hbv
          clear hbv
          go_wp2_with (refine wpList_stbG rfl rfl bytesTy strTy rfl ?_; intro Av cv wx hrx hbx _)
          replace hb := hb.trans (hbx.mono hb.size)
          replace H9 := H9.below hbx
          replace H11 := H11.below hbx
          replace H13 := H13.below hbx
          clear hbx
          refine (crc40_any Av _ cv _ _ (Hsw9.out) hrx (hN.below hb)).mono ?_
          rintro e wy ⟨he, hby⟩
          rw [HCW.out] at he
          subst he
          replace hb := hb.trans (hby.mono hb.size)
          replace H9 := H9.below hby
          replace H11 := H11.below hby
          replace H13 := H13.below hby
          clear hby hrx
          have hcl := H11.cell 0
          simp at hcl
          go_wp2_with fail
          clear hcl
          refine (crcValue_any rk _).mono ?_
          rintro e wv ⟨rfl, hbv⟩
          replace hb := hb.trans (hbv.mono hb.size)
          replace H9 := H9.below hbv
          replace H11 := H11.below hbv
          replace H13 := H13.below hbv
          clear hbv
          go_wp2_with (refine wpList_stbG rfl rfl bytesTy strTy rfl ?_; intro Av cv wx hrx hbx _)
          replace hb := hb.trans (hbx.mono hb.size)
          replace H9 := H9.below hbx
          replace H11 := H11.below hbx
          replace H13 := H13.below hbx
          clear hbx
          refine (crc40_any Av _ cv _ _ (Hsh9.out) hrx (hN.below hb)).mono ?_
          rintro e wy ⟨he, hby⟩
          rw [HCH.out] at he
          subst he
          replace hb := hb.trans (hby.mono hb.size)
          replace H9 := H9.below hby
          replace H11 := H11.below hby
          replace H13 := H13.below hby
          clear hby hrx
          have hcl := H13.cell 0
          simp at hcl
          go_wp2_with fail
          clear hcl
          refine (crcValue_any (crcR rk s1.data.toList) _).mono ?_
          rintro e wv ⟨rfl, hbv⟩
          replace hb := hb.trans (hbv.mono hb.size)
          replace H9 := H9.below hbv
          replace H11 := H11.below hbv
          replace H13 := H13.below hbv
          clear hbv
          go_wp2_with (refine wpList_stbG rfl rfl bytesTy strTy rfl ?_; intro Av cv wx hrx hbx _)
          replace hb := hb.trans (hbx.mono hb.size)
          replace H9 := H9.below hbx
          replace H11 := H11.below hbx
          replace H13 := H13.below hbx
          clear hbx
          rw [show (sh ++ s1).size = sh.size + s1.size from ByteArray.size_append] at hrx
          refine (crc40_any Av _ cv _ _ (Hso9.out) hrx (hN.below hb)).mono ?_
          rintro e wy ⟨he, hby⟩
          rw [HCO.out] at he
          subst he
          replace hb := hb.trans (hby.mono hb.size)
          replace H9 := H9.below hby
          replace H11 := H11.below hby
          replace H13 := H13.below hby
          clear hby hrx
          go_wp2
          go_ret
          exact ⟨rfl, hb⟩
end Go.Proofs.YtnfmgklpibknfaaDoor
