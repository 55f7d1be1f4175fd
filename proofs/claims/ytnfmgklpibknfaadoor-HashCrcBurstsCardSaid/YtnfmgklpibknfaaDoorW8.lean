/-
  The walk of HashCrcBursts. Conditions: the tables read as the program lays them.
-/
import Derived.Test.YtnfmgklpibknfaaDoorXor
import Derived.Test.YtnfmgklpibknfaaDoorLies
namespace Go.Proofs.YtnfmgklpibknfaaDoor
set_option linter.unusedSimpArgs false
set_option linter.unusedVariables false
open Go.RowKit Sha Crc
theorem bit64_int (p i : Nat) (hp : p < 18446744073709551616) : bits .and .u64 ((p : Int) / 2 ^ i) 1 = if p.testBit i then 1 else 0 := by
  rw [show ((p : Int) / 2 ^ i) = ((p / 2 ^ i : Nat) : Int) by simp, show (1 : Int) = ((1 : Nat) : Int) from rfl]
  have h1 : p / 2 ^ i < 2 ^ 64 := Nat.lt_of_le_of_lt (Nat.div_le_self _ _) hp
  rw [u64_and_nat _ _ (by omega) (by omega), nat_mask1, Nat.testBit_eq_decide_div_mod_eq]
  have : p / 2 ^ i % 2 < 2 := Nat.mod_lt _ (by omega)
  rcases h : p / 2 ^ i % 2 with _ | _ | x
  · rfl
  · rfl
  · omega
def flipB (t : Nat) : UInt8 := UInt8.ofNat (2 ^ (7 - t % 8))
theorem flipB_nat (t : Nat) : (flipB t).toNat = 2 ^ (7 - t % 8) := by
  unfold flipB
  rw [UInt8.toNat_ofNat']
  have h : 2 ^ (7 - t % 8) ≤ 2 ^ 7 := Nat.pow_le_pow_right (by omega) (by omega)
  exact Nat.mod_eq_of_lt (by omega)
theorem shl1_u8 (t : Nat) : (2 : Int) ^ (7 - t % 8) % 256 = (((flipB t).toNat : Nat) : Int) := by
  have h : 2 ^ (7 - t % 8) ≤ 2 ^ 7 := Nat.pow_le_pow_right (by omega) (by omega)
  rw [flipB_nat, show (2 : Int) ^ (7 - t % 8) = ((2 ^ (7 - t % 8) : Nat) : Int) by simp]
  generalize 2 ^ (7 - t % 8) = z at *
  omega
/-- The pattern's first k bits are not all 0. -/
def someB (p k : Nat) : Bool := decide (vp p k ≠ 0)
theorem someB_skip (p k : Nat) (h : p.testBit k = false) : someB p (k + 1) = someB p k := by
  unfold someB; rw [vp, h]; simp; omega
theorem someB_flip (p k : Nat) (h : p.testBit k = true) : someB p (k + 1) = true := by
  unfold someB; rw [vp, h]; simp
/-- What the loop has made: o is l with the first k bits of the pattern turned. -/
structure Turned (l o : List UInt8) (p m k : Nat) : Prop where
  len : o.length = l.length
  crc : crcR ones o = crcR ones l ^^^ off p m k
theorem Turned.zero (l : List UInt8) (p m : Nat) : Turned l l p m 0 := ⟨rfl, by rw [off_zero, BitVec.xor_zero]⟩
theorem Turned.skip {l o : List UInt8} {p m k : Nat} (h : Turned l o p m k) (hk : k < 40) (hm : k < m) (hb : p.testBit k = false) : Turned l o p m (k + 1) :=
  ⟨h.len, by rw [off_skip p m k hk hm hb]; exact h.crc⟩
theorem Turned.flip {l o : List UInt8} {p m k t : Nat} (h : Turned l o p m k) (hk : k < 40) (hm : k < m) (hb : p.testBit k = true) (ht : t + (m - k) = 8 * l.length) (hi : t / 8 < o.length) :
    Turned l (o.set (t / 8) (o[t / 8] ^^^ flipB t)) p m (k + 1) := by
  refine ⟨by rw [List.length_set, h.len], ?_⟩
  have hl := h.len
  rw [crcR_flip o (t / 8) (t % 8) (flipB t) hi (Nat.mod_lt _ (by omega)) (flipB_nat t), h.crc, off_flip p m k hk hm hb, BitVec.xor_assoc, show 8 * (o.length - t / 8) + 39 - t % 8 = m - k + 39 by omega]
theorem Turned.same {l o : List UInt8} {p m k : Nat} (h : Turned l o p m k) (hs : someB p k = false) : check o = check l := by
  have hv : vp p k = 0 := by simpa [someB] using hs
  unfold check
  rw [h.crc]
  unfold off
  rw [hv, show BitVec.ofNat 40 0 = 0#40 from rfl, Mi_zero, BitVec.xor_zero]
theorem Turned.other {l o : List UInt8} {p m k : Nat} (h : Turned l o p m k) (hk : k ≤ 40) (hs : someB p k = true) : check l ≠ check o := by
  intro he
  have hv : vp p k ≠ 0 := by simpa [someB] using hs
  refine hv (off_none p m k hk ?_)
  unfold check at he
  rw [h.crc] at he
  generalize crcR ones l = x at *
  generalize off p m k = y at *
  have e : x ^^^ (x ^^^ ones) = x ^^^ (x ^^^ y ^^^ ones) := by rw [he]
  rw [← BitVec.xor_assoc, BitVec.xor_self, BitVec.zero_xor, ← BitVec.xor_assoc, ← BitVec.xor_assoc, BitVec.xor_self, BitVec.zero_xor] at e
  have e2 : ones ^^^ ones = (y ^^^ ones) ^^^ ones := by rw [← e]
  rw [BitVec.xor_self, BitVec.xor_assoc, BitVec.xor_self, BitVec.xor_zero] at e2
  exact e2.symm
set_option maxHeartbeats 2000000 in
theorem walkHashCrcBursts (A0 : Option Addr) (n0 c0 : Nat) (l0 : List UInt8) (a1 a2 : Int) (w : World)
    (_x0 : n0 ≤ c0) (y0 : c0 ≤ maxLen) (z0 : l0.length = n0) (r0 : Rd w A0 n0 (bv l0)) (f1 : (Lit.int .u16 a1).wf = true) (f2 : (Lit.int .u64 a2).wf = true) (hN : GNib w) (hC : GCon w) :
    Calls Tryd.prog 10 #[.slice A0 n0 c0, .int .u16 a1, .int .u64 a2] w fun e w' => e = .returned (.bool true) ∧ Below w.heap.size w w' := by
  have Z0 := Lib.hid z0
  clear z0
  unfold maxLen at y0
  obtain ⟨at_, rfl, ha⟩ : ∃ k : Nat, a1 = (k : Int) ∧ k < 65536 := by
    simp [Lit.wf, IntKind.min, IntKind.max, IntKind.bits, IntKind.signed] at f1
    exact ⟨a1.toNat, by omega, by omega⟩
  obtain ⟨p, rfl, hp⟩ : ∃ k : Nat, a2 = (k : Int) ∧ k < 18446744073709551616 := by
    simp [Lit.wf, IntKind.min, IntKind.max, IntKind.bits, IntKind.signed] at f2
    exact ⟨a2.toNat, by omega, by omega⟩
  clear f1 f2
  by_cases hz : n0 = 0
  · subst hz
    go_enter Tryd.func10, Tryd.ntmps10
    go_wp2_with fail
    refine (sanity_any w hN hC).mono ?_
    rintro e w1 ⟨rfl, hb1⟩
    go_wp2
    go_ret
    exact ⟨rfl, hb1⟩
  by_cases h400 : 400 < n0
  · have e0 : ((n0 : Int) == 0) = false := by simp; omega
    have d0 : decide ((400 : Int) < (n0 : Int)) = true := by simp; omega
    go_enter Tryd.func10, Tryd.ntmps10
    go_wp2_with fail
    refine (sanity_any w hN hC).mono ?_
    rintro e w1 ⟨rfl, hb1⟩
    go_wp2
    go_ret
    exact ⟨rfl, hb1⟩
  have e0 : ((n0 : Int) == 0) = false := by simp; omega
  have d0 : decide ((400 : Int) < (n0 : Int)) = false := by simp; omega
  go_enter Tryd.func10, Tryd.ntmps10
  go_wp2_with fail
  refine (sanity_any w hN hC).mono ?_
  rintro e w1 ⟨rfl, hb⟩
  go_upto_region 4 with (fail)
  refine wp_region_lit ?_
  iterate 6 go_step
  refine wpList_app rfl rfl elemBytes rfl (Own.lit w1 w.heap.size 5 [] hb.size (by simp [maxLen])) rfl ((r0.below hb).below ((Below.refl _ _).alloc (Nat.le_refl _) _)) (oneCell_bv _) (by simp; omega) (by have := hb.size; simp; omega) ?_
  intro v8 w2 o8 _ hb2 _
  rw [List.nil_append] at o8
  replace hb := (hb.alloc hb.size _).trans hb2
  clear hb2
  obtain ⟨g, c8, hv8, hg, hc8, hm8, hL⟩ := o8.lies (by rw [Z0.out]; omega)
  rw [Z0.out] at hv8 hc8
  subst hv8
  clear o8
  obtain ⟨first, hf0⟩ : ∃ k : Nat, k = at_ % (8 * n0) := ⟨_, rfl⟩
  have hfirst : first < 8 * n0 := by rw [hf0]; exact Nat.mod_lt _ (by omega)
  have hfi : (at_ : Int) % (8 * (n0 : Int)) = (first : Int) := by rw [hf0]; push_cast; rfl
  clear hf0
  simp only [Act.put]
  go_wp2_with fail
  simp only [hfi]
  clear hfi
  go_loopw [10, 11, 12] (fun s i _ wr => ∃ (k : Nat) (o : List UInt8), k ≤ 40 ∧ first + k ≤ 8 * n0 ∧ i = .int .i64 k ∧ s = .bool (someB p k) ∧ Turned l0 o p (8 * n0 - first) k ∧ Below w.heap.size w wr ∧ Lies wr g o) (fun _ i _ _ => 40 - (intOf i).toNat)
  case atStart => exact ⟨0, l0, by omega, by omega, rfl, rfl, Turned.zero _ _ _, hb, hL⟩
  case round =>
    clear hb hL
    obtain ⟨k, o, hk, hk8, rfl, rfl, hT, hb, hL⟩ := hrel
    by_cases hgo : k < 40 ∧ first + k < 8 * n0
    · obtain ⟨hg1, hg2⟩ := hgo
      have b1 : decide ((k : Int) < 40) = true := by simp; omega
      have b2 : decide ((first : Int) + (k : Int) < 8 * (n0 : Int)) = true := by simp; omega
      have hbi := bit64_int p k hp
      by_cases hbit : p.testBit k = true
      · rw [hbit, if_pos rfl] at hbi
        have hsf := Lib.hid (someB_flip p k hbit)
        obtain ⟨t, ht⟩ : ∃ t : Nat, t = first + k := ⟨_, rfl⟩
        have hti : t / 8 < o.length := by rw [hT.len, Z0.out]; omega
        have hFl := hT.flip hg1 (by omega) hbit (t := t) (by rw [Z0.out]; omega) hti
        have hti8 : (first : Int) + (k : Int) = (t : Int) := by omega
        have htn : t < 8 * n0 := by omega
        have hc := hL.cell (t / 8) hti
        have hf := hL.free (t / 8)
        have hxx := u8_xor (o[t / 8]) (flipB t)
        have hsh := shl1_u8 t
        clear ht hbit hT
        go_upto_region 12 with (fail)
        refine wp_region_T 14 (by kernel_rfl) ?_
        -- region 12: 15 operations, tail from 14
        refine WpT.take (i := 0) rfl (by kernel_rfl) (fun _ _ _ h => h) (.inl ⟨by rfl, fun w hSw => by clear hSw; go_simp; (try go_bits); (try rw [if_pos (by omega)]); (try with_reducible rfl)⟩) ((Below.refl _ _).drew) ?_
        try simp only [Act.put, List.setIfInBounds_toArray, List.set_cons_zero, List.set_cons_succ]
        refine WpT.take (i := 1) rfl (by kernel_rfl) (fun _ _ _ h => h) (.inl ⟨by rfl, fun w hSw => by clear hSw; go_simp; (try go_bits); (try rw [if_pos (by omega)]); (try with_reducible rfl)⟩) ((Below.refl _ _).drew) ?_
        try simp only [Act.put, List.setIfInBounds_toArray, List.set_cons_zero, List.set_cons_succ]
        refine WpT.take (i := 2) rfl (by kernel_rfl) (fun _ _ _ h => h) (.inl ⟨by rfl, fun w hSw => by clear hSw; go_simp; (try go_bits); (try rw [if_pos (by omega)]); (try with_reducible rfl)⟩) ((Below.refl _ _).drew) ?_
        try simp only [Act.put, List.setIfInBounds_toArray, List.set_cons_zero, List.set_cons_succ]
        refine WpT.take (i := 3) rfl (by kernel_rfl) (fun _ _ _ h => h) (.inl ⟨by rfl, fun w hSw => by clear hSw; go_simp; (try go_bits); (try rw [if_pos (by omega)]); (try with_reducible rfl)⟩) ((Below.refl _ _).drew) ?_
        try simp only [Act.put, List.setIfInBounds_toArray, List.set_cons_zero, List.set_cons_succ]
        refine WpT.take (i := 4) rfl (by kernel_rfl) (fun _ _ _ h => h) (.inl ⟨by rfl, fun w hSw => by clear hSw; go_simp; (try go_bits); (try rw [if_pos (by omega)]); (try with_reducible rfl)⟩) ((Below.refl _ _).drew) ?_
        try simp only [Act.put, List.setIfInBounds_toArray, List.set_cons_zero, List.set_cons_succ]
        refine WpT.take (i := 5) rfl (by kernel_rfl) (fun _ _ _ h => h) (.inl ⟨by rfl, fun w hSw => by clear hSw; go_simp; (try go_bits); (try rw [if_pos (by omega)]); (try with_reducible rfl)⟩) ((Below.refl _ _).drew) ?_
        try simp only [Act.put, List.setIfInBounds_toArray, List.set_cons_zero, List.set_cons_succ]
        refine WpT.take (i := 6) rfl (by kernel_rfl) (fun _ _ _ h => h) (.inl ⟨by rfl, fun w hSw => by clear hSw; go_simp; (try go_bits); (try rw [if_pos (by omega)]); (try with_reducible rfl)⟩) ((Below.refl _ _).drew) ?_
        try simp only [Act.put, List.setIfInBounds_toArray, List.set_cons_zero, List.set_cons_succ]
        refine WpT.take (i := 7) rfl (by kernel_rfl) (fun _ _ _ h => h) (yields_load rfl rfl rfl (by kernel_rfl) (by assumption)) ((Below.refl _ _).drew) ?_
        try simp only [Act.put, List.setIfInBounds_toArray, List.set_cons_zero, List.set_cons_succ]
        refine WpT.take (i := 8) rfl (by kernel_rfl) (fun _ _ _ h => h) (.inl ⟨by rfl, fun w hSw => by clear hSw; go_simp; (try go_bits); (try rw [if_pos (by omega)]); (try with_reducible rfl)⟩) ((Below.refl _ _).drew) ?_
        try simp only [Act.put, List.setIfInBounds_toArray, List.set_cons_zero, List.set_cons_succ]
        refine WpT.take (i := 9) rfl (by kernel_rfl) (fun _ _ _ h => h) (.inl ⟨by rfl, fun w hSw => by clear hSw; go_simp; (try go_bits); (try rw [if_pos (by omega)]); (try with_reducible rfl)⟩) ((Below.refl _ _).drew) ?_
        try simp only [Act.put, List.setIfInBounds_toArray, List.set_cons_zero, List.set_cons_succ]
        refine WpT.take (i := 10) rfl (by kernel_rfl) (fun _ _ _ h => h) (.inl ⟨by rfl, fun w hSw => by clear hSw; go_simp; (try go_bits); (try rw [if_pos (by omega)]); (try with_reducible rfl)⟩) ((Below.refl _ _).drew) ?_
        try simp only [Act.put, List.setIfInBounds_toArray, List.set_cons_zero, List.set_cons_succ]
        refine WpT.take (i := 11) rfl (by kernel_rfl) (fun _ _ _ h => h) (.inl ⟨by rfl, fun w hSw => by clear hSw; go_simp; (try go_bits); (try rw [if_pos (by omega)]); (try with_reducible rfl)⟩) ((Below.refl _ _).drew) ?_
        try simp only [Act.put, List.setIfInBounds_toArray, List.set_cons_zero, List.set_cons_succ]
        refine WpT.take (i := 12) rfl (by kernel_rfl) (fun _ _ _ h => h) (.inl ⟨by rfl, fun w hSw => by clear hSw; go_simp; (try go_bits); (try rw [if_pos (by omega)]); (try with_reducible rfl)⟩) ((Below.refl _ _).drew) ?_
        try simp only [Act.put, List.setIfInBounds_toArray, List.set_cons_zero, List.set_cons_succ]
        refine WpT.take (i := 13) rfl (by kernel_rfl) (fun _ _ _ h => h) (.inl ⟨by rfl, fun w hSw => by clear hSw; go_simp; (try go_bits); (try rw [if_pos (by omega)]); (try with_reducible rfl)⟩) ((Below.refl _ _).drew) ?_
        try simp only [Act.put, List.setIfInBounds_toArray, List.set_cons_zero, List.set_cons_succ]
        refine WpT.tail (i := 14) rfl (by kernel_rfl) (by kernel_rfl) (fun K hK => ?_)
        go_simp; (try go_bits)
        refine hK _ _ ?_; clear hK K; try simp only [Act.put, List.setIfInBounds_toArray, List.set_cons_zero, List.set_cons_succ]
        refine WpT.done (by kernel_rfl) ?_ _
        go_wp2_with fail
        refine ⟨⟨k + 1, _, by omega, by omega, by go_num, by rw [hsf.out], hFl, (hb.setCell hg _).drew, (hL.set (t / 8) _).below (Below.refl _ _).drew⟩, by simp [intOf]; omega⟩
      · have hb0 : p.testBit k = false := by simpa using hbit
        rw [if_neg hbit] at hbi
        have hsk := Lib.hid (someB_skip p k hb0)
        have hT2 := hT.skip hg1 (by omega) hb0
        clear hbit hb0 hT
        go_wp2_with fail
        exact ⟨⟨k + 1, o, by omega, by omega, by go_num, by rw [hsk.out], hT2, hb, hL⟩, by simp [intOf]; omega⟩
    · have hlo : Hid (o.length = n0) := by show _ = _; rw [hT.len, Z0.out]
      have hrd := hL.rd hlo.out
      have hend : k = 40 ∨ (k < 40 ∧ first + k = 8 * n0) := by omega
      clear hgo hL
      cases hsb : someB p k with
      | false =>
        have HSM := Lib.hid (hT.same hsb)
        clear hT hsb
        rcases hend with h1 | ⟨h1, h2⟩
        · have b1 : decide ((k : Int) < 40) = false := by simp; omega
          go_wp2_with fail
          refine (crc40_any A0 n0 c0 l0 _ (by rw [Z0.out]; simp only [maxLen]; omega) (r0.below hb) (hN.below hb)).mono ?_
          rintro e w3 ⟨rfl, hb3⟩
          have hb4 := hb.trans (hb3.mono hb.size)
          have hrd4 := hrd.below hb3
          clear hb hb3 hrd
          go_wp2_with fail
          refine (crc40_any (some ⟨g, 0, none⟩) n0 c8 o _ (by rw [hlo.out]; simp only [maxLen]; omega) hrd4 (hN.below hb4)).mono ?_
          rintro e w5 ⟨he, hb5⟩
          rw [HSM.out] at he
          subst he
          replace hb4 := hb4.trans (hb5.mono hb4.size)
          clear hb5 hrd4
          go_wp2
          go_ret
          exact ⟨rfl, hb4⟩
        · have b1 : decide ((k : Int) < 40) = true := by simp; omega
          have b2 : decide ((first : Int) + (k : Int) < 8 * (n0 : Int)) = false := by simp; omega
          go_wp2_with fail
          refine (crc40_any A0 n0 c0 l0 _ (by rw [Z0.out]; simp only [maxLen]; omega) (r0.below hb) (hN.below hb)).mono ?_
          rintro e w3 ⟨rfl, hb3⟩
          have hb4 := hb.trans (hb3.mono hb.size)
          have hrd4 := hrd.below hb3
          clear hb hb3 hrd
          go_wp2_with fail
          refine (crc40_any (some ⟨g, 0, none⟩) n0 c8 o _ (by rw [hlo.out]; simp only [maxLen]; omega) hrd4 (hN.below hb4)).mono ?_
          rintro e w5 ⟨he, hb5⟩
          rw [HSM.out] at he
          subst he
          replace hb4 := hb4.trans (hb5.mono hb4.size)
          clear hb5 hrd4
          go_wp2
          go_ret
          exact ⟨rfl, hb4⟩
      | true =>
        have hne : (((check l0).toNat : Int) == ((check o).toNat : Int)) = false := by
          have h := hT.other hk hsb
          simp only [beq_eq_false_iff_ne, ne_eq]
          intro hx
          exact h (BitVec.eq_of_toNat_eq (by omega))
        clear hT hsb
        rcases hend with h1 | ⟨h1, h2⟩
        · have b1 : decide ((k : Int) < 40) = false := by simp; omega
          go_wp2_with fail
          refine (crc40_any A0 n0 c0 l0 _ (by rw [Z0.out]; simp only [maxLen]; omega) (r0.below hb) (hN.below hb)).mono ?_
          rintro e w3 ⟨rfl, hb3⟩
          have hb4 := hb.trans (hb3.mono hb.size)
          have hrd4 := hrd.below hb3
          clear hb hb3 hrd
          go_wp2_with fail
          refine (crc40_any (some ⟨g, 0, none⟩) n0 c8 o _ (by rw [hlo.out]; simp only [maxLen]; omega) hrd4 (hN.below hb4)).mono ?_
          rintro e w5 ⟨he, hb5⟩
          subst he
          replace hb4 := hb4.trans (hb5.mono hb4.size)
          clear hb5 hrd4
          go_wp2
          go_ret
          exact ⟨rfl, hb4⟩
        · have b1 : decide ((k : Int) < 40) = true := by simp; omega
          have b2 : decide ((first : Int) + (k : Int) < 8 * (n0 : Int)) = false := by simp; omega
          go_wp2_with fail
          refine (crc40_any A0 n0 c0 l0 _ (by rw [Z0.out]; simp only [maxLen]; omega) (r0.below hb) (hN.below hb)).mono ?_
          rintro e w3 ⟨rfl, hb3⟩
          have hb4 := hb.trans (hb3.mono hb.size)
          have hrd4 := hrd.below hb3
          clear hb hb3 hrd
          go_wp2_with fail
          refine (crc40_any (some ⟨g, 0, none⟩) n0 c8 o _ (by rw [hlo.out]; simp only [maxLen]; omega) hrd4 (hN.below hb4)).mono ?_
          rintro e w5 ⟨he, hb5⟩
          subst he
          replace hb4 := hb4.trans (hb5.mono hb4.size)
          clear hb5 hrd4
          go_wp2
          go_ret
          exact ⟨rfl, hb4⟩
end Go.Proofs.YtnfmgklpibknfaaDoor
