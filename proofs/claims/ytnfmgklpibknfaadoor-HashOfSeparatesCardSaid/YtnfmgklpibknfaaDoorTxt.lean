/-
  What hex, Bytes32 and Text compute. Conditions: none.
-/
import Derived.Test.YtnfmgklpibknfaaDoorSha6
namespace Go.Proofs.YtnfmgklpibknfaaDoor
set_option linter.unusedSimpArgs false
set_option linter.unusedVariables false
open Go.RowKit

/-- A hexadecimal digit. -/
def hd (x : Nat) : Nat := if x < 10 then 48 + x else 87 + x
def hexB (b : UInt8) : List UInt8 := [UInt8.ofNat (hd (b.toNat / 16)), UInt8.ofNat (hd (b.toNat % 16))]
def hexL (l : List UInt8) : List UInt8 := l.flatMap hexB
theorem hexL_snoc (l : List UInt8) (b : UInt8) : hexL (l ++ [b]) = hexL l ++ hexB b := by simp [hexL]
theorem length_hexL (l : List UInt8) : (hexL l).length = 2 * l.length := by
  induction l with
  | nil => rfl
  | cons x l ih =>
    show (hexB x ++ hexL l).length = _
    rw [List.length_append, ih]; simp [hexB]; omega
theorem hd_lt (x : Nat) (h : x < 16) : hd x < 256 := by unfold hd; split <;> omega
theorem index_hex (i : Int) (h0 : 0 ≤ i) (h1 : i < 16) (W : World) :
    (Instr.index 9 (.string ⟨#[48, 49, 50, 51, 52, 53, 54, 55, 56, 57, 97, 98, 99, 100, 101, 102]⟩) (.int .u8 i)).run Tryd.prog W = .ok (.int .u8 ((hd i.toNat : Nat) : Int)) W := by
  obtain ⟨n, rfl⟩ := Int.eq_ofNat_of_zero_le h0
  have hn : n < 16 := by omega
  rw [run_index_string _ _ _ _ _ (by kernel_rfl)]
  rcases n with _|_|_|_|_|_|_|_|_|_|_|_|_|_|_|_|n <;> first | rfl | omega
/-- A region whose values do not hang on the world. -/
theorem wp_region_TS {P : Program} {ops : Array Oper} {Q : Exit → Act → World → Prop} {id : Nat} {a : Act} {w : World} {S : World → Prop} (t : Nat) (hm : P.follows .mixedOrders = true)
    (h : WpT P ops Q S t ops.size (Array.replicate ops.size false) a w.drew) : (Code.region id ops true).wp P Q a w :=
  wp_region_any hm (WpT.any _ _ _ _ h)
/-- The row of two that a literal makes. -/
theorem Rd.lit2 (w : World) (u v : Value) (t : TypeId) : Rd (w.alloc (.cells #[u, v] t)) (some ⟨w.heap.size, 0, none⟩) 2 [u, v] := by
  refine ⟨rfl, fun k x hk => ⟨_, rfl, ?_⟩⟩
  match k, hk with
  | 0, hk =>
    have e : u = x := by simpa using hk
    subst e
    simp [Addr.add]
  | 1, hk =>
    have e : v = x := by simpa using hk
    subst e
    simp [Addr.add]
theorem two1 {u v : Value} (h : u.oneCell' = true) (h2 : v.oneCell' = true) : ∀ x ∈ [u, v], x.oneCell' = true := by
  intro x hx
  simp at hx
  rcases hx with rfl | rfl
  · exact h
  · exact h2
set_option maxHeartbeats 1000000 in
theorem hex_any (s : ByteArray) (w : World) (hs : s.size ≤ 1073741824) :
    Calls Tryd.prog 37 #[.string s] w fun e w' => e = .returned (.string ⟨(hexL s.data.toList).toArray⟩) ∧ Below w.heap.size w w' := by
  go_enter Tryd.func37, Tryd.ntmps37
  go_wp2
  go_loopw [4, 5] (fun v i wr => ∃ k : Nat, k ≤ s.size ∧ i = .int .i64 k ∧ Own wr w.heap.size 5 v (bv (hexL (s.data.toList.take k))) ∧ Below w.heap.size w wr) (fun _ i _ => s.size - (intOf i).toNat)
  case atStart => exact ⟨0, Nat.zero_le _, rfl, Own.nil _ _ _, Below.refl _ _⟩
  case round =>
    obtain ⟨k, hk, rfl, hown, hb⟩ := hrel
    by_cases hlt : k < s.size
    · have hz := hb.size
      have hbl : s[k].toNat < 256 := s[k].toNat_lt
      have hsn : hexL (s.data.toList.take (k + 1)) = hexL (s.data.toList.take k) ++ [UInt8.ofNat (hd (s[k].toNat / 16)), UInt8.ofNat (hd (s[k].toNat % 16))] := by
        rw [List.take_succ_eq_append_getElem (by simpa using hlt), hexL_snoc]; rfl
      have HS := Lib.hid hsn
      clear hsn
      have hl : (bv (hexL (s.data.toList.take k))).length ≤ 2 * s.size := by rw [length_bv, length_hexL, List.length_take]; omega
      have h1 := fun W => index_hex ((s[k].toNat : Int) / 16) (by omega) (by omega) W
      have h2 := fun W => index_hex ((s[k].toNat : Int) % 16) (by omega) (by omega) W
      have e1 : ((s[k].toNat : Int) / 16).toNat = s[k].toNat / 16 := by omega
      have e2 : ((s[k].toNat : Int) % 16).toNat = s[k].toNat % 16 := by omega
      rw [e1] at h1
      rw [e2] at h2
      clear e1 e2
      have g1 := hd_lt (s[k].toNat / 16) (by omega)
      have g2 := hd_lt (s[k].toNat % 16) (by omega)
      go_upto_region 6 with (fail)
      refine wp_region_TS (S := fun _ => True) 15 (by kernel_rfl) ?_
      -- region 6: 16 operations, tail from 15
      refine WpT.take (i := 0) rfl (by kernel_rfl) (fun _ _ _ h => h) (.inl ⟨by rfl, fun w hSw => by clear hSw; go_simp; (try go_bits); (try rw [if_pos (by omega)]); (try with_reducible rfl)⟩) (trivial) ?_
      try simp only [Act.put, List.setIfInBounds_toArray, List.set_cons_zero, List.set_cons_succ]
      refine WpT.take (i := 1) rfl (by kernel_rfl) (fun _ _ _ h => h) (.inl ⟨by rfl, fun w hSw => by clear hSw; go_simp; (try go_bits); (try rw [if_pos (by omega)]); (try with_reducible rfl)⟩) (trivial) ?_
      try simp only [Act.put, List.setIfInBounds_toArray, List.set_cons_zero, List.set_cons_succ]
      refine WpT.take (i := 2) rfl (by kernel_rfl) (fun _ _ _ h => h) (.inl ⟨by rfl, fun w hSw => by clear hSw; go_simp; (try go_bits); (try rw [if_pos (by omega)]); (try with_reducible rfl)⟩) (trivial) ?_
      try simp only [Act.put, List.setIfInBounds_toArray, List.set_cons_zero, List.set_cons_succ]
      refine WpT.take (i := 3) rfl (by kernel_rfl) (fun _ _ _ h => h) (.inl ⟨by rfl, fun w hSw => by clear hSw; go_simp; (try go_bits); (try rw [if_pos (by omega)]); (try with_reducible rfl)⟩) (trivial) ?_
      try simp only [Act.put, List.setIfInBounds_toArray, List.set_cons_zero, List.set_cons_succ]
      refine WpT.take (i := 4) rfl (by kernel_rfl) (fun _ _ _ h => h) (.inl ⟨by rfl, fun w hSw => by clear hSw; go_simp; (try go_bits); (try rw [if_pos (by omega)]); (try with_reducible rfl)⟩) (trivial) ?_
      try simp only [Act.put, List.setIfInBounds_toArray, List.set_cons_zero, List.set_cons_succ]
      refine WpT.take (i := 5) rfl (by kernel_rfl) (fun _ _ _ h => h) (.inl ⟨by rfl, fun w hSw => by clear hSw; go_simp; (try go_bits); (try rw [if_pos (by omega)]); (try with_reducible rfl)⟩) (trivial) ?_
      try simp only [Act.put, List.setIfInBounds_toArray, List.set_cons_zero, List.set_cons_succ]
      refine WpT.take (i := 6) rfl (by kernel_rfl) (fun _ _ _ h => h) (.inl ⟨by rfl, fun w hSw => by clear hSw; go_simp; (try go_bits); (try rw [if_pos (by omega)]); (try with_reducible rfl)⟩) (trivial) ?_
      try simp only [Act.put, List.setIfInBounds_toArray, List.set_cons_zero, List.set_cons_succ]
      refine WpT.take (i := 7) rfl (by kernel_rfl) (fun _ _ _ h => h) (.inl ⟨by rfl, fun w hSw => by clear hSw; go_simp; (try go_bits); (try rw [if_pos (by omega)]); (try with_reducible rfl)⟩) (trivial) ?_
      try simp only [Act.put, List.setIfInBounds_toArray, List.set_cons_zero, List.set_cons_succ]
      refine WpT.take (i := 8) rfl (by kernel_rfl) (fun _ _ _ h => h) (.inl ⟨by rfl, fun w hSw => by clear hSw; go_simp; (try go_bits); (try rw [if_pos (by omega)]); (try with_reducible rfl)⟩) (trivial) ?_
      try simp only [Act.put, List.setIfInBounds_toArray, List.set_cons_zero, List.set_cons_succ]
      refine WpT.take (i := 9) rfl (by kernel_rfl) (fun _ _ _ h => h) (.inl ⟨by rfl, fun w hSw => by clear hSw; go_simp; (try go_bits); (try rw [if_pos (by omega)]); (try with_reducible rfl)⟩) (trivial) ?_
      try simp only [Act.put, List.setIfInBounds_toArray, List.set_cons_zero, List.set_cons_succ]
      refine WpT.take (i := 10) rfl (by kernel_rfl) (fun _ _ _ h => h) (.inl ⟨by rfl, fun w hSw => by clear hSw; go_simp; (try go_bits); (try rw [if_pos (by omega)]); (try with_reducible rfl)⟩) (trivial) ?_
      try simp only [Act.put, List.setIfInBounds_toArray, List.set_cons_zero, List.set_cons_succ]
      refine WpT.take (i := 11) rfl (by kernel_rfl) (fun _ _ _ h => h) (.inl ⟨by rfl, fun w hSw => by clear hSw; go_simp; (try go_bits); (try rw [if_pos (by omega)]); (try with_reducible rfl)⟩) (trivial) ?_
      try simp only [Act.put, List.setIfInBounds_toArray, List.set_cons_zero, List.set_cons_succ]
      refine WpT.take (i := 12) rfl (by kernel_rfl) (fun _ _ _ h => h) (.inl ⟨by rfl, fun w hSw => by clear hSw; go_simp; (try go_bits); (try rw [if_pos (by omega)]); (try with_reducible rfl)⟩) (trivial) ?_
      try simp only [Act.put, List.setIfInBounds_toArray, List.set_cons_zero, List.set_cons_succ]
      refine WpT.one (i := 13) rfl (by kernel_rfl) (fun K hK => ?_)
      go_simp; (try go_bits)
      refine hK _ _ (trivial) ?_; clear hK K; try simp only [Act.put, List.setIfInBounds_toArray, List.set_cons_zero, List.set_cons_succ]
      refine WpT.one (i := 14) rfl (by kernel_rfl) (fun K hK => ?_)
      refine wp_app rfl elemBytes rfl (hown.alloc _).drew rfl ((Rd.lit2 wr (.int .u8 ((hd (s[k].toNat / 16) : Nat) : Int)) (.int .u8 ((hd (s[k].toNat % 16) : Nat) : Int)) 5).below ((Below.refl _ _).drew)) (two1 rfl rfl) (by omega) (by simp; omega) ?_; intro v' w' hown' hg' hb' _
      refine hK _ _ (trivial) ?_; clear hK K; try simp only [Act.put, List.setIfInBounds_toArray, List.set_cons_zero, List.set_cons_succ]
      refine WpT.tail (i := 15) rfl (by kernel_rfl) (by kernel_rfl) (fun K hK => ?_)
      go_simp; (try go_bits)
      refine hK _ _ ?_; clear hK K; try simp only [Act.put, List.setIfInBounds_toArray, List.set_cons_zero, List.set_cons_succ]
      refine WpT.done (by kernel_rfl) ?_ _
      have hbx : Below w.heap.size wr w' := ((Below.refl _ _).alloc hz _).drew.trans hb'
      go_wp2_with fail
      refine ⟨⟨k + 1, by omega, by go_num, ?_, hb.trans hbx⟩, by simp [intOf]; omega⟩
      rw [HS.out, bv_append]
      have e : bv [UInt8.ofNat (hd (s[k].toNat / 16)), UInt8.ofNat (hd (s[k].toNat % 16))] = [.int .u8 ((hd (s[k].toNat / 16) : Nat) : Int), .int .u8 ((hd (s[k].toNat % 16) : Nat) : Int)] := by
        simp only [bv, List.map_cons, List.map_nil, UInt8.toNat_ofNat']
        rw [Nat.mod_eq_of_lt g1, Nat.mod_eq_of_lt g2]
      rw [e]; exact hown'
    · obtain rfl : k = s.size := by omega
      obtain ⟨A, n, c, rfl, hn, _, _, hr⟩ := hown.formN
      rw [List.take_of_length_le (by simp)] at hr
      clear hown hn
      go_wp2_with (refine wpList_bts rfl rfl bytesTy strTy rfl hr ?_)
      go_ret
      exact ⟨rfl, hb⟩
set_option maxHeartbeats 1000000 in
theorem bytes32_any (l : List UInt8) (w : World) (hl : l.length = 32) :
    Calls Tryd.prog 38 #[.agg (bv l).toArray] w fun e w' => e = .returned (.string ⟨l.toArray⟩) ∧ Below w.heap.size w w' := by
  go_enter Tryd.func38, Tryd.ntmps38
  go_wp2
  go_loopw [3, 4] (fun v i wr => ∃ k : Nat, k ≤ 32 ∧ i = .int .i64 k ∧ Own wr (w.heap.size + 1) 5 v (bv (l.take k)) ∧ Below w.heap.size w wr ∧ w.heap.size + 1 ≤ wr.heap.size ∧ Blk wr w.heap.size 47 (bv l).toArray) (fun _ i _ => 32 - (intOf i).toNat)
  case atStart => exact ⟨0, Nat.zero_le _, rfl, Own.nil _ _ _, (Below.refl _ _).alloc (Nat.le_refl _) _, by simp, Blk.new _ _ _⟩
  case round =>
    obtain ⟨k, hk, rfl, hown, hb, hz, hB⟩ := hrel
    by_cases hlt : k < 32
    · have hc := hB.cell k
      rw [show (bv l).toArray[k]? = some (.int .u8 (l[k].toNat : Nat)) by simp [bv, hl, hlt]] at hc
      have hlb : (bv (l.take k)).length ≤ 32 := by rw [length_bv, List.length_take]; omega
      have HT := Lib.hid (List.take_succ_eq_append_getElem (show k < l.length by omega))
      generalize l[k] = x at *
      go_wp2_with (at_builtin; refine wpList_app rfl rfl elemBytes rfl (hown.alloc _) rfl (Rd.new1 _ _ _) (one1 rfl) (by omega) (by simp; omega) ?_; intro v' w' hown' hg' hb' _)
      have hbx : Below (w.heap.size + 1) wr w' := ((Below.refl _ _).alloc hz _).trans hb'
      refine ⟨⟨k + 1, by omega, by go_num, ?_, hb.trans (hbx.mono (by omega)), by have := hbx.size; omega, hB.below' hbx (by omega)⟩, by simp [intOf]; omega⟩
      rw [HT.out, bv_append]
      exact hown'
    · obtain rfl : k = 32 := by omega
      obtain ⟨A, n, c, rfl, hn, _, _, hr⟩ := hown.formN
      rw [List.take_of_length_le (by omega)] at hr
      clear hown hn
      go_wp2_with (refine wpList_bts rfl rfl bytesTy strTy rfl hr ?_)
      go_ret
      exact ⟨rfl, hb⟩
set_option maxHeartbeats 1000000 in
theorem text_any (l : List UInt8) (w : World) (hl : l.length = 16) :
    Calls Tryd.prog 39 #[.agg (bv l).toArray] w fun e w' => e = .returned (.string ⟨l.toArray⟩) ∧ Below w.heap.size w w' := by
  go_enter Tryd.func39, Tryd.ntmps39
  go_wp2
  go_loopw [3, 4] (fun v i wr => ∃ k : Nat, k ≤ 16 ∧ i = .int .i64 k ∧ Own wr (w.heap.size + 1) 5 v (bv (l.take k)) ∧ Below w.heap.size w wr ∧ w.heap.size + 1 ≤ wr.heap.size ∧ Blk wr w.heap.size 58 (bv l).toArray) (fun _ i _ => 16 - (intOf i).toNat)
  case atStart => exact ⟨0, Nat.zero_le _, rfl, Own.nil _ _ _, (Below.refl _ _).alloc (Nat.le_refl _) _, by simp, Blk.new _ _ _⟩
  case round =>
    obtain ⟨k, hk, rfl, hown, hb, hz, hB⟩ := hrel
    by_cases hlt : k < 16
    · have hc := hB.cell k
      rw [show (bv l).toArray[k]? = some (.int .u8 (l[k].toNat : Nat)) by simp [bv, hl, hlt]] at hc
      have hlb : (bv (l.take k)).length ≤ 16 := by rw [length_bv, List.length_take]; omega
      have HT := Lib.hid (List.take_succ_eq_append_getElem (show k < l.length by omega))
      generalize l[k] = x at *
      go_wp2_with (at_builtin; refine wpList_app rfl rfl elemBytes rfl (hown.alloc _) rfl (Rd.new1 _ _ _) (one1 rfl) (by omega) (by simp; omega) ?_; intro v' w' hown' hg' hb' _)
      have hbx : Below (w.heap.size + 1) wr w' := ((Below.refl _ _).alloc hz _).trans hb'
      refine ⟨⟨k + 1, by omega, by go_num, ?_, hb.trans (hbx.mono (by omega)), by have := hbx.size; omega, hB.below' hbx (by omega)⟩, by simp [intOf]; omega⟩
      rw [HT.out, bv_append]
      exact hown'
    · obtain rfl : k = 16 := by omega
      obtain ⟨A, n, c, rfl, hn, _, _, hr⟩ := hown.formN
      rw [List.take_of_length_le (by omega)] at hr
      clear hown hn
      go_wp2_with (refine wpList_bts rfl rfl bytesTy strTy rfl hr ?_)
      go_ret
      exact ⟨rfl, hb⟩
end Go.Proofs.YtnfmgklpibknfaaDoor
