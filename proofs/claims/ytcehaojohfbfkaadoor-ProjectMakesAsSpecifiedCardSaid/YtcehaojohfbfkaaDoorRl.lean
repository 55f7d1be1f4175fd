/-
  What Lines of the reference makes. Conditions: 64 bits; at most 8 lines of at most 32 coordinates.
-/
import Derived.Test.YtcehaojohfbfkaaDoorLnw
import Derived.Test.YtcehaojohfbfkaaDoorShort
import Derived.Test.YtcehaojohfbfkaaDoorAl
import Derived.Test.YtcehaojohfbfkaaDoorSn
namespace Go.Proofs.YtcehaojohfbfkaaDoor
set_option linter.unusedSimpArgs false
set_option linter.unusedVariables false
open Go.RowKit Proj Sha
def toHalf (seed k p : Int) (W : World) : Prop := Calls Tryd.prog 69 #[.int .i64 seed, .int .i64 k, .int .i64 p] W fun e w' => e = .returned (.agg (bv (halfL seed k p)).toArray) ∧ Below W.heap.size W w'
set_option maxRecDepth 20000 in
set_option maxHeartbeats 4000000 in
theorem half_any (seed k p : Int) (w : World) (hs : -9223372036854775808 ≤ seed ∧ seed ≤ 9223372036854775807) (hk : -9223372036854775808 ≤ k ∧ k ≤ 9223372036854775807) (hp : -9223372036854775808 ≤ p ∧ p ≤ 9223372036854775807) (hg : RCon w) : toHalf seed k p w := by
  have HG := Lib.hid hg
  clear hg
  have HF := Lib.hid (fits3 hs hk hp)
  have HHf := Lib.hid (length_halfL seed k p)
  have HW := Lib.hid (fun (A : Option Addr) (w : World) (hr : Rd w A 3 (iv [seed, k, p])) => refInts_any A 3 3 [seed, k, p] w hr (by omega) HF.out)
  have HO := Lib.hid (fun (A : Option Addr) (w : World) (hr : Rd w A 1 (sv [⟨(encInts [seed, k, p]).toArray⟩])) (hg : RCon w) => refOf_any 7 A 1 1 [⟨(encInts [seed, k, p]).toArray⟩] w (by omega) (by
    intro s hs
    simp only [List.mem_singleton] at hs
    subst hs
    have := encInts3_small seed k p
    show (encInts [seed, k, p]).toArray.size ≤ 400
    simp; omega) hr hg)
  rw [show dig16 (inputL 7 [⟨(encInts [seed, k, p]).toArray⟩]) = halfL seed k p from rfl] at HO
  unfold toHalf
  generalize encInts [seed, k, p] = E at HW HO
  generalize halfL seed k p = H at *
  clear HF
  have hz16 := zero_16
  have B0 : Below w.heap.size w (w.alloc (.cells zero16 55)) := (Below.refl _ _).alloc (Nat.le_refl _) _
  have hB := Blk.new w 55 zero16
  have r3 := litRow (w.alloc (.cells zero16 55)) #[.int .i64 seed, .int .i64 k, .int .i64 p] 3
  have b3 := (Below.refl (w.alloc (.cells zero16 55)).heap.size (w.alloc (.cells zero16 55))).alloc (Nat.le_refl _) (.cells #[.int .i64 seed, .int .i64 k, .int .i64 p] 3)
  rw [show (w.alloc (.cells zero16 55)).heap.size = w.heap.size + 1 by simp] at r3
  replace hB := hB.below b3
  have b4 := bstep B0 b3
  have HSZ : Hid ((bv H).toArray.size = 16) := Lib.hid (by simp [HHf.out])
  have HONE : Hid ((bv H).toArray.all (·.oneCell') = true) := Lib.hid (by simp [bv, Value.oneCell'])
  go_enter Tryd.func69, Tryd.ntmps69
  go_wp2_with fail
  refine (HW.out (some ⟨w.heap.size + 1, 0, none⟩) _ r3).mono ?_
  rintro e w3 ⟨v3, rfl, hown3, hb3⟩
  replace hB := hB.below hb3
  replace b4 := bstep b4 hb3
  clear b3 B0 hb3 r3
  obtain ⟨A3, n3', c3, rfl, hn3, hn3c, hc3, hr3⟩ := hown3.formN
  clear hown3 hn3
  go_wp2_with (refine wpList_bts rfl rfl bytesTy strTy rfl hr3 ?_)
  have b5 := (Below.refl w3.heap.size w3).alloc (Nat.le_refl _) (.cells #[.string ⟨E.toArray⟩] 9)
  replace hB := hB.below b5
  replace b4 := bstep b4 b5
  refine (HO.out (some ⟨w3.heap.size, 0, none⟩) _ (Rd.new1 w3 _ _) (HG.out.below b4)).mono ?_
  rintro e w5 ⟨rfl, hb5⟩
  replace hB := hB.below hb5
  replace b4 := bstep b4 hb5
  clear b5 hb5 hr3
  go_wp2_with (refine wpList_storeRow (g := w.heap.size) (o := 0) (vs := (bv H).toArray) rfl rfl rfl rfl hB (by rw [HSZ.out]; decide) (by rw [HSZ.out]; kernel_rfl) HONE.out ?_)
  have hf := hB.all (bv H).toArray (by rw [HSZ.out]; rfl)
  have bf := below_setCells b4 (g := w.heap.size) (Nat.le_refl _) 0 (bv H).toArray.toList
  refine ret_blk rfl rfl rfl hf (by kernel_rfl) (by rw [HSZ.out]; kernel_rfl) ⟨rfl, bf⟩
theorem dig_half (seed k : Int) (i : Nat) (h : i < 32) : (digL seed k)[i]? = (halfL seed k ((i / 16 : Nat) : Int))[i % 16]? := by
  have h0 := length_halfL seed k 0
  unfold digL
  by_cases h1 : i < 16
  · rw [List.getElem?_append_left (by omega), show i / 16 = 0 by omega, show i % 16 = i by omega]; rfl
  · rw [List.getElem?_append_right (by omega), h0, show i / 16 = 1 by omega, show i % 16 = i - 16 by omega]; rfl
theorem someB_snoc (l : List Int) (x : Int) : someB (l ++ [x]) = (someB l || x != 0) := by simp [someB]
structure HalfIs (seed k : Int) (D : List UInt8) : Prop where
  len : D.length = 32
  half : ∀ (i : Nat) (W : World), i < 32 → RCon W → ∃ H : List UInt8, H.length = 16 ∧ H[i % 16]? = D[i]? ∧
    Calls Tryd.prog 69 #[.int .i64 seed, .int .i64 k, .int .i64 ((i / 16 : Nat) : Int)] W fun e w' => e = .returned (.agg (bv H).toArray) ∧ Below W.heap.size W w'
theorem half_is (seed : Int) (k : Nat) (hs : -9223372036854775808 ≤ seed ∧ seed ≤ 9223372036854775807) (hk8 : k ≤ 8) : HalfIs seed k (digL seed k) :=
  ⟨length_digL seed k, fun i W h hg => ⟨halfL seed k ((i / 16 : Nat) : Int), length_halfL _ _ _, (dig_half seed k i h).symm, half_any seed k _ W hs (by omega) (by omega) hg⟩⟩
set_option maxRecDepth 20000 in
set_option maxHeartbeats 8000000 in
theorem refLine_any (seed : Int) (k d : Nat) (w : World) (hs : -9223372036854775808 ≤ seed ∧ seed ≤ 9223372036854775807) (hk8 : k ≤ 8) (hd0 : 1 ≤ d) (hd : d ≤ 32) (hg : RCon w) :
    Calls Tryd.prog 45 #[.int .i64 seed, .int .i64 k, .int .i64 d] w fun e w' => ∃ v, e = .returned v ∧ Own w' w.heap.size 3 v (iv (lineL seed k d)) ∧ Below w.heap.size w w' := by
  have HG := Lib.hid hg
  have HS := Lib.hid hs
  clear hg hs
  have HI := half_is seed k HS.out hk8
  have HLn := Lib.hid (lineL_eq seed k d)
  obtain ⟨T, hT⟩ : ∃ T, T = lineL seed k d := ⟨_, rfl⟩
  rw [← hT] at HLn ⊢
  clear hT
  generalize digL seed k = D at *
  have HLd := Lib.hid HI.len
  go_enter Tryd.func45, Tryd.ntmps45
  go_wp2_with fail
  go_loopw [7, 8, 9, 10, 11] (fun v z j _ _ wr => ∃ (i : Nat) (b : Bool), i ≤ d ∧ j = .int .i64 i ∧ z = .bool b ∧ Hid (b = !someB (rawD D i)) ∧ Below w.heap.size w wr ∧ Own wr w.heap.size 3 v (iv (rawD D i))) (fun _ _ j _ _ _ => d - (intOf j).toNat)
  case atStart => exact ⟨0, true, Nat.zero_le _, rfl, rfl, Lib.hid (by simp [rawD, someB]), Below.refl _ _, by simpa [rawD, iv] using Own.nil _ _ _⟩
  case round =>
    obtain ⟨i, b, hi, rfl, rfl, hz, hbw, hown⟩ := hrel
    by_cases hlt : i < d
    · obtain ⟨H, hHl, hdi, hHH⟩ := HI.half i wr (by omega) (HG.out.below hbw)
      have HHl := Lib.hid hHl
      have HH := Lib.hid hHH
      clear hHl hHH
      have hta : Int.tdiv (i : Int) 16 = ((i / 16 : Nat) : Int) := by rw [Int.tdiv_eq_ediv_of_nonneg (by omega)]; omega
      have hte : Int.tmod (i : Int) 16 = ((i % 16 : Nat) : Int) := by rw [Int.tmod_eq_emod_of_nonneg (by omega)]; omega
      have he16 : i % 16 < 16 := Nat.mod_lt _ (by omega)
      have ha2 : i / 16 ≤ 2 := by omega
      generalize i / 16 = a at *
      generalize hee : i % 16 = e at *
      have HS2 : Hid (rawD D (i + 1) = rawD D i ++ [digit (D[i]'(by have := HLd.out; omega))]) := Lib.hid (by
        unfold rawD
        rw [List.take_succ_eq_append_getElem (by have := HLd.out; omega), List.map_append, List.map_singleton])
      have hDi : H[e]? = some (D[i]'(by have := HLd.out; omega)) := by rw [hdi]; exact List.getElem?_eq_getElem _
      have hLr := Lib.hid (length_rawD D i (by have := HLd.out; omega))
      have hx1 : (0 : Int) ≤ ((D[i]'(by have := HLd.out; omega)).toNat : Int) := by omega
      have hx2 : ((D[i]'(by have := HLd.out; omega)).toNat : Int) ≤ 255 := by have := (D[i]'(by have := HLd.out; omega)).toNat_lt; omega
      have HDg := Lib.hid (show digit (D[i]'(by have := HLd.out; omega)) = ((D[i]'(by have := HLd.out; omega)).toNat : Int) % 3 - 1 from rfl)
      have HCell : Hid ((bv H).toArray[e]? = some (.int .u8 ((D[i]'(by have := HLd.out; omega)).toNat : Nat))) := Lib.hid (by simp [bv, hDi])
      generalize digit (D[i]'(by have := HLd.out; omega)) = y at *
      generalize ((D[i]'(by have := HLd.out; omega)).toNat : Int) = x at *
      have hq : Int.tmod x 3 = x % 3 := Int.tmod_eq_emod_of_nonneg hx1
      have HSZ : Hid ((bv H).toArray.size = 16) := Lib.hid (by simp [HHl.out])
      have HONE : Hid ((bv H).toArray.all (·.oneCell') = true) := Lib.hid (by simp [bv, Value.oneCell'])
      have hyx : x % 3 - 1 = y := HDg.out.symm
      have HZ2 : Hid ((b && y == 0) = !someB (rawD D (i + 1))) := Lib.hid (by
        rw [HS2.out, someB_snoc, hz.out]
        rw [show (y != 0) = !(y == 0) from rfl]
        cases someB (rawD D i) <;> cases (y == 0) <;> rfl)
      clear hdi hDi hee HDg
      go_wp2_with fail
      refine HH.out.mono ?_
      rintro e' w5 ⟨rfl, hb5⟩
      have hown5 := hown.below hb5
      have hbw5 := bstep hbw hb5
      clear hown hb5
      cases hy : (y == 0)
      all_goals
        rw [hy] at HZ2
        cases b
        all_goals
          simp only [Bool.and_true, Bool.and_false, Bool.false_and, Bool.true_and] at HZ2
          go_wp2_with (first
            | (refine wpList_newRow rfl rfl rfl rfl (zero_16 _) (fun _ => rfl) (fun _ => rfl) (by rw [HSZ.out]; rfl) (by rw [HSZ.out]; kernel_rfl) HONE.out ?_
               intro w6 g6 hg6 hbk6 hb6 hlt6
               clear hg6
               have hc6 := hbk6.cell e
               rw [HCell.out] at hc6
               have hown6 := hown5.below hb6
               have hbw6 := bstep hbw5 hb6)
            | (at_builtin; refine wpList_app rfl rfl elemI rfl (hown6.alloc _) rfl (Rd.new1 _ _ _) (one1 rfl) (by rw [length_iv, hLr.out]; omega) (by have := hbw6.size; simp; omega) ?_; intro v' w7 hown7 _ hb7 _))
          rw [show [Value.int IntKind.i64 y] = iv [y] from rfl, ← iv_app, ← HS2.out] at hown7
          exact ⟨⟨i + 1, _, by omega, by go_num, rfl, HZ2, (hbw6.alloc hbw6.size _).trans hb7, hown7⟩, by simp [intOf]; omega⟩
    · obtain rfl : i = d := by omega
      have hLr := Lib.hid (length_rawD D i (by have := HLd.out; omega))
      generalize rawD D i = ln at *
      cases b
      · have hsb : someB ln = true := by have := hz.out; simpa using this.symm
        rw [show fixL ln = ln by unfold fixL; rw [if_pos hsb]] at HLn
        clear hz hsb
        go_wp2
        go_ret
        exact ⟨_, rfl, by rw [HLn.out]; exact hown, hbw⟩
      · have hsb : ¬ someB ln = true := by have := hz.out; simpa using this.symm
        rw [show fixL ln = ln.set 0 1 by unfold fixL; rw [if_neg hsb]] at HLn
        clear hz hsb
        obtain ⟨g, c1, rfl, hg1, hn1c, hc1⟩ := hown.someN (by rw [length_iv, hLr.out]; omega)
        unfold Own at hown
        rw [length_iv, hLr.out] at hown hn1c ⊢
        have hi0 : 0 < i := by omega
        go_wp2_with (refine wpList_storeOwn (j := 0) (v := .int .i64 1) rfl rfl (by kernel_rfl) rfl rfl rfl hown (by omega) ?_; intro w5 hln5 hb5)
        rw [iv_set, ← HLn.out] at hln5
        have HTl : Hid (T.length = i) := Lib.hid (by rw [HLn.out, List.length_set]; exact hLr.out)
        go_ret
        refine ⟨_, rfl, ?_, hbw.trans hb5⟩
        unfold Own
        rw [length_iv, HTl.out]
        exact hln5
set_option maxRecDepth 20000 in
set_option maxHeartbeats 4000000 in
theorem refLines_any (seed : Int) (n d : Nat) (w : World) (hs : -9223372036854775808 ≤ seed ∧ seed ≤ 9223372036854775807) (hn : n ≤ 8) (hd0 : 1 ≤ d) (hd : d ≤ 32) (hg : RCon w) :
    Calls Tryd.prog 15 #[.int .i64 seed, .int .i64 n, .int .i64 d] w fun e w' => ∃ v, e = .returned v ∧ OwnR w' w.heap.size v (linesL seed n d) ∧ Below w.heap.size w w' := by
  have HG := Lib.hid hg
  have HS := Lib.hid hs
  clear hg hs
  go_enter Tryd.func15, Tryd.ntmps15
  go_wp2_with fail
  go_loopw [7, 8] (fun v j wr => ∃ k : Nat, k ≤ n ∧ j = .int .i64 k ∧ Below w.heap.size w wr ∧ OwnR wr w.heap.size v (linesL seed k d)) (fun _ j _ => n - (intOf j).toNat)
  case atStart => exact ⟨0, Nat.zero_le _, rfl, Below.refl _ _, OwnR.nil _ _⟩
  case round =>
    obtain ⟨k, hk, rfl, hbw, hown⟩ := hrel
    by_cases hlt : k < n
    · have HLs := Lib.hid (linesL_succ seed k d)
      go_wp2_with fail
      refine (refLine_any seed k d _ HS.out (by omega) hd0 hd (HG.out.below hbw)).mono ?_
      rintro e w5 ⟨u, rfl, hu, hb5⟩
      have hown5 := hown.below hb5
      have hl5 := hu.lower hbw.size
      have hB5 := bstep hbw hb5
      obtain ⟨Au, cu, rfl, _, _, _⟩ := hu.form
      clear hown hu hb5
      rw [length_iv, length_lineL seed k d hd] at hl5 ⊢
      go_wp2_with (at_builtin; refine wpList_appR rfl rfl rfl (hown5.alloc _) (hl5.alloc _) rfl (Rd.new1 _ _ _) (by rw [length_linesL]; omega) (by have := hB5.size; simp; omega) ?_; intro v' w7 hown7 hb7)
      rw [← HLs.out] at hown7
      exact ⟨⟨k + 1, by omega, by go_num, (hB5.alloc hB5.size _).trans hb7, hown7⟩, by simp [intOf]; omega⟩
    · obtain rfl : k = n := by omega
      go_wp2
      go_ret
      exact ⟨_, rfl, hown, hbw⟩
set_option maxRecDepth 20000 in
set_option maxHeartbeats 4000000 in
theorem sameLines_any (A : Option Addr) (n c : Nat) (B : Option Addr) (d : Nat) (ls : List (List Int)) (w : World) (ha : RdR w A n ls) (hb : RdR w B n ls) (hn : n ≤ 1000) (hl : ∀ l ∈ ls, l.length ≤ 1000) :
    Calls Tryd.prog 14 #[.slice A n c, .slice B n d] w fun e w' => e = .returned (.bool true) ∧ Below w.heap.size w w' := by
  have HLa := Lib.hid ha.len
  have HL := Lib.hid hl
  clear hl
  have hne : ((n : Int) != (n : Int)) = false := by simp
  go_enter Tryd.func14, Tryd.ntmps14
  go_wp2_with fail
  go_loopw [5] (fun j wr => ∃ k : Nat, k ≤ n ∧ j = .int .i64 k ∧ Below w.heap.size w wr) (fun j _ => n - (intOf j).toNat)
  case atStart => exact ⟨0, Nat.zero_le _, rfl, Below.refl _ _⟩
  case round =>
    obtain ⟨k, hk, rfl, hbw⟩ := hrel
    by_cases hlt : k < n
    · obtain ⟨ad, L, c', rfl, hc, hlc, hcm, hrl⟩ := (ha.below hbw).row k (by have := HLa.out; omega)
      obtain ⟨bd, L2, c2, rfl, hc2, hlc2, hcm2, hrl2⟩ := (hb.below hbw).row k (by have := HLa.out; omega)
      have HM := Lib.hid (HL.out _ (List.getElem_mem (show k < ls.length by have := HLa.out; omega)))
      generalize ls[k]'(by have := HLa.out; omega) = l at *
      go_wp2_with fail
      have hS0 : Below wr.heap.size wr wr.drew := (Below.refl _ wr).drew
      refine wp_region_T 10 (by kernel_rfl) ?_
      -- region 6: 10 operations, tail from 10
      refine WpT.take (i := 0) rfl (by kernel_rfl) (fun _ _ _ h => h) (.inl ⟨by rfl, fun w hSw => by clear hSw; go_simp; (try go_bits); (try rw [if_pos (by omega)]); (try with_reducible rfl)⟩) ((Below.refl _ _).drew) ?_
      try simp only [Act.put, List.setIfInBounds_toArray, List.set_cons_zero, List.set_cons_succ]
      refine WpT.take (i := 1) rfl (by kernel_rfl) (fun _ _ _ h => h) (.inl ⟨by rfl, fun w hSw => by clear hSw; go_simp; (try go_bits); (try rw [if_pos (by omega)]); (try with_reducible rfl)⟩) ((Below.refl _ _).drew) ?_
      try simp only [Act.put, List.setIfInBounds_toArray, List.set_cons_zero, List.set_cons_succ]
      refine WpT.take (i := 2) rfl (by kernel_rfl) (fun _ _ _ h => h) (.inl ⟨by rfl, fun w hSw => by clear hSw; go_simp; (try go_bits); (try rw [if_pos (by omega)]); (try with_reducible rfl)⟩) ((Below.refl _ _).drew) ?_
      try simp only [Act.put, List.setIfInBounds_toArray, List.set_cons_zero, List.set_cons_succ]
      refine WpT.take (i := 3) rfl (by kernel_rfl) (fun _ _ _ h => h) (yields_load rfl rfl rfl (by kernel_rfl) (by assumption)) ((Below.refl _ _).drew) ?_
      try simp only [Act.put, List.setIfInBounds_toArray, List.set_cons_zero, List.set_cons_succ]
      refine WpT.take (i := 4) rfl (by kernel_rfl) (fun _ _ _ h => h) (.inl ⟨by rfl, fun w hSw => by clear hSw; go_simp; (try go_bits); (try rw [if_pos (by omega)]); (try with_reducible rfl)⟩) ((Below.refl _ _).drew) ?_
      try simp only [Act.put, List.setIfInBounds_toArray, List.set_cons_zero, List.set_cons_succ]
      refine WpT.take (i := 5) rfl (by kernel_rfl) (fun _ _ _ h => h) (.inl ⟨by rfl, fun w hSw => by clear hSw; go_simp; (try go_bits); (try rw [if_pos (by omega)]); (try with_reducible rfl)⟩) ((Below.refl _ _).drew) ?_
      try simp only [Act.put, List.setIfInBounds_toArray, List.set_cons_zero, List.set_cons_succ]
      refine WpT.take (i := 6) rfl (by kernel_rfl) (fun _ _ _ h => h) (.inl ⟨by rfl, fun w hSw => by clear hSw; go_simp; (try go_bits); (try rw [if_pos (by omega)]); (try with_reducible rfl)⟩) ((Below.refl _ _).drew) ?_
      try simp only [Act.put, List.setIfInBounds_toArray, List.set_cons_zero, List.set_cons_succ]
      refine WpT.take (i := 7) rfl (by kernel_rfl) (fun _ _ _ h => h) (yields_load rfl rfl rfl (by kernel_rfl) (by assumption)) ((Below.refl _ _).drew) ?_
      try simp only [Act.put, List.setIfInBounds_toArray, List.set_cons_zero, List.set_cons_succ]
      refine WpT.one (i := 8) rfl (by kernel_rfl) (fun K hK => ?_)
      go_simp; refine (sameInts_any L l.length c' l L2 l.length c2 l _ (hrl.below hS0) (hrl2.below hS0) HM.out HM.out).mono ?_; rintro e w2 ⟨rfl, hb2⟩; rw [decide_eq_true rfl]; have hS2 := bstep hS0 hb2
      refine hK _ _ (hS2) ?_; clear hK K; try simp only [Act.put, List.setIfInBounds_toArray, List.set_cons_zero, List.set_cons_succ]
      refine WpT.take (i := 9) rfl (by kernel_rfl) (fun _ _ _ h => h) (.inl ⟨by rfl, fun w hSw => by clear hSw; go_simp; (try go_bits); (try rw [if_pos (by omega)]); (try with_reducible rfl)⟩) (hS2) ?_
      try simp only [Act.put, List.setIfInBounds_toArray, List.set_cons_zero, List.set_cons_succ]
      refine WpT.done (by kernel_rfl) ?_ _
      go_wp2_with fail
      exact ⟨⟨k + 1, by omega, by go_num, bstep hbw hS2⟩, by simp [intOf]; omega⟩
    · obtain rfl : k = n := by omega
      go_wp2
      go_ret
      exact ⟨rfl, hbw⟩
end Go.Proofs.YtcehaojohfbfkaaDoor
