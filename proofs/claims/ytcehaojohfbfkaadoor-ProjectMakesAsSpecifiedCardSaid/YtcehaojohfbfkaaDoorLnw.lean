/-
  What Lines of the program makes. Conditions: 64 bits; at most 8 lines of at most 32 coordinates.
-/
import Derived.Test.YtcehaojohfbfkaaDoorLns
namespace Go.Proofs.YtcehaojohfbfkaaDoor
set_option linter.unusedSimpArgs false
set_option linter.unusedVariables false
open Go.RowKit Proj Sha
theorem Rd.blk {w : World} {g : Nat} {T : TypeId} {l : List Value} {n : Nat} (h : Blk w g T l.toArray) (hn : l.length = n) : Rd w (some ⟨g, 0, none⟩) n l := by
  refine ⟨hn, fun k u hk => ⟨_, rfl, ?_⟩⟩
  rw [Addr.add_lit, h.cell]
  simpa using hk
theorem fits3 {a b c : Int} (ha : -9223372036854775808 ≤ a ∧ a ≤ 9223372036854775807) (hb : -9223372036854775808 ≤ b ∧ b ≤ 9223372036854775807) (hc : -9223372036854775808 ≤ c ∧ c ≤ 9223372036854775807) : fits64 [a, b, c] := by
  intro x hx
  simp only [List.mem_cons, List.not_mem_nil, or_false] at hx
  rcases hx with rfl | rfl | rfl <;> assumption
def halves (seed k : Int) : Nat → List UInt8
  | 0 => []
  | p + 1 => halves seed k p ++ halfL seed k p
theorem length_halves (seed k : Int) (p : Nat) : (halves seed k p).length = 16 * p := by
  induction p with
  | zero => rfl
  | succ p ih => simp only [halves, List.length_append, ih, length_halfL]; omega
theorem halves_2 (seed k : Int) : halves seed k 2 = digL seed k := by simp [halves, digL]
def rawD (D : List UInt8) (d : Nat) : List Int := (D.take d).map digit
theorem lineL_eq (seed k : Int) (d : Nat) : lineL seed k d = fixL (rawD (digL seed k) d) := rfl
theorem length_rawD (D : List UInt8) (d : Nat) (h : d ≤ D.length) : (rawD D d).length = d := by simp [rawD]; omega
theorem raw_step (D : List UInt8) (i : Nat) (z : List Int) (h : i < D.length) (hz : i < z.length) :
    (rawD D i ++ z.drop i).set i (digit D[i]) = rawD D (i + 1) ++ z.drop (i + 1) := by
  have hl := length_rawD D i (by omega)
  rw [List.drop_eq_getElem_cons (l := z) (i := i) (by omega), List.set_append_right _ _ (by omega), hl, Nat.sub_self, List.set_cons_zero]
  have e : rawD D (i + 1) = rawD D i ++ [digit D[i]] := by
    unfold rawD
    rw [List.take_succ_eq_append_getElem h, List.map_append, List.map_singleton]
  rw [e, List.append_assoc]
  rfl
set_option maxRecDepth 20000 in
set_option maxHeartbeats 8000000 in
theorem lines_any (seed : Int) (n d : Nat) (w : World) (hs : -9223372036854775808 ≤ seed ∧ seed ≤ 9223372036854775807) (hn : n ≤ 8) (hd0 : 1 ≤ d) (hd : d ≤ 32) (hg : GCon w) :
    Calls Tryd.prog 13 #[.int .i64 seed, .int .i64 n, .int .i64 d] w fun e w' => ∃ v, e = .returned v ∧ OwnR w' w.heap.size v (linesL seed n d) ∧ Below w.heap.size w w' := by
  have HG := Lib.hid hg
  have HS := Lib.hid hs
  clear hg hs
  go_enter Tryd.func13, Tryd.ntmps13
  go_wp2_with fail
  go_loopw [7, 8, 9, 10, 11, 12, 13, 15] (fun v _ _ _ _ _ _ j wr => ∃ k : Nat, k ≤ n ∧ j = .int .i64 k ∧ Below w.heap.size w wr ∧ OwnR wr w.heap.size v (linesL seed k d)) (fun _ _ _ _ _ _ _ j _ => n - (intOf j).toNat)
  case atStart => exact ⟨0, Nat.zero_le _, rfl, Below.refl _ _, OwnR.nil _ _⟩
  case round =>
    obtain ⟨k, hk, rfl, hbw, hown⟩ := hrel
    by_cases hlt : k < n
    · go_wp2_with fail
      obtain ⟨wo, rfl⟩ : ∃ wo : World, wo = wr := ⟨_, rfl⟩
      go_loopw [9, 10, 11, 18] (fun dg _ _ j w2 => ∃ p : Nat, p ≤ 2 ∧ j = .int .i64 p ∧ Below wo.heap.size wo w2 ∧ Own w2 wo.heap.size 5 dg (bv (halves seed k p))) (fun _ _ _ j _ => 2 - (intOf j).toNat)
      case atStart => exact ⟨0, Nat.zero_le _, rfl, Below.refl _ _, Own.nil _ _ _⟩
      case round =>
        obtain ⟨p, hp, rfl, hb2, hdg⟩ := hrel
        by_cases hlt2 : p < 2
        · have HF := Lib.hid (fits3 (a := seed) (b := k) (c := p) HS.out (by omega) (by omega))
          have HB := Lib.hid (show Below w.heap.size w wr from hbw.trans (hb2.mono hbw.size))
          have HH := Lib.hid (show halves seed k (p + 1) = halves seed k p ++ halfL seed k p from rfl)
          have HHl := Lib.hid (length_halves seed k p)
          have HHf := Lib.hid (length_halfL seed k p)
          have HW := Lib.hid (fun (A : Option Addr) (w : World) (hr : Rd w A 3 (iv [seed, k, p])) => wireInts_any A 3 3 [seed, k, p] w hr (by omega) HF.out)
          have HO := Lib.hid (fun (A : Option Addr) (w : World) (hr : Rd w A 1 (sv [⟨(encInts [seed, k, p]).toArray⟩])) (hg : GCon w) => of_any 7 A 1 1 [⟨(encInts [seed, k, p]).toArray⟩] w (by omega) (by
            intro s hs
            simp only [List.mem_singleton] at hs
            subst hs
            have := encInts3_small seed k p
            show (encInts [seed, k, p]).toArray.size ≤ 65536
            simp; omega) hr hg)
          rw [show dig16 (inputL 7 [⟨(encInts [seed, k, p]).toArray⟩]) = halfL seed k p from rfl] at HO
          generalize encInts [seed, k, p] = E at HW HO
          generalize halfL seed k p = H at HO HH HHf
          clear HF
          go_wp2_with fail
          have hb3 : Below wr.heap.size wr (wr.alloc (.cells #[.int .i64 seed, .int .i64 k, .int .i64 p] 3)) := (Below.refl _ _).alloc (Nat.le_refl _) _
          refine (HW.out (some ⟨wr.heap.size, 0, none⟩) _ (litRow wr #[.int .i64 seed, .int .i64 k, .int .i64 p] 3)).mono ?_
          rintro e w3 ⟨v3, rfl, hown3, hb3'⟩
          replace hb3 := bstep hb3 hb3'
          clear hb3'
          obtain ⟨A3, n3', c3, rfl, hn3, hn3c, hc3, hr3⟩ := hown3.formN
          clear hown3 hn3
          go_wp2_with (refine wpList_bts rfl rfl bytesTy strTy rfl hr3 ?_)
          have hb4 : Below wr.heap.size wr (w3.alloc (.cells #[.string ⟨E.toArray⟩] 9)) := bstep hb3 ((Below.refl _ _).alloc (Nat.le_refl _) _)
          refine (HO.out (some ⟨w3.heap.size, 0, none⟩) _ (Rd.new1 w3 _ _) (HG.out.below (bstep HB.out hb4))).mono ?_
          rintro e w5 ⟨rfl, hb5⟩
          replace hb5 := bstep hb4 hb5
          clear hb4 hb3 hr3
          have hsz : (bv H).toArray.size = 16 := by simp [HHf.out]
          have hone : (bv H).toArray.all (·.oneCell') = true := by simp [bv, Value.oneCell']
          have HSZ := Lib.hid hsz
          have HONE := Lib.hid hone
          clear hsz hone
          go_wp2_with (first
            | (refine wpList_newRow rfl rfl rfl rfl (zero_16 _) (fun _ => rfl) (fun _ => rfl) (by rw [HSZ.out]; rfl) (by rw [HSZ.out]; kernel_rfl) HONE.out ?_; intro w6 g6 hg6 hbk6 hb6 hlt6; clear hg6; have hB6 := bstep hb5 hb6; have hdg6 := hdg.below hB6; have hr6 := Rd.blk (n := 16) hbk6 (by rw [length_bv]; exact HHf.out))
            | (at_builtin; refine wpList_app rfl rfl elemBytes rfl hdg6 rfl hr6 (oneCell_bv _) (by rw [length_bv, HHl.out]; omega) (by have := hb2.size; have := hB6.size; omega) ?_; intro v' w7 hdg7 _ hb7 _))
          rw [← bv_append, ← HH.out] at hdg7
          exact ⟨⟨p + 1, by omega, by go_num, hb2.trans ((hB6.mono hb2.size).trans hb7), hdg7⟩, by simp [intOf]; omega⟩
        · obtain rfl : p = 2 := by omega
          rw [halves_2] at hdg
          have HLd := Lib.hid (length_digL seed k)
          have HLn := Lib.hid (lineL_eq seed k d)
          generalize digL seed k = D at *
          have hbwr := hbw.trans (hb2.mono hbw.size)
          obtain ⟨Ad, nd, cd, rfl, hnd, hndc, hcd, hrd⟩ := hdg.formN
          have HN := Lib.hid (show nd = 32 by have := hnd.out; rw [this, length_bv]; exact HLd.out)
          clear hnd hdg
          obtain ⟨i0, hi0, hz0, hz1, hz2⟩ := info_parts (show (Tryd.prog.info? 3).map (fun i => (i.zero, i.size, i.bytes)) = some (some (.int .i64 0), 1, 8) by kernel_rfl)
          go_wp2_with (at_make; refine wpList_make_full _ rfl _ _ 24 rfl wr.heap.size 3 i0 (.int .i64 0) 1 (by kernel_rfl) hi0 hz0 hz1 _ _ _ _ d rfl rfl rfl rfl (by rw [hz2]; omega) (by unfold maxLen; omega) (Nat.le_refl _) ?_; intro w1 hln hgrow; have hb1 : Below wr.heap.size wr w1 := (Below.refl _ wr).grown hgrow (Nat.le_refl _) (fun k hk => by cases hk); clear hgrow)
          clear hi0 hz0 hz1 hz2
          have hz : (madeCells (Value.int .i64 0).cells (d * 1)).toList = iv (List.replicate d 0) := by
            rw [Nat.mul_one]; show (madeCells #[Value.int .i64 0] d).toList = _; rw [toList_madeCells_one]; simp [iv]
          rw [hz] at hln
          clear hz
          obtain ⟨g, hg⟩ : ∃ g, g = wr.heap.size := ⟨_, rfl⟩
          rw [← hg] at hln ⊢
          have Hg := Lib.hid hg
          clear hg
          obtain ⟨wp, rfl⟩ : ∃ wp : World, wp = wr := ⟨_, rfl⟩
          go_loopw [13, 37] (fun _ j w2 => ∃ i : Nat, i ≤ d ∧ j = .int .i64 i ∧ Below wp.heap.size wp w2 ∧ w2.ownsRow g 3 1 (.slice (some ⟨g, 0, none⟩) d d) d (iv (rawD D i ++ (List.replicate d 0).drop i))) (fun _ j _ => d - (intOf j).toNat)
          case atStart => exact ⟨0, Nat.zero_le _, rfl, hb1, by simpa [rawD] using hln⟩
          case round =>
            clear hln hb1
            obtain ⟨i, hi, rfl, hb3, hln⟩ := hrel
            by_cases hlt3 : i < d
            · obtain ⟨ad, rfl, hc⟩ := (hrd.below hb3).byte (k := i) (by have := HN.out; omega) (by have := HN.out; have := HLd.out; omega)
              have HS := Lib.hid (raw_step D i (List.replicate d 0) (by have := HLd.out; omega) (by simp; omega))
              have hx1 : (0 : Int) ≤ ((D[i]'(by have := HLd.out; omega)).toNat : Int) := by omega
              have hx2 : ((D[i]'(by have := HLd.out; omega)).toNat : Int) ≤ 255 := by have := (D[i]'(by have := HLd.out; omega)).toNat_lt; omega
              have HDg := Lib.hid (show digit (D[i]'(by have := HLd.out; omega)) = ((D[i]'(by have := HLd.out; omega)).toNat : Int) % 3 - 1 from rfl)
              generalize digit (D[i]'(by have := HLd.out; omega)) = y at *
              generalize ((D[i]'(by have := HLd.out; omega)).toNat : Int) = x at *
              have hq : Int.tmod x 3 = x % 3 := Int.tmod_eq_emod_of_nonneg hx1
              have hilt : i < nd := by have := HN.out; omega
              go_wp2_with (refine wpList_storeOwn (j := i) (v := .int .i64 y) rfl rfl (by kernel_rfl) rfl (by rw [HDg.out]; rfl) rfl hln (by omega) ?_; intro w' hln2 hb4)
              rw [iv_set, HS.out] at hln2
              exact ⟨⟨i + 1, by omega, by go_num, hb3.trans (hb4.mono (by rw [Hg.out]; exact Nat.le_refl _)), hln2⟩, by simp [intOf]; omega⟩
            · obtain rfl : i = d := by omega
              rw [List.drop_of_length_le (by simp), List.append_nil] at hln
              have HRl := Lib.hid (length_rawD D i (by have := HLd.out; omega))
              have HNz := Lib.hid (n3_zero_iff (rawD D i))
              have HSm : Hid (∀ x ∈ rawD D i, ab x ≤ 2000) := Lib.hid (by
                intro x hx
                simp only [rawD, List.mem_map] at hx
                obtain ⟨b, _, rfl⟩ := hx
                have := digit_small b
                unfold ab; omega)
              have HLs := Lib.hid (linesL_succ seed k i)
              rw [HLn.out] at HLs
              generalize rawD D i = ln at *
              have hrl : Rd wr (some ⟨g, 0, none⟩) i (iv ln) := Rd.own hln
              have HB3 := Lib.hid (hbwr.trans (hb3.mono hbwr.size))
              go_wp2_with fail
              refine (norm_any 3 (some ⟨g, 0, none⟩) i i ln _ (by omega) hrl (by omega) HSm.out).mono ?_
              rintro e w4 ⟨rfl, hb4⟩
              rw [norm3_eq]
              have HW4 := Lib.hid (bstep (bstep hb2 hb3) hb4)
              replace hln := rowBelow hln hb4
              have hB4 := HB3.out.trans (hb4.mono HB3.out.size)
              by_cases hsb : someB ln = true
              · have hne : (n3 ln == 0) = false := by
                  rw [beq_eq_false_iff_ne]; intro h; rw [HNz.out] at h; rw [h] at hsb; cases hsb
                rw [show fixL ln = ln by unfold fixL; rw [if_pos hsb]] at HLs
                have hl5 : Own w4 w.heap.size 3 (.slice (some ⟨g, 0, none⟩) i i) (iv ln) := by
                  refine Own.lower (B := g) ?_ (by rw [Hg.out]; exact hbwr.size); unfold Own; rw [length_iv, HRl.out]; exact hln
                have hown5 := hown.below HW4.out
                have hB5 := hB4
                clear hrl hsb HSm HNz
                generalize n3 ln = N at *
                go_wp2_with (at_builtin; refine wpList_appR rfl rfl rfl (hown5.alloc _) (hl5.alloc _) rfl (Rd.new1 _ _ _) (by rw [length_linesL]; omega) (by have := hB5.size; simp; omega) ?_; intro v' w7 hown7 hb7)
                rw [← HLs.out] at hown7
                exact ⟨⟨k + 1, by omega, by go_num, (hB5.alloc hB5.size _).trans hb7, hown7⟩, by simp [intOf]; omega⟩
              · have hne : (n3 ln == 0) = true := by
                  rw [beq_iff_eq, HNz.out]; simpa using hsb
                rw [show fixL ln = ln.set 0 1 by unfold fixL; rw [if_neg hsb]] at HLs
                clear hrl hsb HSm HNz
                generalize n3 ln = N at *
                have hi0' : 0 < i := by omega
                have hnn : (0 : Int) < (i : Int) := by omega
                have HG1 := Lib.hid (show wo.heap.size ≤ g by rw [Hg.out]; exact hb2.size)
                have HG2 := Lib.hid (show w.heap.size ≤ g by rw [Hg.out]; exact hbwr.size)
                have HRl2 : Hid ((ln.set 0 1).length = i) := Lib.hid (by rw [List.length_set]; exact HRl.out)
                go_wp2_with (first
                  | (refine wpList_storeOwn (j := 0) (v := .int .i64 1) rfl rfl (by kernel_rfl) rfl rfl rfl hln (by omega) ?_
                     intro w5 hln5 hb5
                     rw [iv_set] at hln5
                     have hown5 := hown.below (HW4.out.trans (hb5.mono HG1.out))
                     have hB5 := hB4.trans (hb5.mono HG2.out)
                     have hl5 : Own w5 w.heap.size 3 (.slice (some ⟨g, 0, none⟩) i i) (iv (ln.set 0 1)) := Own.lower (B := g) (by unfold Own; rw [length_iv, HRl2.out]; exact hln5) HG2.out
                     clear hln)
                  | (at_builtin; refine wpList_appR rfl rfl rfl (hown5.alloc _) (hl5.alloc _) rfl (Rd.new1 _ _ _) (by rw [length_linesL]; omega) (by have := hB5.size; simp; omega) ?_; intro v' w7 hown7 hb7))
                rw [← HLs.out] at hown7
                exact ⟨⟨k + 1, by omega, by go_num, (hB5.alloc hB5.size _).trans hb7, hown7⟩, by simp [intOf]; omega⟩
    · obtain rfl : k = n := by omega
      go_wp2
      go_ret
      exact ⟨_, rfl, hown, hbw⟩
end Go.Proofs.YtcehaojohfbfkaaDoor
