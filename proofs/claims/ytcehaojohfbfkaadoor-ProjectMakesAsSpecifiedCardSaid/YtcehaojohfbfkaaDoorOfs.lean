/-
  What Of is, in the program and in the reference. Conditions: the numbers are small.
-/
import Derived.Test.YtcehaojohfbfkaaDoorOfr
namespace Go.Proofs.YtcehaojohfbfkaaDoor
set_option linter.unusedSimpArgs false
set_option linter.unusedVariables false
open Go.RowKit Proj
/-- Vectors as the walks take them. -/
structure VecsOk (vs : List (List Int)) (d : Nat) : Prop where
  len : ∀ l ∈ vs, l.length = d
  le : ∀ l ∈ vs, ∀ x ∈ l, ab x ≤ 1000
set_option maxRecDepth 20000 in
set_option maxHeartbeats 4000000 in
theorem of_ranges (A : Option Addr) (n c : Nat) (ls : List (List Int)) (B : Option Addr) (m d : Nat) (v : List Int) (vs : List (List Int)) (D : Nat) (w : World) (ha : RdR w A n ls) (hb : RdR w B m (v :: vs)) (hn : n ≤ 1000) (hn0 : 0 < n) (hm : m ≤ 1000) (hmd : m ≤ d) (hd : d ≤ maxLen) (hD : D ≤ 64) (hL : LinesOk ls D) (hV : VecsOk (v :: vs) D) :
    Calls Tryd.prog 17 #[.slice A n c, .slice B m d] w fun e w' => ∃ u, e = .returned u ∧ OwnP w' w.heap.size u (rangesOf ls v vs) ∧ Below w.heap.size w w' := by
  have HLa := Lib.hid ha.len
  have HLb := Lib.hid (show vs.length + 1 = m by have := hb.len; simpa using this)
  have HL := Lib.hid hL
  have HV := Lib.hid hV
  have hm1 : 1 ≤ m := by have := HLb.out; omega
  have hcut := hb.cut (cap := d) (k := 1) hm1 hmd
  obtain ⟨bd, L0, c0, rfl, hc0, hlc0, hcm0, hrl0⟩ := hb.row 0 (by simp)
  rw [show bd.add 0 = bd from rfl] at hc0
  simp only [List.getElem_cons_zero] at hc0 hlc0 hrl0
  simp only [List.drop_succ_cons, List.drop_zero] at hcut
  have HLv := Lib.hid (show v.length = D by exact HV.out.len v (by simp))
  have HVv := Lib.hid (show ∀ x ∈ v, ab x ≤ 1000 from HV.out.le v (by simp))
  have HVs := Lib.hid (show VecsOk vs D from ⟨fun l hl => HV.out.len l (by simp [hl]), fun l hl => HV.out.le l (by simp [hl])⟩)
  clear hL hV HV hb
  simp only [maxLen] at hd
  have hmf : ∀ (fn : Fn) (first cap : Array Value) (w : World), (Instr.makeFunc fn first cap).run Tryd.prog w = .ok (.func fn first cap) w := fun _ _ _ _ => rfl
  have hb0 : Below w.heap.size w (w.alloc (.cells #[.slice A n c] 22)) := (Below.refl _ _).alloc (Nat.le_refl _) _
  have hbc : (w.alloc (.cells #[.slice A n c] 22)).cell? ⟨w.heap.size, 0, none⟩ = some (.slice A n c) := by rw [(Blk.new w 22 #[.slice A n c]).cell]; rfl
  go_enter Tryd.func17, Tryd.ntmps17
  replace hc0 := cell_below hb0 hc0
  go_wp2_with fail
  refine (ofOne_any A n c ls L0 v.length c0 v _ _ hbc (ha.below hb0) (hrl0.below hb0) hn (by have := HLv.out; omega) (by rw [HLv.out]; exact HL.out) HVv.out).mono ?_
  rintro e w1 ⟨u, rfl, hown, hb1⟩
  replace hbc := cell_below hb1 hbc
  replace hb1 := hb0.trans (hb1.mono hb0.size)
  replace hown := hown.lower hb0.size
  have HO : Hid (OwnP w1 w.heap.size u (rangesOf ls v [])) := Lib.hid (by rw [rangesOf_nil]; exact hown)
  clear hown hb0
  have hcutw := hcut.below hb1
  have HM1 : Hid (vs.length = m - 1) := Lib.hid (by have := HLb.out; omega)
  have hM2 : m - 1 ≤ 1000 := by omega
  clear hcut
  go_wp2_with fail
  all_goals
    clear hc0 hrl0
    first
      | (have hX : RdR w1 (some (⟨bd.block, bd.off + 1, none⟩ : Addr)) (m - 1) vs := by (rw [if_neg (by omega)] at hcutw; exact hcutw)
         generalize (⟨bd.block, bd.off + 1, none⟩ : Addr) = X at hX ⊢)
      | (have hX : RdR w1 (some bd) (m - 1) vs := by (rw [if_pos (by omega)] at hcutw; exact hcutw)
         obtain ⟨X, rfl⟩ : ∃ X, bd = X := ⟨_, rfl⟩)
    clear hcutw
    generalize m - 1 = M at *
    go_loopw [6, 8, 18] (fun u _ j wr => ∃ k : Nat, k ≤ M ∧ j = .int .i64 k ∧ Below w.heap.size w wr ∧ Below w1.heap.size w1 wr ∧ OwnP wr w.heap.size u (rangesOf ls v (vs.take k))) (fun _ _ j _ => M - (intOf j).toNat)
    case atStart => exact ⟨0, Nat.zero_le _, rfl, hb1, Below.refl _ _, HO.out⟩
    case round =>
      clear HO
      obtain ⟨k, hk, rfl, hbw, hbw1, hown⟩ := hrel
      by_cases hlt : k < M
      · obtain ⟨ad, L, c', he, hc, hlc, hcm, hrl⟩ := (hX.below hbw1).row k (by have := HM1.out; omega)
        injection he with he
        subst he
        have HT := Lib.hid (List.take_succ_eq_append_getElem (show k < vs.length by have := HM1.out; omega))
        have HM := Lib.hid (List.getElem_mem (show k < vs.length by have := HM1.out; omega))
        generalize vs[k]'(by have := HM1.out; omega) = l at *
        have HS : Hid (rangesOf ls v (vs.take (k + 1)) = join (rangesOf ls v (vs.take k)) (pt (apply ls l))) := Lib.hid (by rw [HT.out, rangesOf_snoc])
        have hbc' := cell_below hbw1 hbc
        go_wp2_with fail
        refine (ofOne_any A n c ls L l.length c' l _ _ hbc' (ha.below hbw) hrl hn (by have := HVs.out.len l HM.out; omega) (by rw [HVs.out.len l HM.out]; exact HL.out) (HVs.out.le l HM.out)).mono ?_
        rintro e w2 ⟨u2, rfl, hown2, hb2⟩
        replace hown := hown.below hb2
        obtain ⟨A1, cp1, rfl, hl1, hm1', hr1⟩ := hown.form
        obtain ⟨A2, cp2, rfl, hl2, hm2', hr2⟩ := hown2.form
        have hln : (pt (apply ls l)).length = n := by simp [pt, apply, HLa.out]
        rw [length_rangesOf, HLa.out] at hr1 hl1 ⊢
        rw [hln] at hr2 hl2 ⊢
        clear hown hown2 hc hbc' hrl
        go_wp2_with fail
        refine (join_any A1 n cp1 _ A2 cp2 _ _ hr1 hr2 hn hn0).mono ?_
        rintro e w3 ⟨u3, rfl, hown3, hb3⟩
        rw [← HS.out] at hown3
        have hB3 := bstep (bstep hbw1 hb2) hb3
        go_wp2_with fail
        exact ⟨⟨k + 1, by omega, by go_num, hb1.trans (hB3.mono hb1.size), hB3, hown3.lower (by have := hb1.size; have := hbw1.size; have := hb2.size; omega)⟩, by simp [intOf]; omega⟩
      · obtain rfl : k = M := by omega
        have HT := Lib.hid (show vs.take k = vs by rw [List.take_of_length_le (by have := HM1.out; omega)])
        rw [HT.out] at hown
        go_wp2
        go_ret
        exact ⟨_, rfl, hown, hbw⟩
end Go.Proofs.YtcehaojohfbfkaaDoor
