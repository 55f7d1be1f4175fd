/-
  The library's binary search at keys, place. Conditions: a ring's keys stand in order.
-/
import Derived.Test.YtfnpeclomcnpeaaDoorPl
namespace Go.Proofs.YtfnpeclomcnpeaaDoor
set_option linter.unusedSimpArgs false
set_option linter.unusedVariables false
open Go.RowKit Ring
/-- The two cells or the key that one is held against. -/
abbrev keyC (z : Key) : Array Value := #[.int .i64 z.party, .int .i64 z.serial, .string z.secret, .int .i64 z.frm, .int .i64 z.til]
set_option maxRecDepth 20000 in
set_option maxHeartbeats 2000000 in
theorem search_any (A : Option Addr) (n c : Nat) (l : List Key) (z : Key) (w : World) (hn : n ≤ 100000) (hr : RdK w A n l) (hs : Sorted l) :
    Calls Tryd.prog 49 #[.slice A n c, keyV z, .func (.func 50) #[] #[]] w fun e w' => e = .returned (.tuple #[.int .i64 (low z l), .bool (find z l).isSome]) ∧ Below w.heap.size w w' := by
  have HL := Lib.hid hr.len
  have HO := Lib.hid (fun a W => order1_any a z W)
  have HI := Lib.hid (low_unique z l hs)
  have HF : Hid ((find z l).isSome = if h : low z l < l.length then decide (same l[low z l] z) else false) := Lib.hid (by
    rw [find_eq z l hs]
    by_cases h : low z l < l.length
    · rw [dif_pos h, dif_pos h]
      by_cases hx : same l[low z l] z <;> simp [hx]
    · rw [dif_neg h, dif_neg h]; rfl)
  generalize low z l = L at *
  generalize (find z l).isSome = F at *
  go_enter Tryd.func49, Tryd.ntmps49
  go_wp2_with fail
  have hb0 := (Below.refl w.heap.size w).alloc (Nat.le_refl _) (.cells (keyC z) 24)
  have hz0 := Blk.new w 24 (keyC z)
  go_loopw [9, 10, 11] (fun vi vj _ wr => ∃ i j : Nat, i ≤ j ∧ j ≤ n ∧ vi = .int .i64 i ∧ vj = .int .i64 j ∧ Below w.heap.size w wr ∧ Blk wr w.heap.size 24 (keyC z) ∧ Hid (∀ (m : Nat) (h : m < l.length), m < i → lt l[m] z) ∧ Hid (∀ (m : Nat) (h : m < l.length), j ≤ m → ¬ lt l[m] z)) (fun vi vj _ _ => (intOf vj - intOf vi).toNat)
  case atStart => exact ⟨0, n, Nat.zero_le _, Nat.le_refl _, rfl, rfl, hb0, hz0, Lib.hid (fun _ _ h => by omega), Lib.hid (fun m h h' => by have := HL.out; omega)⟩
  case round =>
    clear hb0 hz0
    obtain ⟨i, j, hij, hjn, rfl, rfl, hbw, hz, hlo, hhi⟩ := hrel
    by_cases hlt : i < j
    · go_upto_region 5 with (fail)
      obtain ⟨h, hh⟩ : ∃ h : Nat, ((i : Int) + j) / 2 = h := ⟨((i : Int) + j).toNat / 2, by omega⟩
      have h1 : i ≤ h := by omega
      have h2 : h < j := by omega
      rw [hh]
      clear hh
      obtain ⟨ad, rfl, hc⟩ := (hr.below hbw).elem (i := h) (by have := HL.out; omega)
      have HLT : Hid (lt (l[h]'(by have := HL.out; omega)) z → ∀ (m : Nat) (hm : m < l.length), m < h + 1 → lt l[m] z) := Lib.hid (fun h0 m hm hmh => by
        rcases Nat.lt_or_ge m h with hx | hx
        · exact lt_trans (List.pairwise_iff_getElem.1 hs m h hm (by have := HL.out; omega) hx) h0
        · obtain rfl : m = h := by omega
          exact h0)
      have HGE : Hid (¬ lt (l[h]'(by have := HL.out; omega)) z → ∀ (m : Nat) (hm : m < l.length), h ≤ m → ¬ lt l[m] z) := Lib.hid (fun h0 m hm hmh h3 => by
        rcases Nat.lt_or_ge h m with hx | hx
        · exact h0 (lt_trans (List.pairwise_iff_getElem.1 hs h m (by have := HL.out; omega) hm hx) h3)
        · obtain rfl : m = h := by omega
          exact h0 h3)
      generalize (l[h]'(by have := HL.out; omega)) = x at *
      have HO1 := Lib.hid (HO.out x)
      have HX := Lib.hid (ordZ_lt x z)
      generalize ordZ x z = V at *
      have hS0 : Below wr.heap.size wr wr.drew := (Below.refl _ wr).drew
      refine wp_region_T 8 (by kernel_rfl) ?_
      -- region 5: 8 operations, tail from 8
      refine WpT.take (i := 0) rfl (by kernel_rfl) (fun _ _ _ h => h) (.inl ⟨by rfl, fun w hSw => by clear hSw; go_simp; (try go_bits); (try rw [if_pos (by omega)]); (try with_reducible rfl)⟩) ((Below.refl _ _).drew) ?_
      try simp only [Act.put, List.setIfInBounds_toArray, List.set_cons_zero, List.set_cons_succ]
      refine WpT.take (i := 1) rfl (by kernel_rfl) (fun _ _ _ h => h) (.inl ⟨by rfl, fun w hSw => by clear hSw; go_simp; (try go_bits); (try rw [if_pos (by omega)]); (try with_reducible rfl)⟩) ((Below.refl _ _).drew) ?_
      try simp only [Act.put, List.setIfInBounds_toArray, List.set_cons_zero, List.set_cons_succ]
      refine WpT.take (i := 2) rfl (by kernel_rfl) (fun _ _ _ h => h) (.inl ⟨by rfl, fun w hSw => by clear hSw; go_simp; (try go_bits); (try rw [if_pos (by omega)]); (try with_reducible rfl)⟩) ((Below.refl _ _).drew) ?_
      try simp only [Act.put, List.setIfInBounds_toArray, List.set_cons_zero, List.set_cons_succ]
      refine WpT.take (i := 3) rfl (by kernel_rfl) (fun _ _ _ h => h) (.inl ⟨by rfl, fun w hSw => by clear hSw; go_simp; (try go_bits); (try rw [if_pos (by omega)]); (try with_reducible rfl)⟩) ((Below.refl _ _).drew) ?_
      try simp only [Act.put, List.setIfInBounds_toArray, List.set_cons_zero, List.set_cons_succ]
      refine WpT.take (i := 4) rfl (by kernel_rfl) (fun _ _ _ h => h) (yields_loadK rfl rfl rfl (by kernel_rfl) (by kernel_rfl) (us := kv x) hc) ((Below.refl _ _).drew) ?_
      try simp only [Act.put, List.setIfInBounds_toArray, List.set_cons_zero, List.set_cons_succ]
      refine WpT.take (i := 5) rfl (by kernel_rfl) (fun _ _ _ h => h) (yields_blk rfl rfl rfl (by kernel_rfl) (by kernel_rfl) (by assumption)) ((Below.refl _ _).drew) ?_
      try simp only [Act.put, List.setIfInBounds_toArray, List.set_cons_zero, List.set_cons_succ]
      refine WpT.one (i := 6) rfl (by kernel_rfl) (fun K hK => ?_)
      go_simp; refine (HO1.out _).mono ?_; rintro e w' ⟨rfl, hb1⟩; have hS1 := bstep hS0 hb1
      refine hK _ _ (hS1) ?_; clear hK K; try simp only [Act.put, List.setIfInBounds_toArray, List.set_cons_zero, List.set_cons_succ]
      refine WpT.take (i := 7) rfl (by kernel_rfl) (fun _ _ _ h => h) (.inl ⟨by rfl, fun w hSw => by clear hSw; go_simp; (try go_bits); (try rw [if_pos (by omega)]); (try with_reducible rfl)⟩) (hS1) ?_
      try simp only [Act.put, List.setIfInBounds_toArray, List.set_cons_zero, List.set_cons_succ]
      refine WpT.done (by kernel_rfl) ?_ _
      have hbn := hbw.trans (hS1.mono hbw.size)
      have hzn := hz.below hS1
      by_cases hV : V < 0
      · have d : decide (V < 0) = true := by simpa using hV
        have HN := Lib.hid (HLT.out (HX.out.1 hV))
        clear hz hbw hS0 hb1 hS1 hc HLT HGE HX HO1 hlo
        go_wp2_with fail
        exact ⟨⟨h + 1, j, by omega, by omega, by go_num, rfl, hbn, hzn, HN, hhi⟩, by simp [intOf]; omega⟩
      · have d : decide (V < 0) = false := by simpa using hV
        have HN := Lib.hid (HGE.out (fun hx => hV (HX.out.2 hx)))
        clear hz hbw hS0 hb1 hS1 hc HLT HGE HX HO1 hhi
        go_wp2_with fail
        exact ⟨⟨i, h, by omega, by omega, rfl, rfl, hbn, hzn, hlo, HN⟩, by simp [intOf]; omega⟩
    · obtain rfl : i = j := by omega
      obtain rfl := HI.out i (by have := HL.out; omega) hlo.out hhi.out
      clear hlo hhi hs HI
      by_cases hin : i < n
      · obtain ⟨ad, rfl, hc⟩ := (hr.below hbw).elem (i := i) (by have := HL.out; omega)
        have HF2 : Hid (F = decide (same (l[i]'(by have := HL.out; omega)) z)) := Lib.hid (by rw [HF.out, dif_pos (by have := HL.out; omega)])
        clear HF
        generalize (l[i]'(by have := HL.out; omega)) = x at *
        have HX : Hid (F = decide (ordZ x z = 0)) := Lib.hid (by rw [HF2.out, decide_eq_decide]; exact (ordZ_eq x z).symm)
        have HO1 := Lib.hid (HO.out x)
        generalize ordZ x z = V at *
        clear HF2
        have hS0 : Below wr.heap.size wr wr.drew := (Below.refl _ wr).drew
        have hE : (V == 0) = F := by rw [HX.out]; rfl
        clear HX
        go_upto_region 8 with (fail)
        refine wp_region_T 15 (by kernel_rfl) ?_
        -- region 8: 16 operations, tail from 15
        refine WpT.take (i := 0) rfl (by kernel_rfl) (fun _ _ _ h => h) (.inl ⟨by rfl, fun w hSw => by clear hSw; go_simp; (try go_bits); (try rw [if_pos (by omega)]); (try with_reducible rfl)⟩) ((Below.refl _ _).drew) ?_
        try simp only [Act.put, List.setIfInBounds_toArray, List.set_cons_zero, List.set_cons_succ]
        refine WpT.take (i := 1) rfl (by kernel_rfl) (fun _ _ _ h => h) (.inl ⟨by rfl, fun w hSw => by clear hSw; go_simp; (try go_bits); (try rw [if_pos (by omega)]); (try with_reducible rfl)⟩) ((Below.refl _ _).drew) ?_
        try simp only [Act.put, List.setIfInBounds_toArray, List.set_cons_zero, List.set_cons_succ]
        refine WpT.take (i := 2) rfl (by kernel_rfl) (fun _ _ _ h => h) (.inl ⟨by rfl, fun w hSw => by clear hSw; go_simp; (try go_bits); (try rw [if_pos (by omega)]); (try with_reducible rfl)⟩) ((Below.refl _ _).drew) ?_
        try simp only [Act.put, List.setIfInBounds_toArray, List.set_cons_zero, List.set_cons_succ]
        refine WpT.take (i := 3) rfl (by kernel_rfl) (fun _ _ _ h => h) (.inl ⟨by rfl, fun w hSw => by clear hSw; go_simp; (try go_bits); (try rw [if_pos (by omega)]); (try with_reducible rfl)⟩) ((Below.refl _ _).drew) ?_
        try simp only [Act.put, List.setIfInBounds_toArray, List.set_cons_zero, List.set_cons_succ]
        refine WpT.take (i := 4) rfl (by kernel_rfl) (fun _ _ _ h => h) (.inl ⟨by rfl, fun w hSw => by clear hSw; go_simp; (try go_bits); (try rw [if_pos (by omega)]); (try with_reducible rfl)⟩) ((Below.refl _ _).drew) ?_
        try simp only [Act.put, List.setIfInBounds_toArray, List.set_cons_zero, List.set_cons_succ]
        refine WpT.take (i := 5) rfl (by kernel_rfl) (fun _ _ _ h => h) (.inl ⟨by rfl, fun w hSw => by clear hSw; go_simp; (try go_bits); (try rw [if_pos (by omega)]); (try with_reducible rfl)⟩) ((Below.refl _ _).drew) ?_
        try simp only [Act.put, List.setIfInBounds_toArray, List.set_cons_zero, List.set_cons_succ]
        refine WpT.take (i := 6) rfl (by kernel_rfl) (fun _ _ _ h => h) (.inl ⟨by rfl, fun w hSw => by clear hSw; go_simp; (try go_bits); (try rw [if_pos (by omega)]); (try with_reducible rfl)⟩) ((Below.refl _ _).drew) ?_
        try simp only [Act.put, List.setIfInBounds_toArray, List.set_cons_zero, List.set_cons_succ]
        refine WpT.take (i := 7) rfl (by kernel_rfl) (fun _ _ _ h => h) (.inl ⟨by rfl, fun w hSw => by clear hSw; go_simp; (try go_bits); (try rw [if_pos (by omega)]); (try with_reducible rfl)⟩) ((Below.refl _ _).drew) ?_
        try simp only [Act.put, List.setIfInBounds_toArray, List.set_cons_zero, List.set_cons_succ]
        refine WpT.take (i := 8) rfl (by kernel_rfl) (fun _ _ _ h => h) (.inl ⟨by rfl, fun w hSw => by clear hSw; go_simp; (try go_bits); (try rw [if_pos (by omega)]); (try with_reducible rfl)⟩) ((Below.refl _ _).drew) ?_
        try simp only [Act.put, List.setIfInBounds_toArray, List.set_cons_zero, List.set_cons_succ]
        refine WpT.take (i := 9) rfl (by kernel_rfl) (fun _ _ _ h => h) (yields_loadKW (by rfl) rfl rfl (by kernel_rfl) (by kernel_rfl) (us := kv x) hc) ((Below.refl _ _).drew) ?_
        try simp only [Act.put, List.setIfInBounds_toArray, List.set_cons_zero, List.set_cons_succ]
        refine WpT.take (i := 10) rfl (by kernel_rfl) (fun _ _ _ h => h) (yields_blkW (by rfl) rfl rfl (by kernel_rfl) (by kernel_rfl) (by assumption)) ((Below.refl _ _).drew) ?_
        try simp only [Act.put, List.setIfInBounds_toArray, List.set_cons_zero, List.set_cons_succ]
        refine WpT.one (i := 11) rfl (by kernel_rfl) (fun K hK => ?_)
        go_simp; refine (HO1.out _).mono ?_; rintro e w' ⟨rfl, hb1⟩; have hS1 := bstep hS0 hb1
        refine hK _ _ (hS1) ?_; clear hK K; try simp only [Act.put, List.setIfInBounds_toArray, List.set_cons_zero, List.set_cons_succ]
        refine WpT.take (i := 12) rfl (by kernel_rfl) (fun _ _ _ h => h) (.inl ⟨by rfl, fun w hSw => by clear hSw; go_simp; (try go_bits); (try rw [if_pos (by omega)]); (try with_reducible rfl)⟩) (hS1) ?_
        try simp only [Act.put, List.setIfInBounds_toArray, List.set_cons_zero, List.set_cons_succ]
        refine WpT.take (i := 13) rfl (by kernel_rfl) (fun _ _ _ h => h) (.inl ⟨by rfl, fun w hSw => by clear hSw; go_simp; (try go_bits); (try rw [if_pos (by omega)]); (try with_reducible rfl)⟩) (hS1) ?_
        try simp only [Act.put, List.setIfInBounds_toArray, List.set_cons_zero, List.set_cons_succ]
        refine WpT.one (i := 14) rfl (by kernel_rfl) (fun K hK => ?_)
        go_simp; (try go_bits)
        refine hK _ _ (hS1) ?_; clear hK K; try simp only [Act.put, List.setIfInBounds_toArray, List.set_cons_zero, List.set_cons_succ]
        refine WpT.tail (i := 15) rfl (by kernel_rfl) (by kernel_rfl) (fun K hK => ?_)
        go_simp; (try go_bits)
        refine hK _ _ ?_; clear hK K; try simp only [Act.put, List.setIfInBounds_toArray, List.set_cons_zero, List.set_cons_succ]
        refine WpT.done (by kernel_rfl) ?_ _
        go_wp2_with fail
        go_ret2
        exact ⟨rfl, hbw.trans (hS1.mono hbw.size)⟩
      · obtain rfl : i = n := by omega
        obtain rfl : F = false := by rw [HF.out, dif_neg (by have := HL.out; omega)]
        clear HF
        go_upto_region 8 with (fail)
        go_quiet (fail)
        go_wp2_with fail
        go_ret2
        exact ⟨rfl, hbw.trans ⟨rfl, rfl, rfl, Nat.le_refl _, fun _ _ => rfl⟩⟩
set_option maxRecDepth 20000 in
set_option maxHeartbeats 1000000 in
theorem place_any (A : Option Addr) (n c : Nat) (l : List Key) (p s : Int) (w : World) (hn : n ≤ 100000) (hr : RdK w A n l) (hs : Sorted l) :
    Calls Tryd.prog 36 #[.slice A n c, .int .i64 p, .int .i64 s] w fun e w' => e = .returned (.tuple #[.int .i64 (low ⟨p, s, ⟨#[]⟩, 0, 0⟩ l), .bool (find ⟨p, s, ⟨#[]⟩, 0, 0⟩ l).isSome]) ∧ Below w.heap.size w w' := by
  have HQ := Lib.hid (search_any A n c l ⟨p, s, ⟨#[]⟩, 0, 0⟩ w hn hr hs)
  generalize low ⟨p, s, ⟨#[]⟩, 0, 0⟩ l = L at *
  generalize (find ⟨p, s, ⟨#[]⟩, 0, 0⟩ l).isSome = F at *
  have hbuild : ∀ W, (Instr.build 24 #[(0, .int .i64 p), (1, .int .i64 s)]).run Tryd.prog W = .ok (keyV ⟨p, s, ⟨#[]⟩, 0, 0⟩) W := fun W => by kernel_rfl
  go_enter Tryd.func36, Tryd.ntmps36
  go_wp2_with fail
  refine HQ.out.mono ?_
  rintro e w' ⟨rfl, hb1⟩
  go_wp2_with fail
  go_ret2
  exact ⟨rfl, hb1⟩
end Go.Proofs.YtfnpeclomcnpeaaDoor
