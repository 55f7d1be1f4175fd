/-
  Place of the program; a token that is no text as it is written, whether it is one, and its value. Conditions: the library's table of spaces stands.
-/
import Derived.Test.YtiajmdmofjfdcaaGreatDoorZn
import Derived.Test.YtiajmdmofjfdcaaGreatDoorZq
import Derived.Lib.UnsafeStr
namespace Go.Proofs.YtiajmdmofjfdcaaGreatDoor
set_option linter.unusedSimpArgs false
set_option linter.unusedVariables false
open Go.RowKit Lexr
/-- The line and the column of an offset. -/
def placeP (s : ByteArray) (K : Nat) : Int × Int := (1 + (Lib.countByte (s.data.toList.take K) 10 : Int), (K : Int) - Lib.lastIndexByte (s.extract 0 K) 10)
set_option maxRecDepth 20000 in
set_option maxHeartbeats 4000000 in
theorem place_bad (s : ByteArray) (x : Int) (w : World) (h : x < 0 ∨ (s.size : Int) < x) :
    Calls Tryz.prog 12 #[.string s, .int .i64 x] w fun e w' => e = .returned (.tuple #[.int .i64 0, .int .i64 0]) ∧ Below w.heap.size w w' := by
  by_cases h0 : x < 0
  · have d0 : decide (x < 0) = true := decide_eq_true h0
    clear h h0
    go_enter Tryz.func12, Tryz.ntmps12
    go_wp2_with fail
    go_ret2
    exact ⟨rfl, Below.refl _ _⟩
  · have d0 : decide (x < 0) = false := decide_eq_false h0
    have d1 : decide ((s.size : Int) < x) = true := decide_eq_true (by omega)
    have d2 : decide (x > (s.size : Int)) = true := decide_eq_true (by omega)
    clear h h0
    go_enter Tryz.func12, Tryz.ntmps12
    go_wp2_with fail
    go_ret2
    exact ⟨rfl, Below.refl _ _⟩
set_option maxRecDepth 20000 in
set_option maxHeartbeats 4000000 in
theorem place_any (s : ByteArray) (K : Nat) (w : World) (h : K ≤ s.size) (hs : s.size ≤ 1099511627776) :
    Calls Tryz.prog 12 #[.string s, .int .i64 (K : Int)] w fun e w' => e = .returned (.tuple #[.int .i64 (placeP s K).1, .int .i64 (placeP s K).2]) ∧ Below w.heap.size w w' := by
  have HC := Lib.hid (fun W => Tryz.strings_Count_one (s.extract 0 K) 10 W)
  have hz : (s.extract 0 K).size = K := by rw [ByteArray.size_extract]; omega
  have HLI := Lib.hid (fun W => Tryz.strings_LastIndexByte (s.extract 0 K) 10 (by rw [hz]; omega) W)
  have hl : (s.extract 0 K).data.toList = s.data.toList.take K := by
    have := ext_eq s 0 K
    rw [Nat.zero_add] at this
    rw [this]; simp
  rw [hl] at HC
  have hcl : Lib.countByte (s.data.toList.take K) 10 ≤ K := by
    have : Lib.countByte (s.data.toList.take K) 10 ≤ (s.data.toList.take K).length := List.count_le_length
    rw [List.length_take] at this; omega
  have hli : -1 ≤ Lib.lastIndexByte (s.extract 0 K) 10 ∧ Lib.lastIndexByte (s.extract 0 K) 10 < (K : Int) + 1 := by
    unfold Lib.lastIndexByte
    rcases Lib.lastIdx_spec (s.extract 0 K) 10 (s.extract 0 K).size with ⟨h1, -⟩ | ⟨i, h1, h2, -⟩
    · rw [h1]; omega
    · rw [h2]; rw [hz] at h1; omega
  have hc0 : (0 : Int) ≤ (Lib.countByte (s.data.toList.take K) 10 : Int) := by omega
  have hc1 : (Lib.countByte (s.data.toList.take K) 10 : Int) ≤ (K : Int) := by omega
  have d0 : decide ((K : Int) < 0) = false := decide_eq_false (by omega)
  have d1 : decide ((s.size : Int) < (K : Int)) = false := decide_eq_false (by omega)
  have d2 : decide (s.size < K) = false := decide_eq_false (by omega)
  unfold placeP
  dsimp only
  generalize (Lib.countByte (s.data.toList.take K) 10 : Int) = C at *
  generalize Lib.lastIndexByte (s.extract 0 K) 10 = M at *
  clear hl hz
  go_enter Tryz.func12, Tryz.ntmps12
  have hS : Below w.heap.size w w.drew := (Below.refl _ _).drew
  go_upto_region 3 with fail
  refine wp_region_T 12 (by kernel_rfl) ?_
  -- region 3: 13 operations, tail from 12
  refine WpT.take (i := 0) rfl (by kernel_rfl) (fun _ _ _ h => h) (.inl ⟨by rfl, fun w hSw => by clear hSw; go_simp; (try go_bits); (try rw [if_pos (by omega)]); (try with_reducible rfl)⟩) (hS) ?_
  try simp only [Act.put, List.setIfInBounds_toArray, List.set_cons_zero, List.set_cons_succ]
  refine WpT.take (i := 1) rfl (by kernel_rfl) (fun _ _ _ h => h) (.inl ⟨by rfl, fun w hSw => by clear hSw; go_simp; (try go_bits); (try rw [if_pos (by omega)]); (try with_reducible rfl)⟩) (hS) ?_
  try simp only [Act.put, List.setIfInBounds_toArray, List.set_cons_zero, List.set_cons_succ]
  refine WpT.take (i := 2) rfl (by kernel_rfl) (fun _ _ _ h => h) (.inl ⟨by rfl, fun w hSw => by clear hSw; go_simp; (try go_bits); (try rw [if_pos (by omega)]); (try with_reducible rfl)⟩) (hS) ?_
  try simp only [Act.put, List.setIfInBounds_toArray, List.set_cons_zero, List.set_cons_succ]
  refine WpT.take (i := 5) rfl (by kernel_rfl) (fun _ _ _ h => h) (.inl ⟨by rfl, fun w hSw => by clear hSw; go_simp; (try go_bits); (try rw [if_pos (by omega)]); (try with_reducible rfl)⟩) (hS) ?_
  try simp only [Act.put, List.setIfInBounds_toArray, List.set_cons_zero, List.set_cons_succ]
  refine WpT.take (i := 6) rfl (by kernel_rfl) (fun _ _ _ h => h) (.inl ⟨by rfl, fun w hSw => by clear hSw; go_simp; (try go_bits); (try rw [if_pos (by omega)]); (try with_reducible rfl)⟩) (hS) ?_
  try simp only [Act.put, List.setIfInBounds_toArray, List.set_cons_zero, List.set_cons_succ]
  refine WpT.take (i := 7) rfl (by kernel_rfl) (fun _ _ _ h => h) (.inl ⟨by rfl, fun w hSw => by clear hSw; go_simp; (try go_bits); (try rw [if_pos (by omega)]); (try with_reducible rfl)⟩) (hS) ?_
  try simp only [Act.put, List.setIfInBounds_toArray, List.set_cons_zero, List.set_cons_succ]
  refine WpT.take (i := 8) rfl (by kernel_rfl) (fun _ _ _ h => h) (.inl ⟨by rfl, fun w hSw => by clear hSw; go_simp; (try go_bits); (try rw [if_pos (by omega)]); (try with_reducible rfl)⟩) (hS) ?_
  try simp only [Act.put, List.setIfInBounds_toArray, List.set_cons_zero, List.set_cons_succ]
  refine WpT.one (i := 3) rfl (by kernel_rfl) (fun K hK => ?_)
  go_simp; refine (HC.out _).mono ?_; rintro e w3 ⟨rfl, hw⟩; subst hw
  refine hK _ _ (hS) ?_; clear hK K; try simp only [Act.put, List.setIfInBounds_toArray, List.set_cons_zero, List.set_cons_succ]
  refine WpT.take (i := 4) rfl (by kernel_rfl) (fun _ _ _ h => h) (.inl ⟨by rfl, fun w hSw => by clear hSw; go_simp; (try go_bits); (try rw [if_pos (by omega)]); (try with_reducible rfl)⟩) (hS) ?_
  try simp only [Act.put, List.setIfInBounds_toArray, List.set_cons_zero, List.set_cons_succ]
  refine WpT.one (i := 9) rfl (by kernel_rfl) (fun K hK => ?_)
  go_simp; refine (HLI.out _).mono ?_; rintro e w4 ⟨rfl, hw⟩; subst hw
  refine hK _ _ (hS) ?_; clear hK K; try simp only [Act.put, List.setIfInBounds_toArray, List.set_cons_zero, List.set_cons_succ]
  refine WpT.take (i := 10) rfl (by kernel_rfl) (fun _ _ _ h => h) (.inl ⟨by rfl, fun w hSw => by clear hSw; go_simp; (try go_bits); (try rw [if_pos (by omega)]); (try with_reducible rfl)⟩) (hS) ?_
  try simp only [Act.put, List.setIfInBounds_toArray, List.set_cons_zero, List.set_cons_succ]
  refine WpT.one (i := 11) rfl (by kernel_rfl) (fun K hK => ?_)
  go_simp; (try go_bits)
  refine hK _ _ (hS) ?_; clear hK K; try simp only [Act.put, List.setIfInBounds_toArray, List.set_cons_zero, List.set_cons_succ]
  refine WpT.tail (i := 12) rfl (by kernel_rfl) (by kernel_rfl) (fun K hK => ?_)
  go_simp; (try go_bits)
  refine hK _ _ ?_; clear hK K; try simp only [Act.put, List.setIfInBounds_toArray, List.set_cons_zero, List.set_cons_succ]
  refine WpT.done (by kernel_rfl) ?_ _
  skip
  go_wp2_with fail
  go_ret2
  exact ⟨rfl, hS⟩
theorem write_plain (t : Tok) (w : World) (h : t.kind ≠ 4) :
    Calls Tryz.prog 38 #[tokV t] w fun e w' => e = .returned (.string ⟨t.s.toArray⟩) ∧ Below w.heap.size w w' := by
  have dk : (t.kind != 4) = true := by simpa using h
  have dk2 : decide (t.kind = 4) = false := by simpa using h
  obtain ⟨wa, hwa, hb1, q1⟩ : ∃ wa : World, wa = w.alloc (.cells (tokL t).toArray 44) ∧ Below w.heap.size w wa ∧ Blk wa w.heap.size 44 (tokL t).toArray := ⟨_, rfl, (Below.refl _ _).alloc (Nat.le_refl _) _, Blk.new _ _ _⟩
  have c0 : wa.cell? ⟨w.heap.size, 0, none⟩ = some (.int .i64 t.kind) := by have := q1.cell 0; simpa [tokL, lexL] using this
  have c2 : wa.cell? ⟨w.heap.size, 2, none⟩ = some (.string ⟨t.s.toArray⟩) := by have := q1.cell 2; simpa [tokL, lexL] using this
  have HWA := Lib.hid hwa
  clear hwa q1 h
  go_enter Tryz.func38, Tryz.ntmps38
  go_upto_region 1 with fail
  change Code.wp _ _ _ _ (w.alloc (.cells (tokL t).toArray 44))
  rw [← HWA.out]
  go_wp2_with fail
  go_ret
  exact ⟨rfl, hb1⟩
theorem tokens_bad {s : ByteArray} {p : Int × Int} (w : World) (hs : s.size ≤ 1099511627776) (hg : GTab w) (h : tokens s.data.toList = .error p) :
    Calls Tryz.prog 10 #[.string s] w fun e w' => e = .returned (.tuple #[.slice none 0 0, prV p]) ∧ Below w.heap.size w w' := by
  have := tokens_any s w hs hg
  rw [h] at this
  exact this
theorem tokens_ok {s : ByteArray} {ts : List Tok} (w : World) (hs : s.size ≤ 1099511627776) (hg : GTab w) (h : tokens s.data.toList = .ok ts) :
    Calls Tryz.prog 10 #[.string s] w fun e w' => ∃ A c, e = .returned (.tuple #[.slice A ts.length c, prV (0, 0)]) ∧ RdT w' A ts.length ts ∧ ts.length ≤ c ∧ c ≤ maxLen ∧ w'.ownsRow w.heap.size 44 3 (.slice A ts.length c) ts.length (ts.flatMap tokL) ∧ Below w.heap.size w w' := by
  have := tokens_any s w hs hg
  rw [h] at this
  refine this.mono ?_
  rintro e w' ⟨v, rfl, h1, h2⟩
  obtain ⟨A, c, rfl, h3, h4, h5⟩ := ownsRow_form h1
  exact ⟨A, c, rfl, h5, h3, h4, h1, h2⟩
theorem GTab.blk {w W : World} (h : GTab w) (hb : Below w.heap.size w W) : GTab W := h.below hb
theorem bts_list (t : List UInt8) : ((⟨t.toArray⟩ : ByteArray)).data.toList = t := by simp
theorem bts_size (t : List UInt8) : ((⟨t.toArray⟩ : ByteArray)).size = t.length := by rw [Lib.size_eq, bts_list]
set_option maxRecDepth 20000 in
set_option maxHeartbeats 8000000 in
/-- Whether a token is one, if it is known how it is written. -/
theorem isToken_of (t : Tok) (w : World) (hg : GTab w) (hlen : (writeL t.kind t.s).length ≤ 1099511627776) (hW : ∀ W, GTab W → Calls Tryz.prog 38 #[tokV t] W fun e w' => e = .returned (.string ⟨(writeL t.kind t.s).toArray⟩) ∧ Below W.heap.size W w') :
    Calls Tryz.prog 35 #[tokV t] w fun e w' => e = .returned (.bool (isTok t.kind t.s)) ∧ Below w.heap.size w w' := by
  have HW := Lib.hid hW
  obtain ⟨wa, hwa, hb1, q1⟩ : ∃ wa : World, wa = w.alloc (.cells (tokL t).toArray 44) ∧ Below w.heap.size w wa ∧ Blk wa w.heap.size 44 (tokL t).toArray := ⟨_, rfl, (Below.refl _ _).alloc (Nat.le_refl _) _, Blk.new _ _ _⟩
  have HWA := Lib.hid hwa
  have HQ := Lib.hid q1
  have HB1 := Lib.hid hb1
  have HG1 := Lib.hid (hg.below hb1)
  have hr1 := blk_rowL q1
  obtain ⟨g1, hg1⟩ : ∃ g, w.heap.size = g := ⟨_, rfl⟩
  rw [hg1] at hr1 HQ
  have HGE := Lib.hid hg1
  have hsz : ((⟨(writeL t.kind t.s).toArray⟩ : ByteArray)).size ≤ 1099511627776 := by rw [bts_size]; exact hlen
  have HSZ := Lib.hid hsz
  unfold isTok
  obtain ⟨X, hX⟩ : ∃ X, tokens (writeL t.kind t.s) = X := ⟨_, rfl⟩
  rw [hX]
  have HX : Hid (tokens ((⟨(writeL t.kind t.s).toArray⟩ : ByteArray)).data.toList = X) := Lib.hid (by rw [bts_list]; exact hX)
  generalize (⟨(writeL t.kind t.s).toArray⟩ : ByteArray) = S at *
  clear hwa hW hX q1 hg hb1 hsz hg1 hlen
  cases X with
  | error p =>
    have hp := tokens_err HX.out
    have HT := Lib.hid (fun W (h : GTab W) => tokens_bad W HSZ.out h HX.out)
    have dp : decide (p.2 = 0) = false := by simpa using hp
    have dp2 : (p.2 == 0) = false := by simpa using hp
    clear HX hp HSZ
    dsimp only
    go_enter Tryz.func35, Tryz.ntmps35
    go_upto_region 1 with fail
    change Code.wp _ _ _ _ (w.alloc (.cells (tokL t).toArray 44))
    rw [← HWA.out]
    try rw [HGE.out]
    go_wp2_with ((with_reducible show wpList _ _ _ ({ dst := some 6, op := _, type := _, pos := _, after := _, guard := _ } :: _) _ _); refine wpList_loadK (us := tokL t) rfl rfl rfl aggLx (by rw [sizeLx]; rfl) hr1 ?_)
    refine (HW.out _ HG1.out).mono ?_
    rintro e w2 ⟨rfl, hb2⟩
    have HG2 := Lib.hid (HG1.out.below hb2)
    have HB2 := Lib.hid (bstep HB1.out hb2)
    clear hb2 HW HG1 HB1
    go_wp2_with fail
    refine (HT.out _ HG2.out).mono ?_
    rintro e w3 ⟨rfl, hb3⟩
    have HB3 := Lib.hid (bstep HB2.out hb3)
    clear hb3 HT HG2 HB2
    go_upto_region 2 with (first
      | ((with_reducible show wpList _ _ _ ({ dst := some 4, op := _, type := _, pos := _, after := _, guard := _ } :: _) _ _); refine wpList_new (cs := #[.int .i64 0, .int .i64 0]) rfl rfl zeroPr ?_; intro w4 g4 hg4 b4 hb4 lt4; have HG4 := Lib.hid (And.intro hg4 lt4); clear hg4 lt4)
      | ((with_reducible show wpList _ _ _ ({ dst := none, op := _, type := _, pos := _, after := _, guard := _ } :: _) _ _); refine wpList_put (vs := prC p) rfl rfl rfl rfl b4 rfl (by rw [sizePr]; rfl) (by simp [Value.oneCell', prC]) ?_; intro w5 ht5 b5))
    have hb35 : Below w3.heap.size w3 w5 := hb4.trans (ht5.below _ (by have := HG4.out; omega))
    have HB5 := Lib.hid (bstep HB3.out hb35)
    have cE : w5.cell? ⟨g4, 1, none⟩ = some (.int .i64 p.2) := by have := b5.cell 1; simpa [prC] using this
    have hS : Below w5.heap.size w5 w5.drew := (Below.refl _ _).drew
    clear b4 hb4 ht5 hb35 b5 hr1
    refine wp_region_T 19 (by kernel_rfl) ?_
    -- region 2: 20 operations, tail from 19
    refine WpT.take (i := 0) rfl (by kernel_rfl) (fun _ _ _ h => h) (.inl ⟨by rfl, fun w hSw => by clear hSw; go_simp; (try go_bits); (try rw [if_pos (by omega)]); (try with_reducible rfl)⟩) (hS) ?_
    try simp only [Act.put, List.setIfInBounds_toArray, List.set_cons_zero, List.set_cons_succ]
    refine WpT.take (i := 1) rfl (by kernel_rfl) (fun _ _ _ h => h) (yields_load rfl rfl rfl (by kernel_rfl) cE) (hS) ?_
    try simp only [Act.put, List.setIfInBounds_toArray, List.set_cons_zero, List.set_cons_succ]
    refine WpT.take (i := 2) rfl (by kernel_rfl) (fun _ _ _ h => h) (.inl ⟨by rfl, fun w hSw => by clear hSw; go_simp; (try go_bits); (try rw [if_pos (by omega)]); (try with_reducible rfl)⟩) (hS) ?_
    try simp only [Act.put, List.setIfInBounds_toArray, List.set_cons_zero, List.set_cons_succ]
    refine WpT.take (i := 3) rfl (by kernel_rfl) (fun _ _ _ h => h) (.inl ⟨by rfl, fun w hSw => by clear hSw; go_simp; (try go_bits); (try rw [if_pos (by omega)]); (try with_reducible rfl)⟩) (hS) ?_
    try simp only [Act.put, List.setIfInBounds_toArray, List.set_cons_zero, List.set_cons_succ]
    refine WpT.take (i := 4) rfl (by kernel_rfl) (fun _ _ _ h => h) (.inr ⟨by rfl, rfl⟩) (hS) ?_
    try simp only [Act.put, List.setIfInBounds_toArray, List.set_cons_zero, List.set_cons_succ]
    refine WpT.take (i := 5) rfl (by kernel_rfl) (fun _ _ _ h => h) (.inr ⟨by rfl, rfl⟩) (hS) ?_
    try simp only [Act.put, List.setIfInBounds_toArray, List.set_cons_zero, List.set_cons_succ]
    refine WpT.take (i := 6) rfl (by kernel_rfl) (fun _ _ _ h => h) (.inr ⟨by rfl, rfl⟩) (hS) ?_
    try simp only [Act.put, List.setIfInBounds_toArray, List.set_cons_zero, List.set_cons_succ]
    refine WpT.take (i := 7) rfl (by kernel_rfl) (fun _ _ _ h => h) (.inl ⟨by rfl, fun w hSw => by clear hSw; go_simp; (try go_bits); (try rw [if_pos (by omega)]); (try with_reducible rfl)⟩) (hS) ?_
    try simp only [Act.put, List.setIfInBounds_toArray, List.set_cons_zero, List.set_cons_succ]
    refine WpT.take (i := 8) rfl (by kernel_rfl) (fun _ _ _ h => h) (.inl ⟨by rfl, fun w hSw => by clear hSw; go_simp; (try go_bits); (try rw [if_pos (by omega)]); (try with_reducible rfl)⟩) (hS) ?_
    try simp only [Act.put, List.setIfInBounds_toArray, List.set_cons_zero, List.set_cons_succ]
    refine WpT.take (i := 9) rfl (by kernel_rfl) (fun _ _ _ h => h) (.inr ⟨by rfl, rfl⟩) (hS) ?_
    try simp only [Act.put, List.setIfInBounds_toArray, List.set_cons_zero, List.set_cons_succ]
    refine WpT.take (i := 10) rfl (by kernel_rfl) (fun _ _ _ h => h) (.inr ⟨by rfl, rfl⟩) (hS) ?_
    try simp only [Act.put, List.setIfInBounds_toArray, List.set_cons_zero, List.set_cons_succ]
    refine WpT.take (i := 11) rfl (by kernel_rfl) (fun _ _ _ h => h) (.inr ⟨by rfl, rfl⟩) (hS) ?_
    try simp only [Act.put, List.setIfInBounds_toArray, List.set_cons_zero, List.set_cons_succ]
    refine WpT.take (i := 12) rfl (by kernel_rfl) (fun _ _ _ h => h) (.inr ⟨by rfl, rfl⟩) (hS) ?_
    try simp only [Act.put, List.setIfInBounds_toArray, List.set_cons_zero, List.set_cons_succ]
    refine WpT.take (i := 13) rfl (by kernel_rfl) (fun _ _ _ h => h) (.inr ⟨by rfl, rfl⟩) (hS) ?_
    try simp only [Act.put, List.setIfInBounds_toArray, List.set_cons_zero, List.set_cons_succ]
    refine WpT.take (i := 14) rfl (by kernel_rfl) (fun _ _ _ h => h) (.inr ⟨by rfl, rfl⟩) (hS) ?_
    try simp only [Act.put, List.setIfInBounds_toArray, List.set_cons_zero, List.set_cons_succ]
    refine WpT.take (i := 15) rfl (by kernel_rfl) (fun _ _ _ h => h) (.inr ⟨by rfl, rfl⟩) (hS) ?_
    try simp only [Act.put, List.setIfInBounds_toArray, List.set_cons_zero, List.set_cons_succ]
    refine WpT.take (i := 16) rfl (by kernel_rfl) (fun _ _ _ h => h) (.inr ⟨by rfl, rfl⟩) (hS) ?_
    try simp only [Act.put, List.setIfInBounds_toArray, List.set_cons_zero, List.set_cons_succ]
    refine WpT.take (i := 17) rfl (by kernel_rfl) (fun _ _ _ h => h) (.inr ⟨by rfl, rfl⟩) (hS) ?_
    try simp only [Act.put, List.setIfInBounds_toArray, List.set_cons_zero, List.set_cons_succ]
    refine WpT.take (i := 18) rfl (by kernel_rfl) (fun _ _ _ h => h) (.inl ⟨by rfl, fun w hSw => by clear hSw; go_simp; (try go_bits); (try rw [if_pos (by omega)]); (try with_reducible rfl)⟩) (hS) ?_
    try simp only [Act.put, List.setIfInBounds_toArray, List.set_cons_zero, List.set_cons_succ]
    refine WpT.tail (i := 19) rfl (by kernel_rfl) (by kernel_rfl) (fun K hK => ?_)
    go_simp; (try go_bits)
    refine hK _ _ ?_; clear hK K; try simp only [Act.put, List.setIfInBounds_toArray, List.set_cons_zero, List.set_cons_succ]
    refine WpT.done (by kernel_rfl) ?_ _
    go_wp2_with fail
    go_ret
    exact ⟨rfl, bstep HB5.out hS⟩
  | ok ts =>
    have hn := tokens_len HX.out
    have hn2 := tokens_size HX.out
    have HT := Lib.hid (fun W (h : GTab W) => tokens_ok W HSZ.out h HX.out)
    have hlt : ts.length ≤ 65536 := by omega
    clear HX HSZ hn hn2
    dsimp only
    by_cases h1 : ts.length = 1
    · obtain ⟨u, rfl⟩ : ∃ u, ts = [u] := by
        match ts, h1 with
        | [u], _ => exact ⟨u, rfl⟩
      have he := eql_Lx u ⟨t.kind, 0, t.s⟩
      have hv : decide ([u] = [(⟨t.kind, 0, t.s⟩ : Tok)]) = decide (u = ⟨t.kind, 0, t.s⟩) := by
        rw [Bool.eq_iff_iff]; simp
      rw [hv]
      generalize decide (u = (⟨t.kind, 0, t.s⟩ : Tok)) = V at *
      clear hv hlt h1
      rw [List.length_singleton] at HT
      go_enter Tryz.func35, Tryz.ntmps35
      go_upto_region 1 with fail
      change Code.wp _ _ _ _ (w.alloc (.cells (tokL t).toArray 44))
      rw [← HWA.out]
      try rw [HGE.out]
      go_wp2_with ((with_reducible show wpList _ _ _ ({ dst := some 6, op := _, type := _, pos := _, after := _, guard := _ } :: _) _ _); refine wpList_loadK (us := tokL t) rfl rfl rfl aggLx (by rw [sizeLx]; rfl) hr1 ?_)
      refine (HW.out _ HG1.out).mono ?_
      rintro e w2 ⟨rfl, hb2⟩
      have HG2 := Lib.hid (HG1.out.below hb2)
      have HB2 := Lib.hid (bstep HB1.out hb2)
      have HQ2 := Lib.hid (HQ.out.below hb2)
      clear hb2 HW HG1 HB1 HQ
      go_wp2_with fail
      refine (HT.out _ HG2.out).mono ?_
      rintro e w3 ⟨A, c, rfl, hrd, hc1, hc2, -, hb3⟩
      have HB3 := Lib.hid (bstep HB2.out hb3)
      have HQ3 := Lib.hid (HQ2.out.below hb3)
      have HRD := Lib.hid hrd
      clear hb3 HT HG2 HB2 HQ2 hrd
      go_upto_region 2 with (first
        | ((with_reducible show wpList _ _ _ ({ dst := some 4, op := _, type := _, pos := _, after := _, guard := _ } :: _) _ _); refine wpList_new (cs := #[.int .i64 0, .int .i64 0]) rfl rfl zeroPr ?_; intro w4 g4 hg4 b4 hb4 lt4; have HG4 := Lib.hid (And.intro hg4 lt4); clear hg4 lt4)
        | ((with_reducible show wpList _ _ _ ({ dst := none, op := _, type := _, pos := _, after := _, guard := _ } :: _) _ _); refine wpList_put (vs := prC (0, 0)) rfl rfl rfl rfl b4 rfl (by rw [sizePr]; rfl) (by simp [Value.oneCell', prC]) ?_; intro w5 ht5 b5))
      have hb35 : Below w3.heap.size w3 w5 := hb4.trans (ht5.below _ (by have := HG4.out; omega))
      have HB5 := Lib.hid (bstep HB3.out hb35)
      have cE : w5.cell? ⟨g4, 1, none⟩ = some (.int .i64 0) := by have := b5.cell 1; simpa [prC] using this
      have hS : Below w5.heap.size w5 w5.drew := (Below.refl _ _).drew
      have hq5 := HQ3.out.below hb35
      have c0 : w5.cell? ⟨g1, 0, none⟩ = some (.int .i64 t.kind) := by have := hq5.cell 0; simpa [tokL, lexL] using this
      have c2 : w5.cell? ⟨g1, 2, none⟩ = some (.string ⟨t.s.toArray⟩) := by have := hq5.cell 2; simpa [tokL, lexL] using this
      obtain ⟨ad, rfl, hu⟩ := (show RdT _ _ _ _ from HRD.out.below hb35).get (i := 0) (by simp)
      have hu0 : ∀ j v, (tokL u)[j]? = some v → w5.cell? ((ad.add (0 * 3)).add j) = some v := hu
      rw [Nat.zero_mul] at hu0
      clear b4 hb4 ht5 hb35 b5 hr1 hq5 hu HRD
      refine wp_region_T 19 (by kernel_rfl) ?_
      -- region 2: 20 operations, tail from 19
      refine WpT.take (i := 0) rfl (by kernel_rfl) (fun _ _ _ h => h) (.inl ⟨by rfl, fun w hSw => by clear hSw; go_simp; (try go_bits); (try rw [if_pos (by omega)]); (try with_reducible rfl)⟩) (hS) ?_
      try simp only [Act.put, List.setIfInBounds_toArray, List.set_cons_zero, List.set_cons_succ]
      refine WpT.take (i := 1) rfl (by kernel_rfl) (fun _ _ _ h => h) (yields_load rfl rfl rfl (by kernel_rfl) cE) (hS) ?_
      try simp only [Act.put, List.setIfInBounds_toArray, List.set_cons_zero, List.set_cons_succ]
      refine WpT.take (i := 2) rfl (by kernel_rfl) (fun _ _ _ h => h) (.inl ⟨by rfl, fun w hSw => by clear hSw; go_simp; (try go_bits); (try rw [if_pos (by omega)]); (try with_reducible rfl)⟩) (hS) ?_
      try simp only [Act.put, List.setIfInBounds_toArray, List.set_cons_zero, List.set_cons_succ]
      refine WpT.take (i := 3) rfl (by kernel_rfl) (fun _ _ _ h => h) (.inl ⟨by rfl, fun w hSw => by clear hSw; go_simp; (try go_bits); (try rw [if_pos (by omega)]); (try with_reducible rfl)⟩) (hS) ?_
      try simp only [Act.put, List.setIfInBounds_toArray, List.set_cons_zero, List.set_cons_succ]
      refine WpT.take (i := 4) rfl (by kernel_rfl) (fun _ _ _ h => h) (.inl ⟨by rfl, fun w hSw => by clear hSw; go_simp; (try go_bits); (try rw [if_pos (by omega)]); (try with_reducible rfl)⟩) (hS) ?_
      try simp only [Act.put, List.setIfInBounds_toArray, List.set_cons_zero, List.set_cons_succ]
      refine WpT.take (i := 5) rfl (by kernel_rfl) (fun _ _ _ h => h) (.inl ⟨by rfl, fun w hSw => by clear hSw; go_simp; (try go_bits); (try rw [if_pos (by omega)]); (try with_reducible rfl)⟩) (hS) ?_
      try simp only [Act.put, List.setIfInBounds_toArray, List.set_cons_zero, List.set_cons_succ]
      refine WpT.take (i := 6) rfl (by kernel_rfl) (fun _ _ _ h => h) (.inl ⟨by rfl, fun w hSw => by clear hSw; go_simp; (try go_bits); (try rw [if_pos (by omega)]); (try with_reducible rfl)⟩) (hS) ?_
      try simp only [Act.put, List.setIfInBounds_toArray, List.set_cons_zero, List.set_cons_succ]
      refine WpT.take (i := 7) rfl (by kernel_rfl) (fun _ _ _ h => h) (.inl ⟨by rfl, fun w hSw => by clear hSw; go_simp; (try go_bits); (try rw [if_pos (by omega)]); (try with_reducible rfl)⟩) (hS) ?_
      try simp only [Act.put, List.setIfInBounds_toArray, List.set_cons_zero, List.set_cons_succ]
      refine WpT.take (i := 8) rfl (by kernel_rfl) (fun _ _ _ h => h) (.inl ⟨by rfl, fun w hSw => by clear hSw; go_simp; (try go_bits); (try rw [if_pos (by omega)]); (try with_reducible rfl)⟩) (hS) ?_
      try simp only [Act.put, List.setIfInBounds_toArray, List.set_cons_zero, List.set_cons_succ]
      refine WpT.take (i := 9) rfl (by kernel_rfl) (fun _ _ _ h => h) (.inl ⟨by rfl, fun w hSw => by clear hSw; go_simp; (try go_bits); (try rw [if_pos (by omega)]); (try with_reducible rfl)⟩) (hS) ?_
      try simp only [Act.put, List.setIfInBounds_toArray, List.set_cons_zero, List.set_cons_succ]
      refine WpT.take (i := 10) rfl (by kernel_rfl) (fun _ _ _ h => h) (.inl ⟨by rfl, fun w hSw => by clear hSw; go_simp; (try go_bits); (try rw [if_pos (by omega)]); (try with_reducible rfl)⟩) (hS) ?_
      try simp only [Act.put, List.setIfInBounds_toArray, List.set_cons_zero, List.set_cons_succ]
      refine WpT.take (i := 11) rfl (by kernel_rfl) (fun _ _ _ h => h) (yields_loadKW (us := tokL u) (by rfl) rfl rfl aggLx (by rw [sizeLx]; rfl) hu0) (hS) ?_
      try simp only [Act.put, List.setIfInBounds_toArray, List.set_cons_zero, List.set_cons_succ]
      refine WpT.take (i := 12) rfl (by kernel_rfl) (fun _ _ _ h => h) (.inl ⟨by rfl, fun w hSw => by clear hSw; go_simp; (try go_bits); (try rw [if_pos (by omega)]); (try with_reducible rfl)⟩) (hS) ?_
      try simp only [Act.put, List.setIfInBounds_toArray, List.set_cons_zero, List.set_cons_succ]
      refine WpT.take (i := 13) rfl (by kernel_rfl) (fun _ _ _ h => h) (yields_loadW (by rfl) rfl rfl (by kernel_rfl) c0) (hS) ?_
      try simp only [Act.put, List.setIfInBounds_toArray, List.set_cons_zero, List.set_cons_succ]
      refine WpT.take (i := 14) rfl (by kernel_rfl) (fun _ _ _ h => h) (.inl ⟨by rfl, fun w hSw => by clear hSw; go_simp; (try go_bits); (try rw [if_pos (by omega)]); (try with_reducible rfl)⟩) (hS) ?_
      try simp only [Act.put, List.setIfInBounds_toArray, List.set_cons_zero, List.set_cons_succ]
      refine WpT.take (i := 15) rfl (by kernel_rfl) (fun _ _ _ h => h) (yields_loadW (by rfl) rfl rfl (by kernel_rfl) c2) (hS) ?_
      try simp only [Act.put, List.setIfInBounds_toArray, List.set_cons_zero, List.set_cons_succ]
      refine WpT.take (i := 16) rfl (by kernel_rfl) (fun _ _ _ h => h) (.inl ⟨by rfl, fun w hSw => by clear hSw; go_simp; (try go_bits); (try rw [if_pos (by omega)]); (try with_reducible rfl)⟩) (hS) ?_
      try simp only [Act.put, List.setIfInBounds_toArray, List.set_cons_zero, List.set_cons_succ]
      refine WpT.take (i := 17) rfl (by kernel_rfl) (fun _ _ _ h => h) (yields_opG he (by rfl) rfl rfl rfl (fun W => by kernel_rfl)) (hS) ?_
      try simp only [Act.put, List.setIfInBounds_toArray, List.set_cons_zero, List.set_cons_succ]
      refine WpT.take (i := 18) rfl (by kernel_rfl) (fun _ _ _ h => h) (.inl ⟨by rfl, fun w hSw => by clear hSw; go_simp; (try go_bits); (try rw [if_pos (by omega)]); (try with_reducible rfl)⟩) (hS) ?_
      try simp only [Act.put, List.setIfInBounds_toArray, List.set_cons_zero, List.set_cons_succ]
      refine WpT.tail (i := 19) rfl (by kernel_rfl) (by kernel_rfl) (fun K hK => ?_)
      go_simp; (try go_bits)
      refine hK _ _ ?_; clear hK K; try simp only [Act.put, List.setIfInBounds_toArray, List.set_cons_zero, List.set_cons_succ]
      refine WpT.done (by kernel_rfl) ?_ _
      go_wp2_with fail
      go_ret
      exact ⟨rfl, bstep HB5.out hS⟩
    · have hv : decide (ts = [(⟨t.kind, 0, t.s⟩ : Tok)]) = false := by
        rw [decide_eq_false_iff_not]; rintro rfl; exact h1 rfl
      rw [hv]
      have dn : ((ts.length : Int) == 1) = false := by rw [beq_eq_false_iff_ne]; omega
      have dn2 : decide ((ts.length : Int) = 1) = false := by rw [decide_eq_false_iff_not]; omega
      have dn3 : decide (ts.length = 1) = false := by rw [decide_eq_false_iff_not]; omega
      have dn4 : (ts.length == 1) = false := by rw [beq_eq_false_iff_ne]; omega
      clear hv h1
      go_enter Tryz.func35, Tryz.ntmps35
      go_upto_region 1 with fail
      change Code.wp _ _ _ _ (w.alloc (.cells (tokL t).toArray 44))
      rw [← HWA.out]
      try rw [HGE.out]
      go_wp2_with ((with_reducible show wpList _ _ _ ({ dst := some 6, op := _, type := _, pos := _, after := _, guard := _ } :: _) _ _); refine wpList_loadK (us := tokL t) rfl rfl rfl aggLx (by rw [sizeLx]; rfl) hr1 ?_)
      refine (HW.out _ HG1.out).mono ?_
      rintro e w2 ⟨rfl, hb2⟩
      have HG2 := Lib.hid (HG1.out.below hb2)
      have HB2 := Lib.hid (bstep HB1.out hb2)
      clear hb2 HW HG1 HB1
      go_wp2_with fail
      refine (HT.out _ HG2.out).mono ?_
      rintro e w3 ⟨A, c, rfl, hrd, hc1, hc2, -, hb3⟩
      have HB3 := Lib.hid (bstep HB2.out hb3)
      clear hb3 HT HG2 HB2 hrd
      go_upto_region 2 with (first
        | ((with_reducible show wpList _ _ _ ({ dst := some 4, op := _, type := _, pos := _, after := _, guard := _ } :: _) _ _); refine wpList_new (cs := #[.int .i64 0, .int .i64 0]) rfl rfl zeroPr ?_; intro w4 g4 hg4 b4 hb4 lt4; have HG4 := Lib.hid (And.intro hg4 lt4); clear hg4 lt4)
        | ((with_reducible show wpList _ _ _ ({ dst := none, op := _, type := _, pos := _, after := _, guard := _ } :: _) _ _); refine wpList_put (vs := prC (0, 0)) rfl rfl rfl rfl b4 rfl (by rw [sizePr]; rfl) (by simp [Value.oneCell', prC]) ?_; intro w5 ht5 b5))
      have hb35 : Below w3.heap.size w3 w5 := hb4.trans (ht5.below _ (by have := HG4.out; omega))
      have HB5 := Lib.hid (bstep HB3.out hb35)
      have cE : w5.cell? ⟨g4, 1, none⟩ = some (.int .i64 0) := by have := b5.cell 1; simpa [prC] using this
      have hS : Below w5.heap.size w5 w5.drew := (Below.refl _ _).drew
      clear b4 hb4 ht5 hb35 b5 hr1
      refine wp_region_T 19 (by kernel_rfl) ?_
      -- region 2: 20 operations, tail from 19
      refine WpT.take (i := 0) rfl (by kernel_rfl) (fun _ _ _ h => h) (.inl ⟨by rfl, fun w hSw => by clear hSw; go_simp; (try go_bits); (try rw [if_pos (by omega)]); (try with_reducible rfl)⟩) (hS) ?_
      try simp only [Act.put, List.setIfInBounds_toArray, List.set_cons_zero, List.set_cons_succ]
      refine WpT.take (i := 1) rfl (by kernel_rfl) (fun _ _ _ h => h) (yields_load rfl rfl rfl (by kernel_rfl) cE) (hS) ?_
      try simp only [Act.put, List.setIfInBounds_toArray, List.set_cons_zero, List.set_cons_succ]
      refine WpT.take (i := 2) rfl (by kernel_rfl) (fun _ _ _ h => h) (.inl ⟨by rfl, fun w hSw => by clear hSw; go_simp; (try go_bits); (try rw [if_pos (by omega)]); (try with_reducible rfl)⟩) (hS) ?_
      try simp only [Act.put, List.setIfInBounds_toArray, List.set_cons_zero, List.set_cons_succ]
      refine WpT.take (i := 3) rfl (by kernel_rfl) (fun _ _ _ h => h) (.inl ⟨by rfl, fun w hSw => by clear hSw; go_simp; (try go_bits); (try rw [if_pos (by omega)]); (try with_reducible rfl)⟩) (hS) ?_
      try simp only [Act.put, List.setIfInBounds_toArray, List.set_cons_zero, List.set_cons_succ]
      refine WpT.take (i := 4) rfl (by kernel_rfl) (fun _ _ _ h => h) (.inl ⟨by rfl, fun w hSw => by clear hSw; go_simp; (try go_bits); (try rw [if_pos (by omega)]); (try with_reducible rfl)⟩) (hS) ?_
      try simp only [Act.put, List.setIfInBounds_toArray, List.set_cons_zero, List.set_cons_succ]
      refine WpT.take (i := 5) rfl (by kernel_rfl) (fun _ _ _ h => h) (.inl ⟨by rfl, fun w hSw => by clear hSw; go_simp; (try go_bits); (try rw [if_pos (by omega)]); (try with_reducible rfl)⟩) (hS) ?_
      try simp only [Act.put, List.setIfInBounds_toArray, List.set_cons_zero, List.set_cons_succ]
      refine WpT.take (i := 6) rfl (by kernel_rfl) (fun _ _ _ h => h) (.inl ⟨by rfl, fun w hSw => by clear hSw; go_simp; (try go_bits); (try rw [if_pos (by omega)]); (try with_reducible rfl)⟩) (hS) ?_
      try simp only [Act.put, List.setIfInBounds_toArray, List.set_cons_zero, List.set_cons_succ]
      refine WpT.take (i := 7) rfl (by kernel_rfl) (fun _ _ _ h => h) (.inl ⟨by rfl, fun w hSw => by clear hSw; go_simp; (try go_bits); (try rw [if_pos (by omega)]); (try with_reducible rfl)⟩) (hS) ?_
      try simp only [Act.put, List.setIfInBounds_toArray, List.set_cons_zero, List.set_cons_succ]
      refine WpT.take (i := 8) rfl (by kernel_rfl) (fun _ _ _ h => h) (.inl ⟨by rfl, fun w hSw => by clear hSw; go_simp; (try go_bits); (try rw [if_pos (by omega)]); (try with_reducible rfl)⟩) (hS) ?_
      try simp only [Act.put, List.setIfInBounds_toArray, List.set_cons_zero, List.set_cons_succ]
      refine WpT.take (i := 9) rfl (by kernel_rfl) (fun _ _ _ h => h) (.inr ⟨by rfl, rfl⟩) (hS) ?_
      try simp only [Act.put, List.setIfInBounds_toArray, List.set_cons_zero, List.set_cons_succ]
      refine WpT.take (i := 10) rfl (by kernel_rfl) (fun _ _ _ h => h) (.inr ⟨by rfl, rfl⟩) (hS) ?_
      try simp only [Act.put, List.setIfInBounds_toArray, List.set_cons_zero, List.set_cons_succ]
      refine WpT.take (i := 11) rfl (by kernel_rfl) (fun _ _ _ h => h) (.inr ⟨by rfl, rfl⟩) (hS) ?_
      try simp only [Act.put, List.setIfInBounds_toArray, List.set_cons_zero, List.set_cons_succ]
      refine WpT.take (i := 12) rfl (by kernel_rfl) (fun _ _ _ h => h) (.inr ⟨by rfl, rfl⟩) (hS) ?_
      try simp only [Act.put, List.setIfInBounds_toArray, List.set_cons_zero, List.set_cons_succ]
      refine WpT.take (i := 13) rfl (by kernel_rfl) (fun _ _ _ h => h) (.inr ⟨by rfl, rfl⟩) (hS) ?_
      try simp only [Act.put, List.setIfInBounds_toArray, List.set_cons_zero, List.set_cons_succ]
      refine WpT.take (i := 14) rfl (by kernel_rfl) (fun _ _ _ h => h) (.inr ⟨by rfl, rfl⟩) (hS) ?_
      try simp only [Act.put, List.setIfInBounds_toArray, List.set_cons_zero, List.set_cons_succ]
      refine WpT.take (i := 15) rfl (by kernel_rfl) (fun _ _ _ h => h) (.inr ⟨by rfl, rfl⟩) (hS) ?_
      try simp only [Act.put, List.setIfInBounds_toArray, List.set_cons_zero, List.set_cons_succ]
      refine WpT.take (i := 16) rfl (by kernel_rfl) (fun _ _ _ h => h) (.inr ⟨by rfl, rfl⟩) (hS) ?_
      try simp only [Act.put, List.setIfInBounds_toArray, List.set_cons_zero, List.set_cons_succ]
      refine WpT.take (i := 17) rfl (by kernel_rfl) (fun _ _ _ h => h) (.inr ⟨by rfl, rfl⟩) (hS) ?_
      try simp only [Act.put, List.setIfInBounds_toArray, List.set_cons_zero, List.set_cons_succ]
      refine WpT.take (i := 18) rfl (by kernel_rfl) (fun _ _ _ h => h) (.inl ⟨by rfl, fun w hSw => by clear hSw; go_simp; (try go_bits); (try rw [if_pos (by omega)]); (try with_reducible rfl)⟩) (hS) ?_
      try simp only [Act.put, List.setIfInBounds_toArray, List.set_cons_zero, List.set_cons_succ]
      refine WpT.tail (i := 19) rfl (by kernel_rfl) (by kernel_rfl) (fun K hK => ?_)
      go_simp; (try go_bits)
      refine hK _ _ ?_; clear hK K; try simp only [Act.put, List.setIfInBounds_toArray, List.set_cons_zero, List.set_cons_succ]
      refine WpT.done (by kernel_rfl) ?_ _
      go_wp2_with fail
      go_ret
      exact ⟨rfl, bstep HB5.out hS⟩
theorem bytesWorld_below (w : World) (t : TypeId) (s : ByteArray) : Below w.heap.size w (Lib.bytesWorld w t s) :=
  Lib.below_freeze ((Below.refl _ w).drew.alloc (Nat.le_refl _) _) (Nat.le_refl _) 1
set_option maxRecDepth 20000 in
set_option maxHeartbeats 8000000 in
/-- The value of a token, if it is known how it is written. -/
theorem value_of (t : Tok) (w : World) (hg : GTab w) (hlen : (writeL t.kind t.s).length ≤ 1099511627776) (hW : ∀ W, GTab W → Calls Tryz.prog 38 #[tokV t] W fun e w' => e = .returned (.string ⟨(writeL t.kind t.s).toArray⟩) ∧ Below W.heap.size W w') :
    Calls Tryz.prog 20 #[tokV t] w fun e w' => e = .returned (.tuple #[.int .i64 (valueT t.kind t.s).1, .int .i64 (valueT t.kind t.s).2]) ∧ Below w.heap.size w w' := by
  have HI := Lib.hid (fun W (h : GTab W) => isToken_of t W h hlen hW)
  obtain ⟨wa, hwa, hb1, q1⟩ : ∃ wa : World, wa = w.alloc (.cells (tokL t).toArray 44) ∧ Below w.heap.size w wa ∧ Blk wa w.heap.size 44 (tokL t).toArray := ⟨_, rfl, (Below.refl _ _).alloc (Nat.le_refl _) _, Blk.new _ _ _⟩
  have HWA := Lib.hid hwa
  have HB1 := Lib.hid hb1
  have HG1 := Lib.hid (hg.below hb1)
  obtain ⟨g1, hg1⟩ : ∃ g, w.heap.size = g := ⟨_, rfl⟩
  rw [hg1] at q1
  have hr1 := blk_rowL q1
  have HQ := Lib.hid q1
  have HGE := Lib.hid hg1
  have c0 : wa.cell? ⟨g1, 0, none⟩ = some (.int .i64 t.kind) := by have := q1.cell 0; simpa [tokL, lexL] using this
  clear hwa q1 hg hb1 hg1
  by_cases hk : t.kind = 3
  · have dk : (t.kind != 3) = false := by simpa using hk
    have dk1 : decide (t.kind = 3) = true := by simpa using hk
    by_cases hi : isTok t.kind t.s = true
    · have hv : valueT t.kind t.s = ((numL t.s : Int), 0) := by unfold valueT; rw [if_pos ⟨hk, hi⟩]
      rw [hv]
      obtain ⟨h1, h2, h3⟩ := isTok3 (hk ▸ hi)
      have HA := Lib.hid (fun W => Tryz.strconv_Atoi ⟨t.s.toArray⟩ (numL t.s : Int) (by rw [bts_size]; exact h2) (by rw [bts_list]; exact atoi_d9 t.s h1 h3) W)
      dsimp only
      rw [hi] at HI
      generalize (numL t.s : Int) = V at *
      clear hv hi h1 h2 h3 hlen hW
      go_enter Tryz.func20, Tryz.ntmps20
      go_upto_region 1 with fail
      change Code.wp _ _ _ _ (w.alloc (.cells (tokL t).toArray 44))
      rw [← HWA.out]
      try rw [HGE.out]
      go_wp2_with ((with_reducible show wpList _ _ _ ({ dst := some 10, op := _, type := _, pos := _, after := _, guard := _ } :: _) _ _); refine wpList_loadKW (us := tokL t) (by rfl) rfl rfl aggLx (by rw [sizeLx]; rfl) hr1 ?_)
      refine (HI.out _ HG1.out).mono ?_
      rintro e w2 ⟨rfl, hb2⟩
      have hq2 := HQ.out.below hb2
      have c2 : w2.cell? ⟨g1, 2, none⟩ = some (.string ⟨t.s.toArray⟩) := by have := hq2.cell 2; simpa [tokL, lexL] using this
      have HB2 := Lib.hid (bstep HB1.out hb2)
      clear hb2 HI HG1 HB1 HQ hq2
      go_wp2_with fail
      refine (HA.out _).mono ?_
      rintro e w3 ⟨rfl, bt, hw3⟩
      have HB3 := Lib.hid (bstep HB2.out (hw3 ▸ bytesWorld_below w2 5 bt))
      clear hw3 HA HB2
      go_wp2_with fail
      go_ret2
      exact ⟨rfl, HB3.out⟩
    · have hv : valueT t.kind t.s = (0, 1) := by unfold valueT; rw [if_neg (fun h => hi h.2)]
      have hi2 : isTok t.kind t.s = false := by simpa using hi
      rw [hv]
      dsimp only
      rw [hi2] at HI
      clear hv hi hi2 hlen hW
      go_enter Tryz.func20, Tryz.ntmps20
      go_upto_region 1 with fail
      change Code.wp _ _ _ _ (w.alloc (.cells (tokL t).toArray 44))
      rw [← HWA.out]
      try rw [HGE.out]
      go_wp2_with ((with_reducible show wpList _ _ _ ({ dst := some 10, op := _, type := _, pos := _, after := _, guard := _ } :: _) _ _); refine wpList_loadKW (us := tokL t) (by rfl) rfl rfl aggLx (by rw [sizeLx]; rfl) hr1 ?_)
      refine (HI.out _ HG1.out).mono ?_
      rintro e w2 ⟨rfl, hb2⟩
      have HB2 := Lib.hid (bstep HB1.out hb2)
      clear hb2 HI HG1 HB1 HQ
      go_wp2_with fail
      go_ret2
      exact ⟨rfl, HB2.out⟩
  · have dk : (t.kind != 3) = true := by simpa using hk
    have dk1 : decide (t.kind = 3) = false := by simpa using hk
    have hv : valueT t.kind t.s = (0, 1) := by unfold valueT; rw [if_neg (fun h => hk h.1)]
    rw [hv]
    dsimp only
    clear hv hlen hW HI hk
    go_enter Tryz.func20, Tryz.ntmps20
    go_upto_region 1 with fail
    change Code.wp _ _ _ _ (w.alloc (.cells (tokL t).toArray 44))
    rw [← HWA.out]
    try rw [HGE.out]
    go_wp2_with fail
    go_ret2
    exact ⟨rfl, HB1.out⟩
/-- The value of a token that is no text. -/
theorem value_plain (t : Tok) (w : World) (hg : GTab w) (hlen : t.s.length ≤ 1099511627776) (hk : t.kind ≠ 4) :
    Calls Tryz.prog 20 #[tokV t] w fun e w' => e = .returned (.tuple #[.int .i64 (valueT t.kind t.s).1, .int .i64 (valueT t.kind t.s).2]) ∧ Below w.heap.size w w' :=
  value_of t w hg (by unfold writeL; rw [if_neg hk]; exact hlen) (fun W _ => by unfold writeL; rw [if_neg hk]; exact write_plain t W hk)
end Go.Proofs.YtiajmdmofjfdcaaGreatDoor
