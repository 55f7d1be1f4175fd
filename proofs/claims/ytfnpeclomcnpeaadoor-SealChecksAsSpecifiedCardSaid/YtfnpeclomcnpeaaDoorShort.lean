/-
  What Short and Of of the reference compute. Condition: the reference's table of constants reads as the program lays it.
-/
import Derived.Test.YtfnpeclomcnpeaaDoorRSum
import Derived.Test.YtfnpeclomcnpeaaDoorRef1
namespace Go.Proofs.YtfnpeclomcnpeaaDoor
set_option linter.unusedSimpArgs false
set_option linter.unusedVariables false
open Go.RowKit Sha
/-- A row of 16 bytes of which the first ones are made. -/
def row16 (l : List UInt8) : Array Value := (bv (l ++ List.replicate (16 - l.length) 0)).toArray
theorem size_row16 (l : List UInt8) (h : l.length ≤ 16) : (row16 l).size = 16 := by simp [row16]; omega
theorem row16_full (l : List UInt8) (h : l.length = 16) : row16 l = (bv l).toArray := by simp [row16, h]
theorem row16_nil : row16 [] = zero16 := by simp [row16, zero16]
theorem row16_set (l : List UInt8) (x : UInt8) (h : l.length < 16) : (row16 l).setIfInBounds l.length (.int .u8 (x.toNat : Nat)) = row16 (l ++ [x]) := by
  unfold row16
  have e : List.replicate (16 - l.length) (0 : UInt8) = 0 :: List.replicate (16 - (l.length + 1)) 0 := by
    rw [show 16 - l.length = (16 - (l.length + 1)) + 1 by omega, List.replicate_succ]
  simp only [bv, List.setIfInBounds_toArray, e, List.length_append, List.length_cons, List.length_nil, List.map_append, List.map_cons, Nat.zero_add]
  congr 1
  rw [List.set_append_right _ _ (by simp)]
  simp
theorem row16_next (l : List UInt8) (h : l.length < 16) : (row16 l)[l.length]? = some (.int .u8 0) := by
  unfold row16
  have e : List.replicate (16 - l.length) (0 : UInt8) = 0 :: List.replicate (16 - (l.length + 1)) 0 := by
    rw [show 16 - l.length = (16 - (l.length + 1)) + 1 by omega, List.replicate_succ]
  simp only [bv, List.getElem?_toArray, List.getElem?_map]
  rw [List.getElem?_append_right (Nat.le_refl _), e]
  simp
theorem build_16 (W : World) : (Instr.build 44 #[]).run Tryd.prog W = .ok (.agg zero16) W := by kernel_rfl
set_option maxHeartbeats 2000000 in
set_option maxRecDepth 100000 in
theorem refShort_any (A : Option Addr) (n c : Nat) (l : List UInt8) (w : World) (hn : n ≤ 268435456) (hr : Rd w A n (bv l)) (hRC : RCon w) :
    Calls Tryd.prog 57 #[.slice A n c] w fun e w' => e = .returned (.agg (bv (dig16 l)).toArray) ∧ Below w.heap.size w w' := by
  have HQ := Lib.hid (fun (W : World) (hr : Rd W A n (bv l)) (hR : RCon W) => refSum_any A n c l W hn hr hR)
  have HLN := Lib.hid (length_sha l)
  unfold dig16
  generalize sha l = S at HQ HLN ⊢
  have hz16 := zero_16
  go_enter Tryd.func57, Tryd.ntmps57
  go_wp2_with fail
  have h2 := Blk.new w 44 zero16
  have ba := (Below.refl w.heap.size w).alloc (Nat.le_refl _) (.cells zero16 44)
  refine (HQ.out _ (hr.below ba) (hRC.below ba)).mono ?_
  rintro e w1 ⟨rfl, hb1⟩
  replace h2 := h2.below hb1
  replace ba := ba.trans (hb1.mono ba.size)
  have hsz : (bv S).toArray.size = 32 := by simp [HLN.out]
  have hR0 := size_row32 [] (by simp)
  have h160 : zero16.size = 16 := by simp [zero16]
  have H160 := Lib.hid h160
  clear hb1 hz16
  dsimp only
  go_step
  refine wpList_newRow rfl rfl rfl rfl (zero_32 _) (fun _ => rfl) (fun _ => rfl) (by rw [hsz, hR0]) (by rw [hsz]; kernel_rfl) (all_bv _) ?_
  intro w2 g3 hg3 h3 hb1 hlt3
  replace hg3 : w.heap.size < g3 := by rw [hg3]; exact h2.lt
  replace h2 := h2.below hb1
  replace ba := ba.trans (hb1.mono ba.size)
  clear hb1 hsz hR0 hlt3
  simp only [Act.put]
  go_upto_region 2 with (fail)
  refine wp_region_lit ?_
  refine wpList_build rfl rfl (by simp) (build_16 _) ?_
  refine wpList_newRow rfl rfl rfl rfl (zero_16 _) (fun _ => rfl) (fun _ => rfl) rfl (by rw [h160]; kernel_rfl) (all_bv _) ?_
  intro w3 g4 hg4 h4 hb1 hlt4
  replace hg4 : g3 < g4 := by rw [hg4]; exact h3.lt
  replace h2 := h2.below hb1
  replace h3 := h3.below hb1
  replace ba := ba.trans (hb1.mono ba.size)
  clear hb1 hlt4 h160
  simp only [Act.put]
  go_wp2_with fail
  go_loopw [5] (fun i wr => ∃ k : Nat, k ≤ 16 ∧ i = .int .i64 k ∧ Below w.heap.size w wr ∧ Blk wr w.heap.size 44 zero16 ∧ Blk wr g3 91 (bv S).toArray ∧ Blk wr g4 44 (row16 (S.take k))) (fun i _ => 16 - (intOf i).toNat)
  case atStart => exact ⟨0, Nat.zero_le _, rfl, ba, h2, h3, by rw [List.take_zero, row16_nil]; exact h4⟩
  case round =>
    clear ba h2 h3 h4
    obtain ⟨k, hk, rfl, ba, h2, h3, h4⟩ := hrel
    by_cases hlt : k < 16
    · have hkS : k < S.length := by rw [HLN.out]; omega
      have hc := h3.cell k
      rw [show (bv S).toArray[k]? = some (.int .u8 (S[k].toNat : Nat)) by simp [bv, hkS]] at hc
      have htl : (S.take k).length = k := by rw [List.length_take, HLN.out]; omega
      have co : wr.cell? ⟨g4, k, none⟩ = some (.int .u8 0) := by
        have h := row16_next (S.take k) (by omega)
        rw [htl] at h
        rw [h4.cell, h]
      have fo := h4.free k
      have hset := row16_set (S.take k) S[k] (by omega)
      rw [htl, ← List.take_succ_eq_append_getElem hkS] at hset
      have HSET := Lib.hid hset
      clear hset htl
      generalize S[k] = x at *
      go_wp2_with fail
      refine ⟨⟨k + 1, by omega, by go_num, ba.setCell (by simp; omega) _, h2.far (by simp; omega) _, h3.far (by simp; omega) _, ?_⟩, by simp [intOf]; omega⟩
      rw [← HSET.out]
      exact h4.set k _
    · obtain rfl : k = 16 := by omega
      have h16 : (S.take 16).length = 16 := by rw [List.length_take, HLN.out]; rfl
      rw [row16_full _ h16] at h4
      have hs16 : (bv (S.take 16)).toArray.size = 16 := by simp [HLN.out]
      have h5 := h2.all (bv (S.take 16)).toArray (by rw [hs16, H160.out])
      have ba2 := below_setCells ba (g := w.heap.size) (Nat.le_refl _) 0 (bv (S.take 16)).toArray.toList
      go_upto_region 7 with (fail)
      refine wp_region_lit ?_
      refine wpList_loadRow rfl rfl rfl h4 (by kernel_rfl) (by rw [hs16]; kernel_rfl) ?_
      refine wpList_storeRow (g := w.heap.size) (o := 0) rfl rfl rfl rfl h2 (by rw [hs16, H160.out]; decide) (by rw [hs16]; kernel_rfl) (all_bv _) ?_
      refine wpList_nil ?_
      have HS16 := Lib.hid hs16
      clear h2 h3 h4 ba hs16 h16
      generalize wr.setCells w.heap.size 0 (bv (S.take 16)).toArray.toList = w9 at *
      simp only [Act.put]
      go_wp2
      refine ret_blk rfl rfl rfl h5 (by kernel_rfl) (by rw [HS16.out]; kernel_rfl) ⟨rfl, ba2⟩
set_option maxHeartbeats 2000000 in
set_option maxRecDepth 100000 in
theorem refOf_any (tag : Int) (A : Option Addr) (n c : Nat) (l : List ByteArray) (w : World) (hn : n ≤ 12) (hs : ∀ s ∈ l, s.size ≤ 400) (hr : Rd w A n (sv l)) (hRC : RCon w) :
    Calls Tryd.prog 44 #[.int .i64 tag, .slice A n c] w fun e w' => e = .returned (.agg (bv (dig16 (inputL tag l))).toArray) ∧ Below w.heap.size w w' := by
  have hl : l.length = n := by have := hr.len; simpa using this
  have hil := length_inputL tag l 400 hs
  have hil2 : (inputL tag l).length ≤ 10000 := by
    have h2 : l.length * (10 + 400) ≤ 12 * (10 + 400) := Nat.mul_le_mul_right _ (by omega)
    omega
  have HIL := Lib.hid hil2
  have HQ := Lib.hid (fun (A : Option Addr) (n c : Nat) (W : World) (hn : n ≤ 268435456) (hr : Rd W A n (bv (inputL tag l))) (hR : RCon W) => refShort_any A n c (inputL tag l) W hn hr hR)
  have hdl := length_dig16 (inputL tag l)
  have HS := Lib.hid hs
  clear hl hil hil2 hs
  generalize dig16 (inputL tag l) = D at *
  have hz16 := zero_16
  go_enter Tryd.func44, Tryd.ntmps44
  go_wp2_with fail
  have h4 := Blk.new w 44 zero16
  have ba := (Below.refl w.heap.size w).alloc (Nat.le_refl _) (.cells zero16 44)
  refine (refInput_any tag A n c l _ (by omega) (fun s hs => by have := HS.out s hs; omega) (hr.below ba)).mono ?_
  rintro e w1 ⟨v1, rfl, o1, hb1⟩
  obtain ⟨A1, n1, c1, rfl, hn1, _, _, r1⟩ := o1.formN
  replace h4 := h4.below hb1
  replace ba := ba.trans (hb1.mono ba.size)
  clear hb1 o1 hz16
  go_wp2_with fail
  refine (HQ.out A1 n1 c1 _ (by rw [hn1.out, length_bv]; have := HIL.out; omega) r1 (hRC.below ba)).mono ?_
  rintro e w2 ⟨rfl, hb1⟩
  replace h4 := h4.below hb1
  replace ba := ba.trans (hb1.mono ba.size)
  have h160 : zero16.size = 16 := by simp [zero16]
  have hD : (bv D).toArray.size = 16 := by simp [hdl]
  have h5 := h4.all (bv D).toArray (by rw [hD, h160])
  have ba2 := below_setCells ba (g := w.heap.size) (Nat.le_refl _) 0 (bv D).toArray.toList
  dsimp only
  go_step
  refine wpList_storeRow (g := w.heap.size) (o := 0) rfl rfl rfl rfl h4 (by rw [hD, h160]; decide) (by rw [hD]; kernel_rfl) (all_bv _) ?_
  refine wpList_nil ?_
  have HD16 := Lib.hid hD
  clear hb1 h4 ba h160 hD hdl
  generalize w2.setCells w.heap.size 0 (bv D).toArray.toList = w9 at *
  simp only [Act.put]
  go_wp2
  refine ret_blk rfl rfl rfl h5 (by kernel_rfl) (by rw [HD16.out]; kernel_rfl) ⟨rfl, ba2⟩
end Go.Proofs.YtfnpeclomcnpeaaDoor
