/-
  What Sum of SHA-256's streams, and Sum, compute. Condition: the table of constants reads as the program lays it.
-/
import Derived.Test.YtfnpeclomcnpeaaDoorSha5
namespace Go.Proofs.YtfnpeclomcnpeaaDoor
set_option linter.unusedSimpArgs false
set_option linter.unusedVariables false
open Go.RowKit Sha

def slLen : Value → Nat
  | .slice _ n _ => n
  | _ => 0
theorem lenByte_nat (n i : Nat) : ((lenByte n i).toNat : Int) = (8 * (n : Int)) / 2 ^ (56 - 8 * i) % 256 := by
  unfold lenByte
  rw [UInt8.toNat_ofNat']
  rw [show ((8 : Int) * (n : Int)) = ((8 * n : Nat) : Int) by simp, show (2 : Int) ^ (56 - 8 * i) = ((2 ^ (56 - 8 * i) : Nat) : Int) by simp]
  omega
/-- A row of 32 bytes of which the first ones are made. -/
def row32 (l : List UInt8) : Array Value := (bv (l ++ List.replicate (32 - l.length) 0)).toArray
theorem size_row32 (l : List UInt8) (h : l.length ≤ 32) : (row32 l).size = 32 := by simp [row32]; omega
theorem row32_full (l : List UInt8) (h : l.length = 32) : row32 l = (bv l).toArray := by simp [row32, h]
theorem row32_set (l : List UInt8) (x : UInt8) (h : l.length < 32) : (row32 l).setIfInBounds l.length (.int .u8 (x.toNat : Nat)) = row32 (l ++ [x]) := by
  unfold row32
  have e : List.replicate (32 - l.length) (0 : UInt8) = 0 :: List.replicate (32 - (l.length + 1)) 0 := by
    rw [show 32 - l.length = (32 - (l.length + 1)) + 1 by omega, List.replicate_succ]
  simp only [bv, List.setIfInBounds_toArray, e, List.length_append, List.length_cons, List.length_nil, List.map_append, List.map_cons, Nat.zero_add]
  congr 1
  rw [List.set_append_right _ _ (by simp)]
  simp
theorem row32_next (l : List UInt8) (h : l.length < 32) : (row32 l)[l.length]? = some (.int .u8 0) := by
  unfold row32
  have e : List.replicate (32 - l.length) (0 : UInt8) = 0 :: List.replicate (32 - (l.length + 1)) 0 := by
    rw [show 32 - l.length = (32 - (l.length + 1)) + 1 by omega, List.replicate_succ]
  simp only [bv, List.getElem?_toArray, List.getElem?_map]
  rw [List.getElem?_append_right (Nat.le_refl _), e]
  simp
theorem one_row32 (l : List UInt8) : (row32 l).all (·.oneCell') = true := by simp [row32, bv, Value.oneCell']
theorem digByte_nat (s : S8) (i : Nat) : ((digByte s i).toNat : Int) = ((s.list.getD (i / 4) 0 : Nat) : Int) / 2 ^ (24 - 8 * (i % 4)) % 256 := by
  unfold digByte
  rw [UInt8.toNat_ofNat', show (2 : Int) ^ (24 - 8 * (i % 4)) = ((2 ^ (24 - 8 * (i % 4)) : Nat) : Int) by simp]
  omega
theorem strm_word (s : S8) (b : List UInt8) (n k : Nat) (h : k < 8) : (strm s b n)[k]? = some (.int .u32 (s.list.getD k 0 : Nat)) := by
  have h8 : (all8 s).toList.length = 8 := rfl
  simp only [strm, List.getElem?_toArray]
  rw [List.append_assoc, List.getElem?_append_left (by omega)]
  rcases (show k = 0 ∨ k = 1 ∨ k = 2 ∨ k = 3 ∨ k = 4 ∨ k = 5 ∨ k = 6 ∨ k = 7 by omega) with rfl | rfl | rfl | rfl | rfl | rfl | rfl | rfl <;> rfl
theorem list_lt {s : S8} (h : S8.Ok s) (k : Nat) (hk : k < 8) : s.list.getD k 0 < 4294967296 := by
  rcases (show k = 0 ∨ k = 1 ∨ k = 2 ∨ k = 3 ∨ k = 4 ∨ k = 5 ∨ k = 6 ∨ k = 7 by omega) with rfl | rfl | rfl | rfl | rfl | rfl | rfl | rfl
  · exact h.a
  · exact h.b
  · exact h.c
  · exact h.d
  · exact h.e
  · exact h.f
  · exact h.g
  · exact h.h
/-- A slice that a literal makes. -/
theorem Own.lit (w : World) (B : Nat) (e : TypeId) (xs : List Value) (hB : B ≤ w.heap.size) (hm : xs.length ≤ maxLen) : Own (w.alloc (.cells xs.toArray e)) B e (.slice (some ⟨w.heap.size, 0, none⟩) xs.length xs.length) xs := by
  refine ⟨by simp, .inr ⟨w.heap.size, xs.length, xs.toArray, rfl, hB, heap_alloc_new w _, Nat.le_refl _, hm, by simp, by simp⟩⟩
theorem Own.slLen {w : World} {B : Nat} {e : TypeId} {v : Value} {xs : List Value} (h : Own w B e v xs) : slLen v = xs.length := by
  obtain ⟨A, c, rfl, _⟩ := h.form; rfl
/-- The hash of m is the digest of s. -/
structure ShaIs (m : List UInt8) (s : S8) : Prop where
  eq : sha m = dig s 32
theorem zero_32 (W : World) : (zeroValue 91).run Tryd.prog W = .ok (.agg (row32 [])) W := by kernel_rfl
set_option maxHeartbeats 1000000 in
set_option maxRecDepth 100000 in
theorem ssum_any (m b : List UInt8) (w : World) (hT : Tail m b) (hlen : m.length ≤ 549755813888) (hg : GCon w) :
    Calls Tryd.prog 55 #[.agg (strmOf m b)] w fun e w' => e = .returned (.agg (bv (sha m)).toArray) ∧ Below w.heap.size w w' := by
  have hz32 := zero_32
  go_enter Tryd.func55, Tryd.ntmps55
  go_upto_region 1 with (fail)
  obtain ⟨wa, hwa, ba, hB, hR⟩ : ∃ wa : World, wa = (w.alloc (.cells (strmOf m b) 86)).alloc (.cells (row32 []) 91) ∧ Below w.heap.size w wa ∧
      Blk wa w.heap.size 86 (strmOf m b) ∧ Blk wa (w.heap.size + 1) 91 (row32 []) :=
    ⟨_, rfl, ((Below.refl _ _).alloc (Nat.le_refl _) _).alloc (by simp) _, (Blk.new _ _ _).alloc _, Blk.new2 _ _ _ _⟩
  rw [← hwa]
  clear hwa hz32
  have hsz := size_strm (stN m (m.length / 64)) b m.length hT.len
  change (strmOf m b).size = 73 at hsz
  have c72 := hB.cell 72
  rw [strmOf, strm_n _ _ _ hT.len] at c72
  have HSZ := Lib.hid hsz
  clear hsz
  go_wp2_with fail
  clear c72
  go_loopw [4] (fun v wr => ∃ i : Nat, i ≤ zeros m.length ∧ Own wr (w.heap.size + 2) 5 v (bv (padZ i)) ∧ Below w.heap.size w wr ∧ w.heap.size + 2 ≤ wr.heap.size ∧ Blk wr w.heap.size 86 (strmOf m b) ∧ Blk wr (w.heap.size + 1) 91 (row32 [])) (fun v _ => 65 - slLen v)
  case atStart =>
    have hz := hR.lt
    exact ⟨0, Nat.zero_le _, Own.lit wa (w.heap.size + 2) 5 [.int .u8 128] (by omega) (by simp [maxLen]), ba.alloc ba.size _, by simp; omega, hB.alloc _, hR.alloc _⟩
  case round =>
    clear ba hB hR
    obtain ⟨i, hi, hown, ba, hz, hB, hR⟩ := hrel
    obtain ⟨A, n, c, rfl, hn, hnc, hcm, hr⟩ := hown.formN
    have c72 := hB.cell 72
    rw [strmOf, strm_n _ _ _ hT.len] at c72
    have hn1 : n = i + 1 := by rw [hn.out]; simp [length_padZ]
    have hzl := zeros_lt m.length
    by_cases hzi : i = zeros m.length
    · have hne : (((m.length : Int) + (n : Int)) % 64 != 56) = false := by
        have := zeros_done m.length
        simp; omega
      have hnb : n ≤ 64 := by omega
      rw [hzi] at hown
      clear hr hn hnc hcm hi hzi hzl hn1
      go_wp2_with fail
      clear hne c72
      obtain ⟨wo, rfl⟩ : ∃ wo : World, wo = wr := ⟨_, rfl⟩
      go_loopw [4, 5, 23] (fun v _ i wr => ∃ j : Nat, j ≤ 8 ∧ i = .int .i64 j ∧ Own wr (w.heap.size + 2) 5 v (bv (padZ (zeros m.length) ++ lenBytes m.length j)) ∧ Below w.heap.size w wr ∧ w.heap.size + 2 ≤ wr.heap.size ∧ Blk wr w.heap.size 86 (strmOf m b) ∧ Blk wr (w.heap.size + 1) 91 (row32 [])) (fun _ _ i _ => 8 - (intOf i).toNat)
      case atStart => exact ⟨0, Nat.zero_le _, rfl, by rw [show lenBytes m.length 0 = [] from rfl, List.append_nil]; exact hown, ba, hz, hB, hR⟩
      case round =>
        clear hown ba hz hB hR hnb
        obtain ⟨j, hj, rfl, hown, ba, hz, hB, hR⟩ := hrel
        obtain ⟨A, n, c, rfl, hn, hnc, hcm, hr⟩ := hown.formN
        by_cases hlt : j < 8
        · have hLB := Lib.hid (lenByte_nat m.length j)
          go_wp2_with (at_builtin; refine wpList_app rfl rfl elemBytes rfl (hown.alloc _) rfl (Rd.new1 _ _ _) (one1 rfl) (by rw [length_bv, List.length_append, length_padZ, length_lenBytes]; have := zeros_lt m.length; omega) (by simp; omega) ?_; intro v' w' hown' hg' hb' _)
          have hbx : Below (w.heap.size + 2) wr w' := ((Below.refl _ _).alloc hz _).trans hb'
          refine ⟨⟨j + 1, by omega, by go_num, ?_, ba.trans (hbx.mono (by omega)), by have := hbx.size; omega, hB.below' hbx (by omega), hR.below' hbx (by omega)⟩, by simp [intOf]; omega⟩
          rw [lenBytes_succ, ← List.append_assoc, bv_append, show bv [lenByte m.length j] = [.int .u8 (8 * (m.length : Int) / 2 ^ (56 - 8 * j) % 256)] by simp [bv, hLB.out]]
          exact hown'
        · obtain rfl : j = 8 := by omega
          rw [← pad_eq] at hown hn hr
          clear hj hlt hown hnc hcm
          have hpl : (pad m.length).length ≤ 128 := by
            have := zeros_lt m.length
            simp only [pad, List.length_append, List.length_cons, List.length_replicate, length_lenBytes]; omega
          have hps : (⟨(pad m.length).toArray⟩ : ByteArray).size = (pad m.length).length := rfl
          have hsz := HSZ.out
          go_upto_region 10 with (fail)
          refine wp_region_lit ?_
          refine wpList_loadRow rfl rfl rfl hB (by kernel_rfl) (by rw [hsz]; kernel_rfl) ?_
          go_step
          go_step
          go_step
          refine wpList_bts rfl rfl bytesTy (by kernel_rfl) rfl hr ?_
          go_step
          go_step
          refine (add_any m b _ _ hT (by rw [hps]; omega) (hg.below ba)).mono ?_
          rintro e w5 ⟨b', he, hT5, hb5⟩
          replace he : e = .returned (.agg (strm (final m) b' (m ++ pad m.length).length)) := he
          subst he
          have hl5 := hT5.len
          have ba5 := ba.trans (hb5.mono ba.size)
          have hz5 := hb5.size
          have hB5 := hB.below hb5
          have hR5 := hR.below hb5
          generalize (m ++ pad m.length).length = L at *
          have hsz5 := size_strm (final m) b' L hl5
          have hone := one_strm (final m) b' L
          have hfok : S8.Ok (final m) := stN_ok _ _
          have HSHA : ShaIs m (final m) := ⟨rfl⟩
          generalize final m = fm at *
          dsimp only
          go_step
          refine wpList_storeRow (g := w.heap.size) (o := 0) rfl rfl rfl rfl hB5 (by rw [hsz5, hsz]; decide) (by rw [hsz5]; kernel_rfl) hone ?_
          refine wpList_nil ?_
          have hB6 := hB5.all (strm fm b' L) (by rw [hsz5, hsz])
          have ba6 := below_setCells ba5 (g := w.heap.size) (Nat.le_refl _) 0 (strm fm b' L).toList
          have hR6 := hR5.farRow (g := w.heap.size) (by omega) 0 (strm fm b' L).toList
          have hz6 : w.heap.size + 2 ≤ (w5.setCells w.heap.size 0 (strm fm b' L).toList).heap.size := by rw [size_setCells]; omega
          clear hps hpl hl5 hB5 ba5 hR5 hB hR ba hb5 hr hn hz5 hz hsz hsz5 hone hT5
          generalize w5.setCells w.heap.size 0 (strm fm b' L).toList = w6 at *
          have hz32 := zero_32
          simp only [Act.put]
          go_wp2_with fail
          clear hz32
          generalize hg3 : w6.heap.size = g3 at *
          have HG3 := Lib.hid hg3
          clear hg3
          obtain ⟨wo, hwo⟩ : ∃ wo : World, wo = w6.alloc (.cells (row32 []) 91) := ⟨_, rfl⟩
          have bao : Below w.heap.size w wo := by rw [hwo]; exact ba6.alloc (by rw [HG3.out]; omega) _
          have hBo : Blk wo w.heap.size 86 (strm fm b' L) := by rw [hwo]; exact hB6.alloc _
          have hRo : Blk wo (w.heap.size + 1) 91 (row32 []) := by rw [hwo]; exact hR6.alloc _
          have hOo : Blk wo g3 91 (row32 []) := by rw [hwo, ← HG3.out]; exact Blk.new _ _ _
          rw [← hwo]
          clear hwo ba6 hB6 hR6
          go_loopw [7, 40] (fun _ i wr => ∃ j : Nat, j ≤ 32 ∧ i = .int .i64 j ∧ Below w.heap.size w wr ∧ Blk wr w.heap.size 86 (strm fm b' L) ∧ Blk wr (w.heap.size + 1) 91 (row32 []) ∧ Blk wr g3 91 (row32 (dig fm j))) (fun _ i _ => 32 - (intOf i).toNat)
          case atStart => exact ⟨0, Nat.zero_le _, rfl, bao, hBo, hRo, hOo⟩
          case round =>
            clear bao hBo hRo hOo
            obtain ⟨j, hj, rfl, ba, hB, hR, hO⟩ := hrel
            by_cases hlt : j < 32
            · have hjl := length_dig fm j
              have hw := hB.cell (j / 4)
              rw [strm_word _ _ _ _ (by omega)] at hw
              have hwl := list_lt hfok (j / 4) (by omega)
              have hdb := Lib.hid (digByte_nat fm j)
              generalize fm.list.getD (j / 4) 0 = wd at *
              have co : wr.cell? ⟨g3, j, none⟩ = some (.int .u8 0) := by
                have h := row32_next (dig fm j) (by omega)
                rw [hjl] at h
                rw [hO.cell, h]
              have fo := hO.free j
              have hset := Lib.hid (row32_set (dig fm j) (digByte fm j) (by omega))
              have HJL := Lib.hid hjl
              clear hjl
              go_wp2_with fail
              have hs := hO.set j (.int .u8 ((wd : Int) / 2 ^ (24 - 8 * (j % 4)) % 256))
              have e := hset.out
              rw [HJL.out, hdb.out, ← dig_succ] at e
              rw [e] at hs
              exact ⟨⟨j + 1, by omega, by go_num, ba.setCell (by simp; omega) _, hB.far (by simp; omega) _, hR.far (by simp; omega) _, hs⟩, by simp [intOf]; omega⟩
            · obtain rfl : j = 32 := by omega
              have h32 := size_row32 (dig fm 32) (by rw [length_dig]; omega)
              have h0 := size_row32 [] (by simp)
              have hone := one_row32 (dig fm 32)
              have hR2 := hR.all (row32 (dig fm 32)) (by rw [h32, h0])
              have ba2 := below_setCells ba (g := w.heap.size + 1) (by omega) 0 (row32 (dig fm 32)).toList
              go_upto_region 17 with (fail)
              refine wp_region_lit ?_
              refine wpList_loadRow rfl rfl rfl hO (by kernel_rfl) (by rw [h32]; kernel_rfl) ?_
              refine wpList_storeRow (g := w.heap.size + 1) (o := 0) rfl rfl rfl rfl hR (by rw [h32, h0]; decide) (by rw [h32]; kernel_rfl) hone ?_
              refine wpList_nil ?_
              generalize wr.setCells (w.heap.size + 1) 0 (row32 (dig fm 32)).toList = w7 at *
              rw [row32_full _ (length_dig fm 32), ← HSHA.eq] at hR2
              rw [row32_full _ (length_dig fm 32), ← HSHA.eq]
              have H32 := Lib.hid (show (bv (sha m)).toArray.size = 32 by simp [length_sha])
              clear hO hR hB h32 h0 hone
              go_wp2
              refine ret_blk rfl rfl rfl hR2 (by kernel_rfl) (by rw [H32.out]; kernel_rfl) ⟨rfl, ba2⟩
    · have hne : (((m.length : Int) + (n : Int)) % 64 != 56) = true := by
        have := zeros_not m.length i (by omega)
        simp; omega
      have hnb : n ≤ 64 := by omega
      have HN := Lib.hid hn1
      clear hn1
      go_wp2_with (at_builtin; refine wpList_app rfl rfl elemBytes rfl (hown.alloc _) rfl (Rd.new1 _ _ _) (one1 rfl) (by rw [length_bv, length_padZ]; omega) (by simp; omega) ?_; intro v' w' hown' hg' hb' _)
      have hbx : Below (w.heap.size + 2) wr w' := ((Below.refl _ _).alloc hz _).trans hb'
      have hl := hown'.slLen
      refine ⟨⟨i + 1, by omega, ?_, ba.trans (hbx.mono (by omega)), by have := hbx.size; omega, hB.below' hbx (by omega), hR.below' hbx (by omega)⟩, ?_⟩
      · rw [padZ_succ, bv_append]; exact hown'
      · rw [hl]
        show 65 - _ < 65 - n
        simp only [List.length_append, length_bv, length_padZ, List.length_cons, List.length_nil]
        have := HN.out
        omega
theorem begin_of (w : World) : Calls Tryd.prog 52 #[] w fun e w' => e = .returned (.agg (strmOf [] (List.replicate 64 0))) ∧ Below w.heap.size w w' := begin_any w
end Go.Proofs.YtfnpeclomcnpeaaDoor
