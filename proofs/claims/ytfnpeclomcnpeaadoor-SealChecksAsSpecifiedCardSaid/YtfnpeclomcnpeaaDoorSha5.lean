/-
  What Begin and Add of SHA-256's streams compute. Condition: the table of constants reads as the program lays it.
-/
import Derived.Test.YtfnpeclomcnpeaaDoorSha4
import Derived.Test.YtfnpeclomcnpeaaDoorStrm
import Derived.Test.YtfnpeclomcnpeaaDoorCopy
namespace Go.Proofs.YtfnpeclomcnpeaaDoor
set_option linter.unusedSimpArgs false
set_option linter.unusedVariables false
open Go.RowKit Sha

/-- The cells of a stream. -/
def strm (s : S8) (b : List UInt8) (n : Nat) : Array Value := ((all8 s).toList ++ bv b ++ [Value.int .u64 (n : Nat)]).toArray
theorem size_strm (s : S8) (b : List UInt8) (n : Nat) (h : b.length = 64) : (strm s b n).size = 73 := by simp [strm, all8, h]
theorem one_strm (s : S8) (b : List UInt8) (n : Nat) : (strm s b n).all (·.oneCell') = true := by
  simp [strm, all8, bv, Value.oneCell']
def S0 : S8 := ⟨0, 0, 0, 0, 0, 0, 0, 0⟩
/-- A stream's zero. -/
def zeroS : Array Value := strm S0 (List.replicate 64 0) 0
theorem zero_S (W : World) : (zeroValue 86).run Tryd.prog W = .ok (.agg zeroS) W := by kernel_rfl
theorem build_S (W : World) : (Instr.build 86 #[(0, .agg #[.int .u32 1779033703, .int .u32 3144134277, .int .u32 1013904242, .int .u32 2773480762, .int .u32 1359893119, .int .u32 2600822924, .int .u32 528734635, .int .u32 1541459225])]).run Tryd.prog W = .ok (.agg (strm H0 (List.replicate 64 0) 0)) W := by kernel_rfl
set_option maxHeartbeats 1000000 in
set_option maxRecDepth 100000 in
theorem begin_any (w : World) : Calls Tryd.prog 52 #[] w fun e w' => e = .returned (.agg (strm H0 (List.replicate 64 0) 0)) ∧ Below w.heap.size w w' := by
  have hz := zero_S
  have h2 := build_S
  go_enter Tryd.func52, Tryd.ntmps52
  go_upto_region 1 with (fail)
  refine wp_region_lit ?_
  go_step
  go_step
  go_step
  refine wpList_build rfl rfl (by simp [Act.eval]) (build_S _) ?_
  clear hz h2
  have hsz : (strm H0 (List.replicate 64 0) 0).size = 73 := size_strm _ _ _ (by simp)
  have hzz : zeroS.size = 73 := size_strm _ _ _ (by simp)
  refine wpList_storeRow (g := w.heap.size) (o := 0) (vs := strm H0 (List.replicate 64 0) 0) rfl rfl rfl rfl (Blk.new w 86 zeroS) (by rw [hsz, hzz]; decide) (by rw [hsz]; kernel_rfl) (one_strm _ _ _) ?_
  refine wpList_nil ?_
  have hB := (Blk.new w 86 zeroS).all (strm H0 (List.replicate 64 0) 0) (by rw [hsz, hzz])
  have hb := below_setCells (Below.alloc (Below.refl w.heap.size w) (Nat.le_refl _) (.cells zeroS 86)) (g := w.heap.size) (Nat.le_refl _) 0 (strm H0 (List.replicate 64 0) 0).toList
  change Exit.then _ _ _ _ ((w.alloc (.cells zeroS 86)).setCells w.heap.size 0 (strm H0 (List.replicate 64 0) 0).toList)
  generalize (w.alloc (.cells zeroS 86)).setCells w.heap.size 0 (strm H0 (List.replicate 64 0) 0).toList = w2 at *
  have HZ := Lib.hid hsz
  clear hsz hzz
  simp only [Act.put]
  go_wp2
  refine ret_blk rfl rfl rfl hB (by kernel_rfl) (by rw [HZ.out]; kernel_rfl) ⟨rfl, hb⟩
/-- The cells of the stream of m. -/
def strmOf (m b : List UInt8) : Array Value := strm (stN m (m.length / 64)) b m.length
theorem strm_n (s : S8) (b : List UInt8) (n : Nat) (h : b.length = 64) : (strm s b n)[72]? = some (.int .u64 (n : Nat)) := by
  simp only [strm, all8]
  rw [List.getElem?_toArray, List.getElem?_append_right (by simp [h])]
  simp [h]
theorem strm_splice (s : S8) (b x : List UInt8) (n a : Nat) (h : b.length = 64) (hx : a + x.length ≤ 64) :
    ((strm s b n).toList.take (8 + a) ++ bv x ++ (strm s b n).toList.drop (8 + a + x.length)).toArray = strm s (splice b x a) n := by
  have h8 : (all8 s).toList.length = 8 := rfl
  have t1 : ((all8 s).toList ++ (bv b ++ [Value.int .u64 (n : Nat)])).take (8 + a) = (all8 s).toList ++ (bv b).take a := by
    rw [List.take_append, List.take_of_length_le (by omega), h8, show 8 + a - 8 = a by omega, List.take_append_of_le_length (by rw [length_bv]; omega)]
  have t2 : ((all8 s).toList ++ (bv b ++ [Value.int .u64 (n : Nat)])).drop (8 + a + x.length) = (bv b).drop (a + x.length) ++ [Value.int .u64 (n : Nat)] := by
    rw [List.drop_append, List.drop_of_length_le (by omega), h8, show 8 + a + x.length - 8 = a + x.length by omega, List.drop_append_of_le_length (by rw [length_bv]; omega), List.nil_append]
  simp only [strm, List.append_assoc]
  rw [t1, t2]
  simp [splice, bv, List.map_take, List.map_drop, List.append_assoc]
theorem strm_setn (s : S8) (b : List UInt8) (n n' : Nat) (h : b.length = 64) : (strm s b n).setIfInBounds 72 (.int .u64 (n' : Nat)) = strm s b n' := by
  simp only [strm, List.setIfInBounds_toArray]
  rw [List.set_append_right _ _ (by simp [all8, h])]
  simp [all8, h]
theorem strm_sets (s s' : S8) (b : List UInt8) (n : Nat) : ((strm s b n).toList.take 0 ++ (all8 s').toList ++ (strm s b n).toList.drop (0 + (all8 s').toList.length)).toArray = strm s' b n := by
  have h8 : (all8 s').toList.length = 0 + (all8 s).toList.length := rfl
  simp only [strm, List.take_zero, List.nil_append, h8, Nat.zero_add]
  rw [List.append_assoc, List.append_assoc, List.drop_left]
theorem strm_state (s : S8) (b : List UInt8) (n : Nat) : (strm s b n).extract 0 (0 + 8) = all8 s := by
  simp [strm, all8]
theorem strm_byte (s : S8) (b : List UInt8) (n k : Nat) (h : k < b.length) : (strm s b n)[8 + k]? = some (.int .u8 (b[k].toNat : Nat)) := by
  have h8 : (all8 s).toList.length = 8 := rfl
  simp only [strm, List.getElem?_toArray]
  rw [List.append_assoc, List.getElem?_append_right (by omega), List.getElem?_append_left (by rw [length_bv]; omega)]
  simp [bv, h8, h]
/-- The block of a stream reads as bytes. -/
theorem Blk.strm_rd {w : World} {g : Nat} {T : TypeId} {s : S8} {b : List UInt8} {n : Nat} (h : Blk w g T (strm s b n)) (hb : b.length = 64) : Rd w (some ⟨g, 8, none⟩) 64 (bv b) := by
  refine ⟨by rw [length_bv, hb], fun k u hk => ⟨_, rfl, ?_⟩⟩
  have hlt : k < b.length := by have := (List.getElem?_eq_some_iff.1 hk).1; simpa using this
  have hadd : (⟨g, 8, none⟩ : Addr).add k = ⟨g, 8 + k, none⟩ := by unfold Addr.add; split <;> simp_all
  rw [hadd, h.cell, strm_byte s b n k hlt, ← hk]
  simp [bv, hlt]
theorem extract_rest (s : ByteArray) (k : Nat) : (s.extract k s.size).data.toList = s.data.toList.drop k := by
  rw [ByteArray.data_extract, Array.toList_extract]
  have h : s.size = s.data.toList.length := by simp
  rw [h, List.extract_eq_take_drop, List.take_of_length_le (by simp)]
def strSize : Value → Nat
  | .string s => s.size
  | _ => 0
set_option maxHeartbeats 2000000 in
set_option maxRecDepth 100000 in
theorem add_any (m b : List UInt8) (t : ByteArray) (w : World) (hT : Tail m b) (hlen : m.length + t.size ≤ 1099511627776) (hg : GCon w) :
    Calls Tryd.prog 53 #[.agg (strmOf m b), .string t] w fun e w' => ∃ b', e = .returned (.agg (strmOf (m ++ t.data.toList) b')) ∧ Tail (m ++ t.data.toList) b' ∧ Below w.heap.size w w' := by
  have hz := zero_S
  go_enter Tryd.func53, Tryd.ntmps53
  go_wp2_with fail
  clear hz
  go_loopw [1, 5, 6] (fun x _ _ wr => ∃ (m' b' : List UInt8) (s : ByteArray), x = .string s ∧ m' ++ s.data.toList = m ++ t.data.toList ∧ Tail m' b' ∧ Below w.heap.size w wr ∧
    Blk wr w.heap.size 86 (strmOf m' b') ∧ Blk wr (w.heap.size + 1) 86 zeroS) (fun x _ _ _ => strSize x)
  case atStart => exact ⟨m, b, t, rfl, rfl, hT, ((Below.refl _ _).alloc (by simp) _).alloc (by simp) _, (Blk.new _ _ _).alloc _, Blk.new2 _ _ _ _⟩
  case round =>
    obtain ⟨m1, b1, s, rfl, hms, hT1, hb, hB, hB0⟩ := hrel
    by_cases h0 : s.data.toList = []
    · have he1 : (!s.toList.isEmpty) = false := by rw [ByteArray.toList_eq, h0]; rfl
      have he2 : s.toList.isEmpty = true := by rw [ByteArray.toList_eq, h0]; rfl
      go_upto_region 8 with (fail)
      rw [h0, List.append_nil] at hms
      subst hms
      have hsz := size_strm (stN (m ++ t.data.toList) ((m ++ t.data.toList).length / 64)) b1 (m ++ t.data.toList).length hT1.len
      have hzz : zeroS.size = 73 := size_strm _ _ _ (by simp)
      have hone : (strmOf (m ++ t.data.toList) b1).all (·.oneCell') = true := one_strm _ _ _
      change (strmOf (m ++ t.data.toList) b1).size = 73 at hsz
      have hB2 := hB0.all (strmOf (m ++ t.data.toList) b1) (by rw [hsz, hzz])
      have hb2 := below_setCells hb (g := w.heap.size + 1) (by omega) 0 (strmOf (m ++ t.data.toList) b1).toList
      have HM := Lib.hid hT1
      clear hT1
      refine wp_region_lit ?_
      refine wpList_loadRow rfl rfl rfl hB (by kernel_rfl) (by rw [hsz]; kernel_rfl) ?_
      refine wpList_storeRow (g := w.heap.size + 1) (o := 0) rfl rfl rfl rfl hB0 (by rw [hsz, hzz]; decide) (by rw [hsz]; kernel_rfl) hone ?_
      refine wpList_nil ?_
      obtain ⟨cs, hcs⟩ : ∃ cs, cs = strmOf (m ++ t.data.toList) b1 := ⟨_, rfl⟩
      rw [← hcs] at hB2 hb2 hsz ⊢
      have HCS := Lib.hid hcs
      generalize wr.setCells (w.heap.size + 1) 0 cs.toList = w5 at *
      clear hB0 hB hone hzz he1 he2 h0 hcs
      have HZ := Lib.hid hsz
      clear hsz
      go_wp2
      refine ret_blk rfl rfl rfl hB2 (by kernel_rfl) (by rw [HZ.out]; kernel_rfl) ⟨b1, by rw [HCS.out], HM.out, hb2⟩
    · have hl := congrArg List.length hms
      simp only [List.length_append] at hl
      have hs0 : s.data.toList.length = s.size := by simp
      have ht0 : t.data.toList.length = t.size := by simp
      have hpos : 0 < s.size := by
        have := List.length_pos_iff.2 h0
        omega
      have hm1 : m1.length ≤ 1099511627776 := by omega
      have he1 : (!s.toList.isEmpty) = true := by rw [ByteArray.toList_eq]; simpa using h0
      have he2 : s.toList.isEmpty = false := by rw [ByteArray.toList_eq]; simpa using h0
      have HMS := Lib.hid hms
      have HL := Lib.hid (show m1.length + s.size = m.length + t.size by omega)
      have HS0 := Lib.hid hs0
      clear hms hl hs0 ht0
      have c72 := hB.cell 72
      rw [strmOf, strm_n _ _ _ hT1.len] at c72
      obtain ⟨a, ha⟩ : ∃ a : Nat, a = m1.length % 64 := ⟨_, rfl⟩
      have ha64 : a < 64 := by omega
      have hai : ((m1.length : Int) % 64) = (a : Int) := by omega
      have HA := Lib.hid ha
      clear ha
      go_upto_region 3 with (fail)
      have hsl := fun W => run_sliceArr (P := Tryd.prog) (t := 83) (e := 5) (n := 64) (by kernel_rfl) (by kernel_rfl) w.heap.size 8 a ha64 W
      refine wp_region_lit ?_
      iterate 12 go_step
      clear hsl
      have hsz := size_strm (stN m1 (m1.length / 64)) b1 m1.length hT1.len
      refine wpList_copyStr (e := 5) rfl rfl (by kernel_rfl) (by kernel_rfl) rfl rfl hB (by rw [strmOf, hsz]; omega) ?_
      intro k w1 hk hw1 hB1
      have hk1 : k ≤ s.size ∧ k ≤ 64 - a ∧ (k = s.size ∨ k = 64 - a) := by
        have e : Nat.min s.size (64 - a) = min s.size (64 - a) := rfl
        rw [hk, e]; omega
      obtain ⟨hks, hka, hkc⟩ := hk1
      have hxl : (s.data.toList.take k).length = k := by rw [List.length_take, HS0.out]; omega
      have hsplit : s.data.toList.take k ++ (s.extract k s.size).data.toList = s.data.toList := by
        have e := extract_rest s k
        rw [e, List.take_append_drop]
      clear hk hsz
      generalize s.data.toList.take k = x at *
      have hb1 : Below w.heap.size w w1 := by rw [hw1]; exact below_setCells hb (Nat.le_refl _) _ _
      have hB01 : Blk w1 (w.heap.size + 1) 86 zeroS := by rw [hw1]; exact hB0.farRow (by omega) _ _
      rw [← hxl, strmOf, strm_splice _ _ _ _ _ hT1.len (by omega)] at hB1
      clear hw1 hB hB0 hb c72
      have HXL := Lib.hid hxl
      have HSP := Lib.hid hsplit
      clear hxl hsplit
      have hT2 := hT1.splice x (by rw [HXL.out, ← HA.out]; omega)
      have hfl : a + k = 64 → stN (m1 ++ x) ((m1 ++ x).length / 64) = comp (stN m1 (m1.length / 64)) (splice b1 x (m1.length % 64)) := fun h => stN_full hT1 x (by rw [HXL.out, ← HA.out]; omega)
      have hpt : ¬ a + k = 64 → stN (m1 ++ x) ((m1 ++ x).length / 64) = stN m1 (m1.length / 64) := fun h => stN_part m1 x (by rw [HXL.out, ← HA.out]; omega)
      have hok := stN_ok m1 (m1.length / 64)
      have hlx : (m1 ++ x).length = m1.length + k := by rw [List.length_append, HXL.out]
      rw [← HA.out] at hT2 hfl
      have HM : Hid ((m1 ++ x) ++ (s.extract k s.size).data.toList = m ++ t.data.toList) := by rw [List.append_assoc, HSP.out, HMS.out]; exact rfl
      have hse : (s.extract k s.size).size < s.size := by
        have h1 := congrArg List.length HSP.out
        rw [List.length_append, HXL.out, HS0.out] at h1
        have h2 : (s.extract k s.size).data.toList.length = (s.extract k s.size).size := by simp
        omega
      clear HMS HSP HXL hT1 HS0
      have c72 := hB1.cell 72
      have f72 := hB1.free 72
      rw [strm_n _ _ _ (by have := hT2.len; exact this)] at c72
      by_cases hfull : a + k = 64
      · have hS := Lib.hid (hfl hfull)
        clear hfl hpt
        generalize splice b1 x a = b2 at *
        have hq : ((a : Int) + (k : Int) == 64) = true := by simp; omega
        have hb2 : Below w.heap.size w (w1.setCell ⟨w.heap.size, 72, none⟩ (.int .u64 ((m1.length : Int) + (k : Int)))) := hb1.setCell (Nat.le_refl _) _
        have hB2 := hB1.set 72 (.int .u64 ((m1.length : Int) + (k : Int)))
        have hB02 := hB01.far (p := ⟨w.heap.size, 72, none⟩) (by simp) (.int .u64 ((m1.length : Int) + (k : Int)))
        have e2 : (strm (stN m1 (m1.length / 64)) b2 m1.length).setIfInBounds 72 (.int .u64 ((m1.length : Int) + (k : Int))) = strm (stN m1 (m1.length / 64)) b2 (m1.length + k) := strm_setn _ _ _ _ hT2.len
        rw [e2] at hB2
        clear e2
        go_wp2_with fail
        clear hB1 hB01 hb1 c72 f72
        generalize w1.setCell ⟨w.heap.size, 72, none⟩ (.int .u64 ((m1.length : Int) + (k : Int))) = w2 at *
        have hsz := size_strm (stN m1 (m1.length / 64)) b2 (m1.length + k) hT2.len
        have hrd := hB2.strm_rd hT2.len
        have hgc := hg.below hb2
        generalize stN m1 (m1.length / 64) = s1 at *
        have hrow := Blk.row w.heap.size 86 (all8 (comp s1 b2)).toList 0
        have hl64 := hT2.len
        have HL64 := Lib.hid hl64
        clear hl64
        refine wp_region_T 6 (by kernel_rfl) ?_
        -- region 7: 7 operations, tail from 6
        refine WpT.take (i := 0) rfl (by kernel_rfl) (fun _ _ _ h => h) (.inl ⟨by rfl, fun w hSw => by clear hSw; go_simp; (try go_bits); (try rw [if_pos (by omega)]); (try with_reducible rfl)⟩) ((Below.refl _ _).drew) ?_
        try simp only [Act.put, List.setIfInBounds_toArray, List.set_cons_zero, List.set_cons_succ]
        refine WpT.take (i := 1) rfl (by kernel_rfl) (fun _ _ _ h => h) (yields_subV (v := .agg (all8 s1)) (n := 8) (off := 0) rfl rfl rfl (by kernel_rfl) (by kernel_rfl) (by rw [hsz]; decide) hB2 (by rw [strm_state])) ((Below.refl _ _).drew) ?_
        try simp only [Act.put, List.setIfInBounds_toArray, List.set_cons_zero, List.set_cons_succ]
        refine WpT.take (i := 2) rfl (by kernel_rfl) (fun _ _ _ h => h) (.inl ⟨by rfl, fun w hSw => by clear hSw; go_simp; (try go_bits); (try rw [if_pos (by omega)]); (try with_reducible rfl)⟩) ((Below.refl _ _).drew) ?_
        try simp only [Act.put, List.setIfInBounds_toArray, List.set_cons_zero, List.set_cons_succ]
        refine WpT.take (i := 3) rfl (by kernel_rfl) (fun _ _ _ h => h) (.inl ⟨by rfl, fun w hSw => by clear hSw; go_simp; (try go_bits); (try rw [if_pos (by omega)]); (try with_reducible rfl)⟩) ((Below.refl _ _).drew) ?_
        try simp only [Act.put, List.setIfInBounds_toArray, List.set_cons_zero, List.set_cons_succ]
        refine WpT.one (i := 4) rfl (by kernel_rfl) (fun K hK => ?_)
        go_simp; refine (compress_any s1 hok _ 64 b2 _ HL64.out (by omega) (by unfold maxLen; omega) (by exact hrd.below (Below.refl _ _).drew) (by exact hgc)).mono ?_; rintro e w9 ⟨rfl, hb9⟩; have hS9 : Below w2.heap.size w2 w9 := bstep (Below.refl _ w2).drew hb9
        refine hK _ _ (hS9) ?_; clear hK K; try simp only [Act.put, List.setIfInBounds_toArray, List.set_cons_zero, List.set_cons_succ]
        refine WpT.take (i := 5) rfl (by kernel_rfl) (fun _ _ _ h => h) (.inl ⟨by rfl, fun w hSw => by clear hSw; go_simp; (try go_bits); (try rw [if_pos (by omega)]); (try with_reducible rfl)⟩) (hS9) ?_
        try simp only [Act.put, List.setIfInBounds_toArray, List.set_cons_zero, List.set_cons_succ]
        refine WpT.tail (i := 6) rfl (by kernel_rfl) (by kernel_rfl) (fun K hK => ?_)
        refine wp_storeRow (g := w.heap.size) (o := 0) (vs := all8 (comp s1 b2)) rfl rfl rfl (hB2.below hS9) (by rw [hsz]; show 0 + 8 ≤ 73; decide) (by kernel_rfl) (by simp [all8, Value.oneCell']) ?_
        refine hK _ _ ?_; clear hK K; try simp only [Act.put, List.setIfInBounds_toArray, List.set_cons_zero, List.set_cons_succ]
        refine WpT.done (by kernel_rfl) ?_ _
        have hB9 := hrow w9 _ (hB2.below hS9) (by rw [hsz]; show 0 + 8 ≤ 73; decide)
        rw [strm_sets] at hB9
        have hb10 : Below w.heap.size w (w9.setCells w.heap.size 0 (all8 (comp s1 b2)).toList) := below_setCells (hb2.trans (hS9.mono hb2.size)) (Nat.le_refl _) _ _
        have hB10 := (hB02.below hS9).farRow (g := w.heap.size) (by omega) 0 (all8 (comp s1 b2)).toList
        clear hB2 hB02 hrd hgc hrow hsz hb9 hS9 hb2
        generalize w9.setCells w.heap.size 0 (all8 (comp s1 b2)).toList = w5 at *
        go_wp2_with fail
        exact ⟨⟨m1 ++ x, b2, _, rfl, HM.out, hT2, hb10, by unfold strmOf; rw [hS.out, hlx]; exact hB9, hB10⟩, hse⟩
      · have hS := Lib.hid (hpt hfull)
        clear hfl hpt
        generalize splice b1 x a = b2 at *
        have hq : ((a : Int) + (k : Int) == 64) = false := by simp; omega
        go_wp2_with fail
        refine ⟨⟨m1 ++ x, b2, _, rfl, HM.out, hT2, hb1.setCell (Nat.le_refl _) _, ?_, hB01.far (by simp) _⟩, hse⟩
        have h := hB1.set 72 (.int .u64 ((m1.length + k : Nat) : Int))
        rw [strm_setn _ _ _ _ (by exact hT2.len)] at h
        unfold strmOf
        rw [hS.out, hlx]
        exact h
end Go.Proofs.YtfnpeclomcnpeaaDoor
