/-
  What Of computes. Condition: the table of constants reads as the program lays it.
-/
import Derived.Test.YtfnpeclomcnpeaaDoorReg2
namespace Go.Proofs.YtfnpeclomcnpeaaDoor
set_option linter.unusedSimpArgs false
set_option linter.unusedVariables false
open Go.RowKit Sha

/-- What Of hashes. -/
def inputL (tag : Int) (l : List ByteArray) : List UInt8 := byteOf tag :: l.flatMap fun s => encB s.data.toList
theorem inputL_snoc (tag : Int) (l : List ByteArray) (s : ByteArray) : inputL tag (l ++ [s]) = inputL tag l ++ encB s.data.toList := by simp [inputL]
theorem length_encB (s : ByteArray) : (encB s.data.toList).length ≤ 10 + s.size := by
  have := length_vint 9 (2 * s.data.toList.length)
  have h : s.data.toList.length = s.size := by simp
  simp only [encB, List.length_append]; omega
theorem length_inputL (tag : Int) (l : List ByteArray) (M : Nat) (h : ∀ s ∈ l, s.size ≤ M) : (inputL tag l).length ≤ 1 + l.length * (10 + M) := by
  induction l with
  | nil => simp [inputL]
  | cons s l ih =>
    have h1 := length_encB s
    have h2 := h s (by simp)
    have h3 := ih fun x hx => h x (by simp [hx])
    simp only [inputL, List.flatMap_cons, List.length_cons, List.length_append] at h3 ⊢
    have : (l.length + 1) * (10 + M) = l.length * (10 + M) + (10 + M) := by rw [Nat.add_mul, Nat.one_mul]
    omega
/-- A row of 16 bytes, all 0. -/
def zero16 : Array Value := (bv (List.replicate 16 0)).toArray
theorem zero_16 (W : World) : (zeroValue 44).run Tryd.prog W = .ok (.agg zero16) W := by kernel_rfl
theorem all_bv (l : List UInt8) : (bv l).toArray.all (·.oneCell') = true := by simp [bv, Value.oneCell']
def dig16 (m : List UInt8) : List UInt8 := (sha m).take 16
theorem length_dig16 (m : List UInt8) : (dig16 m).length = 16 := by simp [dig16, length_sha]
set_option maxHeartbeats 4000000 in
set_option maxRecDepth 100000 in
theorem of_any (tag : Int) (A : Option Addr) (n c : Nat) (l : List ByteArray) (w : World) (hn : n ≤ 4096) (hs : ∀ s ∈ l, s.size ≤ 65536) (hr : Rd w A n (sv l)) (hg : GCon w) :
    Calls Tryd.prog 42 #[.int .i64 tag, .slice A n c] w fun e w' => e = .returned (.agg (bv (dig16 (inputL tag l))).toArray) ∧ Below w.heap.size w w' := by
  have hl : l.length = n := by have := hr.len; simpa using this
  have HL := Lib.hid hl
  have hil := length_inputL tag l 65536 hs
  have hil2 : (inputL tag l).length ≤ 549755813888 := by
    have h2 : l.length * (10 + 65536) ≤ 4096 * (10 + 65536) := Nat.mul_le_mul_right _ (by omega)
    omega
  have HD := Lib.hid (fun (b' : List UInt8) (W : World) (hT : Tail (inputL tag l) b') (hg : GCon W) => ssum_any (inputL tag l) b' W hT hil2 hg)
  have HLN := Lib.hid (length_sha (inputL tag l))
  unfold dig16
  clear hl hil hil2
  generalize sha (inputL tag l) = S at HD HLN ⊢
  have hz := zero_S
  have hz16 := zero_16
  go_enter Tryd.func42, Tryd.ntmps42
  go_wp2_with fail
  obtain ⟨wa, hwa, ba, hR, hra, hga⟩ : ∃ wa : World, wa = w.alloc (.cells zero16 44) ∧ Below w.heap.size w wa ∧ Blk wa w.heap.size 44 zero16 ∧ Rd wa A n (sv l) ∧ GCon wa := by
    have b := (Below.refl w.heap.size w).alloc (Nat.le_refl _) (.cells zero16 44)
    exact ⟨_, rfl, b, Blk.new _ _ _, hr.below b, hg.below b⟩
  rw [← hwa]
  clear hwa hz16
  have hlt0 := hR.lt
  go_cut [5] from 9 to 14 (fun v5 w3 => ∃ (b5 : Nat) (b' : List UInt8), v5 = .pointer (some ⟨b5, 0, none⟩) ∧ w.heap.size < b5 ∧ Tail [byteOf tag] b' ∧ Below wa.heap.size wa w3 ∧ Blk w3 b5 86 (strmOf [byteOf tag] b'))
  case first =>
    have hS0 : Below wa.heap.size wa wa.drew := (Below.refl _ wa).drew
    have hbt : [Value.int .u8 (tag % 256)] = bv [byteOf tag] := by simp [bv, byteOf_nat]
    have HBT := Lib.hid hbt
    have hzz : zeroS.size = 73 := size_strm _ _ _ (by simp)
    have HZZ := Lib.hid hzz
    clear hbt hzz hz
    refine wp_region_T 7 (by kernel_rfl) ?_
    -- region 1: 8 operations, tail from 7
    refine WpT.take (i := 1) rfl (by kernel_rfl) (fun _ _ _ h => h) (.inl ⟨by rfl, fun w hSw => by clear hSw; go_simp; (try go_bits); (try rw [if_pos (by omega)]); (try with_reducible rfl)⟩) ((Below.refl _ _).drew) ?_
    try simp only [Act.put, List.setIfInBounds_toArray, List.set_cons_zero, List.set_cons_succ]
    refine WpT.take (i := 2) rfl (by kernel_rfl) (fun _ _ _ h => h) (.inl ⟨by rfl, fun w hSw => by clear hSw; go_simp; (try go_bits); (try rw [if_pos (by omega)]); (try with_reducible rfl)⟩) ((Below.refl _ _).drew) ?_
    try simp only [Act.put, List.setIfInBounds_toArray, List.set_cons_zero, List.set_cons_succ]
    refine WpT.fork3 (i := 0) (j := 3) (k := 6) rfl rfl rfl (by kernel_rfl) (fun K hK => ?_) (fun K hK => ?_) (fun K hK => ?_)
    · go_simp; refine (begin_of _).mono ?_; rintro e w1 ⟨rfl, hb1⟩; have hS1 : Below wa.heap.size wa w1 := bstep (by assumption) hb1; (try replace hrd := hrd.below hb1); (try replace hBv := hBv.below hb1)
      refine hK _ _ (by assumption) ?_; clear hK K; try simp only [Act.put, List.setIfInBounds_toArray, List.set_cons_zero, List.set_cons_succ]
      refine WpT.fork (i := 3) (j := 6) rfl rfl (by kernel_rfl) (fun K hK => ?_) (fun K hK => ?_)
      · rw [if_pos (by rfl)]; refine wp_lit1 rfl rfl (build1_u8 _ rfl _) ?_; intro w3 g3 hg3 hrd hb3; clear hg3; have hS3 : Below wa.heap.size wa w3 := bstep (by assumption) hb3; (try replace hBv := hBv.below hb3)
        refine hK _ _ (by assumption) ?_; clear hK K; try simp only [Act.put, List.setIfInBounds_toArray, List.set_cons_zero, List.set_cons_succ]
        refine WpT.fork (i := 4) (j := 6) rfl rfl (by kernel_rfl) (fun K hK => ?_) (fun K hK => ?_)
        · rw [if_pos (by rfl)]; change Rd _ _ _ [Value.int .u8 (tag % 256)] at hrd; rw [HBT.out] at hrd; refine wp_bts rfl bytesTy strTy rfl hrd ?_
          refine hK _ _ (by assumption) ?_; clear hK K; try simp only [Act.put, List.setIfInBounds_toArray, List.set_cons_zero, List.set_cons_succ]
          refine WpT.fork (i := 5) (j := 6) rfl rfl (by kernel_rfl) (fun K hK => ?_) (fun K hK => ?_)
          · go_simp; refine (add_any [] (List.replicate 64 0) _ _ (Tail.nil _ (by simp)) (by show 0 + 1 ≤ _; omega) (by exact hga.below (by assumption))).mono ?_; rintro e w5 ⟨b', he, hT, hb5⟩; replace he : e = .returned (.agg (strmOf [byteOf tag] b')) := he; subst he; have hS5 : Below wa.heap.size wa w5 := bstep (by assumption) hb5; (try replace hBv := hBv.below hb5)
            refine hK _ _ (by assumption) ?_; clear hK K; try simp only [Act.put, List.setIfInBounds_toArray, List.set_cons_zero, List.set_cons_succ]
            refine WpT.one (i := 6) rfl (by kernel_rfl) (fun K hK => ?_)
            rw [if_pos (by rfl)]; refine wp_allocL rfl (zero_S _) ?_; intro w6 g5 hg5 hBv hb6; replace hg5 : wa.heap.size ≤ g5 := (by rw [hg5]; exact Below.size (by assumption)); have hS6 : Below wa.heap.size wa w6 := bstep (by assumption) hb6; (try replace hrd := hrd.below hb6)
            refine hK _ _ (by assumption) ?_; clear hK K; try simp only [Act.put, List.setIfInBounds_toArray, List.set_cons_zero, List.set_cons_succ]
            refine WpT.tail (i := 7) rfl (by kernel_rfl) (by kernel_rfl) (fun K hK => ?_)
            rw [if_pos (by rfl)]; have hsz := size_strm (stN [byteOf tag] ([byteOf tag].length / 64)) b' [byteOf tag].length hT.len; change (strmOf [byteOf tag] b').size = 73 at hsz; refine wp_storeRow (g := g5) (o := 0) (vs := strmOf [byteOf tag] b') rfl rfl rfl hBv (by rw [hsz]; show 0 + 73 ≤ zeroS.size; rw [HZZ.out]; decide) (by rw [hsz]; kernel_rfl) (one_strm _ _ _) ?_
            refine hK _ _ ?_; clear hK K; try simp only [Act.put, List.setIfInBounds_toArray, List.set_cons_zero, List.set_cons_succ]
            refine WpT.done (by kernel_rfl) ?_ _
            have hf := Blk.all hBv (strmOf [byteOf tag] b') (by rw [hsz]; exact HZZ.out.symm); go_wp2; go_meet; case rel => exact ⟨g5, b', rfl, by omega, hT, below_setCells (by assumption) hg5 0 _, hf⟩
          · rw [if_pos (by rfl)]; refine wp_allocL rfl (zero_S _) ?_; intro w6 g5 hg5 hBv hb6; replace hg5 : wa.heap.size ≤ g5 := (by rw [hg5]; exact Below.size (by assumption)); have hS6 : Below wa.heap.size wa w6 := bstep (by assumption) hb6; (try replace hrd := hrd.below hb6)
            refine hK _ _ (by assumption) ?_; clear hK K; try simp only [Act.put, List.setIfInBounds_toArray, List.set_cons_zero, List.set_cons_succ]
            refine WpT.one (i := 5) rfl (by kernel_rfl) (fun K hK => ?_)
            go_simp; refine (add_any [] (List.replicate 64 0) _ _ (Tail.nil _ (by simp)) (by show 0 + 1 ≤ _; omega) (by exact hga.below (by assumption))).mono ?_; rintro e w5 ⟨b', he, hT, hb5⟩; replace he : e = .returned (.agg (strmOf [byteOf tag] b')) := he; subst he; have hS5 : Below wa.heap.size wa w5 := bstep (by assumption) hb5; (try replace hBv := hBv.below hb5)
            refine hK _ _ (by assumption) ?_; clear hK K; try simp only [Act.put, List.setIfInBounds_toArray, List.set_cons_zero, List.set_cons_succ]
            refine WpT.tail (i := 7) rfl (by kernel_rfl) (by kernel_rfl) (fun K hK => ?_)
            rw [if_pos (by rfl)]; have hsz := size_strm (stN [byteOf tag] ([byteOf tag].length / 64)) b' [byteOf tag].length hT.len; change (strmOf [byteOf tag] b').size = 73 at hsz; refine wp_storeRow (g := g5) (o := 0) (vs := strmOf [byteOf tag] b') rfl rfl rfl hBv (by rw [hsz]; show 0 + 73 ≤ zeroS.size; rw [HZZ.out]; decide) (by rw [hsz]; kernel_rfl) (one_strm _ _ _) ?_
            refine hK _ _ ?_; clear hK K; try simp only [Act.put, List.setIfInBounds_toArray, List.set_cons_zero, List.set_cons_succ]
            refine WpT.done (by kernel_rfl) ?_ _
            have hf := Blk.all hBv (strmOf [byteOf tag] b') (by rw [hsz]; exact HZZ.out.symm); go_wp2; go_meet; case rel => exact ⟨g5, b', rfl, by omega, hT, below_setCells (by assumption) hg5 0 _, hf⟩
        · rw [if_pos (by rfl)]; refine wp_allocL rfl (zero_S _) ?_; intro w6 g5 hg5 hBv hb6; replace hg5 : wa.heap.size ≤ g5 := (by rw [hg5]; exact Below.size (by assumption)); have hS6 : Below wa.heap.size wa w6 := bstep (by assumption) hb6; (try replace hrd := hrd.below hb6)
          refine hK _ _ (by assumption) ?_; clear hK K; try simp only [Act.put, List.setIfInBounds_toArray, List.set_cons_zero, List.set_cons_succ]
          refine WpT.one (i := 4) rfl (by kernel_rfl) (fun K hK => ?_)
          rw [if_pos (by rfl)]; change Rd _ _ _ [Value.int .u8 (tag % 256)] at hrd; rw [HBT.out] at hrd; refine wp_bts rfl bytesTy strTy rfl hrd ?_
          refine hK _ _ (by assumption) ?_; clear hK K; try simp only [Act.put, List.setIfInBounds_toArray, List.set_cons_zero, List.set_cons_succ]
          refine WpT.one (i := 5) rfl (by kernel_rfl) (fun K hK => ?_)
          go_simp; refine (add_any [] (List.replicate 64 0) _ _ (Tail.nil _ (by simp)) (by show 0 + 1 ≤ _; omega) (by exact hga.below (by assumption))).mono ?_; rintro e w5 ⟨b', he, hT, hb5⟩; replace he : e = .returned (.agg (strmOf [byteOf tag] b')) := he; subst he; have hS5 : Below wa.heap.size wa w5 := bstep (by assumption) hb5; (try replace hBv := hBv.below hb5)
          refine hK _ _ (by assumption) ?_; clear hK K; try simp only [Act.put, List.setIfInBounds_toArray, List.set_cons_zero, List.set_cons_succ]
          refine WpT.tail (i := 7) rfl (by kernel_rfl) (by kernel_rfl) (fun K hK => ?_)
          rw [if_pos (by rfl)]; have hsz := size_strm (stN [byteOf tag] ([byteOf tag].length / 64)) b' [byteOf tag].length hT.len; change (strmOf [byteOf tag] b').size = 73 at hsz; refine wp_storeRow (g := g5) (o := 0) (vs := strmOf [byteOf tag] b') rfl rfl rfl hBv (by rw [hsz]; show 0 + 73 ≤ zeroS.size; rw [HZZ.out]; decide) (by rw [hsz]; kernel_rfl) (one_strm _ _ _) ?_
          refine hK _ _ ?_; clear hK K; try simp only [Act.put, List.setIfInBounds_toArray, List.set_cons_zero, List.set_cons_succ]
          refine WpT.done (by kernel_rfl) ?_ _
          have hf := Blk.all hBv (strmOf [byteOf tag] b') (by rw [hsz]; exact HZZ.out.symm); go_wp2; go_meet; case rel => exact ⟨g5, b', rfl, by omega, hT, below_setCells (by assumption) hg5 0 _, hf⟩
      · rw [if_pos (by rfl)]; refine wp_allocL rfl (zero_S _) ?_; intro w6 g5 hg5 hBv hb6; replace hg5 : wa.heap.size ≤ g5 := (by rw [hg5]; exact Below.size (by assumption)); have hS6 : Below wa.heap.size wa w6 := bstep (by assumption) hb6; (try replace hrd := hrd.below hb6)
        refine hK _ _ (by assumption) ?_; clear hK K; try simp only [Act.put, List.setIfInBounds_toArray, List.set_cons_zero, List.set_cons_succ]
        refine WpT.one (i := 3) rfl (by kernel_rfl) (fun K hK => ?_)
        rw [if_pos (by rfl)]; refine wp_lit1 rfl rfl (build1_u8 _ rfl _) ?_; intro w3 g3 hg3 hrd hb3; clear hg3; have hS3 : Below wa.heap.size wa w3 := bstep (by assumption) hb3; (try replace hBv := hBv.below hb3)
        refine hK _ _ (by assumption) ?_; clear hK K; try simp only [Act.put, List.setIfInBounds_toArray, List.set_cons_zero, List.set_cons_succ]
        refine WpT.one (i := 4) rfl (by kernel_rfl) (fun K hK => ?_)
        rw [if_pos (by rfl)]; change Rd _ _ _ [Value.int .u8 (tag % 256)] at hrd; rw [HBT.out] at hrd; refine wp_bts rfl bytesTy strTy rfl hrd ?_
        refine hK _ _ (by assumption) ?_; clear hK K; try simp only [Act.put, List.setIfInBounds_toArray, List.set_cons_zero, List.set_cons_succ]
        refine WpT.one (i := 5) rfl (by kernel_rfl) (fun K hK => ?_)
        go_simp; refine (add_any [] (List.replicate 64 0) _ _ (Tail.nil _ (by simp)) (by show 0 + 1 ≤ _; omega) (by exact hga.below (by assumption))).mono ?_; rintro e w5 ⟨b', he, hT, hb5⟩; replace he : e = .returned (.agg (strmOf [byteOf tag] b')) := he; subst he; have hS5 : Below wa.heap.size wa w5 := bstep (by assumption) hb5; (try replace hBv := hBv.below hb5)
        refine hK _ _ (by assumption) ?_; clear hK K; try simp only [Act.put, List.setIfInBounds_toArray, List.set_cons_zero, List.set_cons_succ]
        refine WpT.tail (i := 7) rfl (by kernel_rfl) (by kernel_rfl) (fun K hK => ?_)
        rw [if_pos (by rfl)]; have hsz := size_strm (stN [byteOf tag] ([byteOf tag].length / 64)) b' [byteOf tag].length hT.len; change (strmOf [byteOf tag] b').size = 73 at hsz; refine wp_storeRow (g := g5) (o := 0) (vs := strmOf [byteOf tag] b') rfl rfl rfl hBv (by rw [hsz]; show 0 + 73 ≤ zeroS.size; rw [HZZ.out]; decide) (by rw [hsz]; kernel_rfl) (one_strm _ _ _) ?_
        refine hK _ _ ?_; clear hK K; try simp only [Act.put, List.setIfInBounds_toArray, List.set_cons_zero, List.set_cons_succ]
        refine WpT.done (by kernel_rfl) ?_ _
        have hf := Blk.all hBv (strmOf [byteOf tag] b') (by rw [hsz]; exact HZZ.out.symm); go_wp2; go_meet; case rel => exact ⟨g5, b', rfl, by omega, hT, below_setCells (by assumption) hg5 0 _, hf⟩
    · rw [if_pos (by rfl)]; refine wp_lit1 rfl rfl (build1_u8 _ rfl _) ?_; intro w3 g3 hg3 hrd hb3; clear hg3; have hS3 : Below wa.heap.size wa w3 := bstep (by assumption) hb3; (try replace hBv := hBv.below hb3)
      refine hK _ _ (by assumption) ?_; clear hK K; try simp only [Act.put, List.setIfInBounds_toArray, List.set_cons_zero, List.set_cons_succ]
      refine WpT.fork3 (i := 0) (j := 4) (k := 6) rfl rfl rfl (by kernel_rfl) (fun K hK => ?_) (fun K hK => ?_) (fun K hK => ?_)
      · go_simp; refine (begin_of _).mono ?_; rintro e w1 ⟨rfl, hb1⟩; have hS1 : Below wa.heap.size wa w1 := bstep (by assumption) hb1; (try replace hrd := hrd.below hb1); (try replace hBv := hBv.below hb1)
        refine hK _ _ (by assumption) ?_; clear hK K; try simp only [Act.put, List.setIfInBounds_toArray, List.set_cons_zero, List.set_cons_succ]
        refine WpT.fork (i := 4) (j := 6) rfl rfl (by kernel_rfl) (fun K hK => ?_) (fun K hK => ?_)
        · rw [if_pos (by rfl)]; change Rd _ _ _ [Value.int .u8 (tag % 256)] at hrd; rw [HBT.out] at hrd; refine wp_bts rfl bytesTy strTy rfl hrd ?_
          refine hK _ _ (by assumption) ?_; clear hK K; try simp only [Act.put, List.setIfInBounds_toArray, List.set_cons_zero, List.set_cons_succ]
          refine WpT.fork (i := 5) (j := 6) rfl rfl (by kernel_rfl) (fun K hK => ?_) (fun K hK => ?_)
          · go_simp; refine (add_any [] (List.replicate 64 0) _ _ (Tail.nil _ (by simp)) (by show 0 + 1 ≤ _; omega) (by exact hga.below (by assumption))).mono ?_; rintro e w5 ⟨b', he, hT, hb5⟩; replace he : e = .returned (.agg (strmOf [byteOf tag] b')) := he; subst he; have hS5 : Below wa.heap.size wa w5 := bstep (by assumption) hb5; (try replace hBv := hBv.below hb5)
            refine hK _ _ (by assumption) ?_; clear hK K; try simp only [Act.put, List.setIfInBounds_toArray, List.set_cons_zero, List.set_cons_succ]
            refine WpT.one (i := 6) rfl (by kernel_rfl) (fun K hK => ?_)
            rw [if_pos (by rfl)]; refine wp_allocL rfl (zero_S _) ?_; intro w6 g5 hg5 hBv hb6; replace hg5 : wa.heap.size ≤ g5 := (by rw [hg5]; exact Below.size (by assumption)); have hS6 : Below wa.heap.size wa w6 := bstep (by assumption) hb6; (try replace hrd := hrd.below hb6)
            refine hK _ _ (by assumption) ?_; clear hK K; try simp only [Act.put, List.setIfInBounds_toArray, List.set_cons_zero, List.set_cons_succ]
            refine WpT.tail (i := 7) rfl (by kernel_rfl) (by kernel_rfl) (fun K hK => ?_)
            rw [if_pos (by rfl)]; have hsz := size_strm (stN [byteOf tag] ([byteOf tag].length / 64)) b' [byteOf tag].length hT.len; change (strmOf [byteOf tag] b').size = 73 at hsz; refine wp_storeRow (g := g5) (o := 0) (vs := strmOf [byteOf tag] b') rfl rfl rfl hBv (by rw [hsz]; show 0 + 73 ≤ zeroS.size; rw [HZZ.out]; decide) (by rw [hsz]; kernel_rfl) (one_strm _ _ _) ?_
            refine hK _ _ ?_; clear hK K; try simp only [Act.put, List.setIfInBounds_toArray, List.set_cons_zero, List.set_cons_succ]
            refine WpT.done (by kernel_rfl) ?_ _
            have hf := Blk.all hBv (strmOf [byteOf tag] b') (by rw [hsz]; exact HZZ.out.symm); go_wp2; go_meet; case rel => exact ⟨g5, b', rfl, by omega, hT, below_setCells (by assumption) hg5 0 _, hf⟩
          · rw [if_pos (by rfl)]; refine wp_allocL rfl (zero_S _) ?_; intro w6 g5 hg5 hBv hb6; replace hg5 : wa.heap.size ≤ g5 := (by rw [hg5]; exact Below.size (by assumption)); have hS6 : Below wa.heap.size wa w6 := bstep (by assumption) hb6; (try replace hrd := hrd.below hb6)
            refine hK _ _ (by assumption) ?_; clear hK K; try simp only [Act.put, List.setIfInBounds_toArray, List.set_cons_zero, List.set_cons_succ]
            refine WpT.one (i := 5) rfl (by kernel_rfl) (fun K hK => ?_)
            go_simp; refine (add_any [] (List.replicate 64 0) _ _ (Tail.nil _ (by simp)) (by show 0 + 1 ≤ _; omega) (by exact hga.below (by assumption))).mono ?_; rintro e w5 ⟨b', he, hT, hb5⟩; replace he : e = .returned (.agg (strmOf [byteOf tag] b')) := he; subst he; have hS5 : Below wa.heap.size wa w5 := bstep (by assumption) hb5; (try replace hBv := hBv.below hb5)
            refine hK _ _ (by assumption) ?_; clear hK K; try simp only [Act.put, List.setIfInBounds_toArray, List.set_cons_zero, List.set_cons_succ]
            refine WpT.tail (i := 7) rfl (by kernel_rfl) (by kernel_rfl) (fun K hK => ?_)
            rw [if_pos (by rfl)]; have hsz := size_strm (stN [byteOf tag] ([byteOf tag].length / 64)) b' [byteOf tag].length hT.len; change (strmOf [byteOf tag] b').size = 73 at hsz; refine wp_storeRow (g := g5) (o := 0) (vs := strmOf [byteOf tag] b') rfl rfl rfl hBv (by rw [hsz]; show 0 + 73 ≤ zeroS.size; rw [HZZ.out]; decide) (by rw [hsz]; kernel_rfl) (one_strm _ _ _) ?_
            refine hK _ _ ?_; clear hK K; try simp only [Act.put, List.setIfInBounds_toArray, List.set_cons_zero, List.set_cons_succ]
            refine WpT.done (by kernel_rfl) ?_ _
            have hf := Blk.all hBv (strmOf [byteOf tag] b') (by rw [hsz]; exact HZZ.out.symm); go_wp2; go_meet; case rel => exact ⟨g5, b', rfl, by omega, hT, below_setCells (by assumption) hg5 0 _, hf⟩
        · rw [if_pos (by rfl)]; refine wp_allocL rfl (zero_S _) ?_; intro w6 g5 hg5 hBv hb6; replace hg5 : wa.heap.size ≤ g5 := (by rw [hg5]; exact Below.size (by assumption)); have hS6 : Below wa.heap.size wa w6 := bstep (by assumption) hb6; (try replace hrd := hrd.below hb6)
          refine hK _ _ (by assumption) ?_; clear hK K; try simp only [Act.put, List.setIfInBounds_toArray, List.set_cons_zero, List.set_cons_succ]
          refine WpT.one (i := 4) rfl (by kernel_rfl) (fun K hK => ?_)
          rw [if_pos (by rfl)]; change Rd _ _ _ [Value.int .u8 (tag % 256)] at hrd; rw [HBT.out] at hrd; refine wp_bts rfl bytesTy strTy rfl hrd ?_
          refine hK _ _ (by assumption) ?_; clear hK K; try simp only [Act.put, List.setIfInBounds_toArray, List.set_cons_zero, List.set_cons_succ]
          refine WpT.one (i := 5) rfl (by kernel_rfl) (fun K hK => ?_)
          go_simp; refine (add_any [] (List.replicate 64 0) _ _ (Tail.nil _ (by simp)) (by show 0 + 1 ≤ _; omega) (by exact hga.below (by assumption))).mono ?_; rintro e w5 ⟨b', he, hT, hb5⟩; replace he : e = .returned (.agg (strmOf [byteOf tag] b')) := he; subst he; have hS5 : Below wa.heap.size wa w5 := bstep (by assumption) hb5; (try replace hBv := hBv.below hb5)
          refine hK _ _ (by assumption) ?_; clear hK K; try simp only [Act.put, List.setIfInBounds_toArray, List.set_cons_zero, List.set_cons_succ]
          refine WpT.tail (i := 7) rfl (by kernel_rfl) (by kernel_rfl) (fun K hK => ?_)
          rw [if_pos (by rfl)]; have hsz := size_strm (stN [byteOf tag] ([byteOf tag].length / 64)) b' [byteOf tag].length hT.len; change (strmOf [byteOf tag] b').size = 73 at hsz; refine wp_storeRow (g := g5) (o := 0) (vs := strmOf [byteOf tag] b') rfl rfl rfl hBv (by rw [hsz]; show 0 + 73 ≤ zeroS.size; rw [HZZ.out]; decide) (by rw [hsz]; kernel_rfl) (one_strm _ _ _) ?_
          refine hK _ _ ?_; clear hK K; try simp only [Act.put, List.setIfInBounds_toArray, List.set_cons_zero, List.set_cons_succ]
          refine WpT.done (by kernel_rfl) ?_ _
          have hf := Blk.all hBv (strmOf [byteOf tag] b') (by rw [hsz]; exact HZZ.out.symm); go_wp2; go_meet; case rel => exact ⟨g5, b', rfl, by omega, hT, below_setCells (by assumption) hg5 0 _, hf⟩
      · rw [if_pos (by rfl)]; change Rd _ _ _ [Value.int .u8 (tag % 256)] at hrd; rw [HBT.out] at hrd; refine wp_bts rfl bytesTy strTy rfl hrd ?_
        refine hK _ _ (by assumption) ?_; clear hK K; try simp only [Act.put, List.setIfInBounds_toArray, List.set_cons_zero, List.set_cons_succ]
        refine WpT.fork (i := 0) (j := 6) rfl rfl (by kernel_rfl) (fun K hK => ?_) (fun K hK => ?_)
        · go_simp; refine (begin_of _).mono ?_; rintro e w1 ⟨rfl, hb1⟩; have hS1 : Below wa.heap.size wa w1 := bstep (by assumption) hb1; (try replace hrd := hrd.below hb1); (try replace hBv := hBv.below hb1)
          refine hK _ _ (by assumption) ?_; clear hK K; try simp only [Act.put, List.setIfInBounds_toArray, List.set_cons_zero, List.set_cons_succ]
          refine WpT.fork (i := 5) (j := 6) rfl rfl (by kernel_rfl) (fun K hK => ?_) (fun K hK => ?_)
          · go_simp; refine (add_any [] (List.replicate 64 0) _ _ (Tail.nil _ (by simp)) (by show 0 + 1 ≤ _; omega) (by exact hga.below (by assumption))).mono ?_; rintro e w5 ⟨b', he, hT, hb5⟩; replace he : e = .returned (.agg (strmOf [byteOf tag] b')) := he; subst he; have hS5 : Below wa.heap.size wa w5 := bstep (by assumption) hb5; (try replace hBv := hBv.below hb5)
            refine hK _ _ (by assumption) ?_; clear hK K; try simp only [Act.put, List.setIfInBounds_toArray, List.set_cons_zero, List.set_cons_succ]
            refine WpT.one (i := 6) rfl (by kernel_rfl) (fun K hK => ?_)
            rw [if_pos (by rfl)]; refine wp_allocL rfl (zero_S _) ?_; intro w6 g5 hg5 hBv hb6; replace hg5 : wa.heap.size ≤ g5 := (by rw [hg5]; exact Below.size (by assumption)); have hS6 : Below wa.heap.size wa w6 := bstep (by assumption) hb6; (try replace hrd := hrd.below hb6)
            refine hK _ _ (by assumption) ?_; clear hK K; try simp only [Act.put, List.setIfInBounds_toArray, List.set_cons_zero, List.set_cons_succ]
            refine WpT.tail (i := 7) rfl (by kernel_rfl) (by kernel_rfl) (fun K hK => ?_)
            rw [if_pos (by rfl)]; have hsz := size_strm (stN [byteOf tag] ([byteOf tag].length / 64)) b' [byteOf tag].length hT.len; change (strmOf [byteOf tag] b').size = 73 at hsz; refine wp_storeRow (g := g5) (o := 0) (vs := strmOf [byteOf tag] b') rfl rfl rfl hBv (by rw [hsz]; show 0 + 73 ≤ zeroS.size; rw [HZZ.out]; decide) (by rw [hsz]; kernel_rfl) (one_strm _ _ _) ?_
            refine hK _ _ ?_; clear hK K; try simp only [Act.put, List.setIfInBounds_toArray, List.set_cons_zero, List.set_cons_succ]
            refine WpT.done (by kernel_rfl) ?_ _
            have hf := Blk.all hBv (strmOf [byteOf tag] b') (by rw [hsz]; exact HZZ.out.symm); go_wp2; go_meet; case rel => exact ⟨g5, b', rfl, by omega, hT, below_setCells (by assumption) hg5 0 _, hf⟩
          · rw [if_pos (by rfl)]; refine wp_allocL rfl (zero_S _) ?_; intro w6 g5 hg5 hBv hb6; replace hg5 : wa.heap.size ≤ g5 := (by rw [hg5]; exact Below.size (by assumption)); have hS6 : Below wa.heap.size wa w6 := bstep (by assumption) hb6; (try replace hrd := hrd.below hb6)
            refine hK _ _ (by assumption) ?_; clear hK K; try simp only [Act.put, List.setIfInBounds_toArray, List.set_cons_zero, List.set_cons_succ]
            refine WpT.one (i := 5) rfl (by kernel_rfl) (fun K hK => ?_)
            go_simp; refine (add_any [] (List.replicate 64 0) _ _ (Tail.nil _ (by simp)) (by show 0 + 1 ≤ _; omega) (by exact hga.below (by assumption))).mono ?_; rintro e w5 ⟨b', he, hT, hb5⟩; replace he : e = .returned (.agg (strmOf [byteOf tag] b')) := he; subst he; have hS5 : Below wa.heap.size wa w5 := bstep (by assumption) hb5; (try replace hBv := hBv.below hb5)
            refine hK _ _ (by assumption) ?_; clear hK K; try simp only [Act.put, List.setIfInBounds_toArray, List.set_cons_zero, List.set_cons_succ]
            refine WpT.tail (i := 7) rfl (by kernel_rfl) (by kernel_rfl) (fun K hK => ?_)
            rw [if_pos (by rfl)]; have hsz := size_strm (stN [byteOf tag] ([byteOf tag].length / 64)) b' [byteOf tag].length hT.len; change (strmOf [byteOf tag] b').size = 73 at hsz; refine wp_storeRow (g := g5) (o := 0) (vs := strmOf [byteOf tag] b') rfl rfl rfl hBv (by rw [hsz]; show 0 + 73 ≤ zeroS.size; rw [HZZ.out]; decide) (by rw [hsz]; kernel_rfl) (one_strm _ _ _) ?_
            refine hK _ _ ?_; clear hK K; try simp only [Act.put, List.setIfInBounds_toArray, List.set_cons_zero, List.set_cons_succ]
            refine WpT.done (by kernel_rfl) ?_ _
            have hf := Blk.all hBv (strmOf [byteOf tag] b') (by rw [hsz]; exact HZZ.out.symm); go_wp2; go_meet; case rel => exact ⟨g5, b', rfl, by omega, hT, below_setCells (by assumption) hg5 0 _, hf⟩
        · rw [if_pos (by rfl)]; refine wp_allocL rfl (zero_S _) ?_; intro w6 g5 hg5 hBv hb6; replace hg5 : wa.heap.size ≤ g5 := (by rw [hg5]; exact Below.size (by assumption)); have hS6 : Below wa.heap.size wa w6 := bstep (by assumption) hb6; (try replace hrd := hrd.below hb6)
          refine hK _ _ (by assumption) ?_; clear hK K; try simp only [Act.put, List.setIfInBounds_toArray, List.set_cons_zero, List.set_cons_succ]
          refine WpT.one (i := 0) rfl (by kernel_rfl) (fun K hK => ?_)
          go_simp; refine (begin_of _).mono ?_; rintro e w1 ⟨rfl, hb1⟩; have hS1 : Below wa.heap.size wa w1 := bstep (by assumption) hb1; (try replace hrd := hrd.below hb1); (try replace hBv := hBv.below hb1)
          refine hK _ _ (by assumption) ?_; clear hK K; try simp only [Act.put, List.setIfInBounds_toArray, List.set_cons_zero, List.set_cons_succ]
          refine WpT.one (i := 5) rfl (by kernel_rfl) (fun K hK => ?_)
          go_simp; refine (add_any [] (List.replicate 64 0) _ _ (Tail.nil _ (by simp)) (by show 0 + 1 ≤ _; omega) (by exact hga.below (by assumption))).mono ?_; rintro e w5 ⟨b', he, hT, hb5⟩; replace he : e = .returned (.agg (strmOf [byteOf tag] b')) := he; subst he; have hS5 : Below wa.heap.size wa w5 := bstep (by assumption) hb5; (try replace hBv := hBv.below hb5)
          refine hK _ _ (by assumption) ?_; clear hK K; try simp only [Act.put, List.setIfInBounds_toArray, List.set_cons_zero, List.set_cons_succ]
          refine WpT.tail (i := 7) rfl (by kernel_rfl) (by kernel_rfl) (fun K hK => ?_)
          rw [if_pos (by rfl)]; have hsz := size_strm (stN [byteOf tag] ([byteOf tag].length / 64)) b' [byteOf tag].length hT.len; change (strmOf [byteOf tag] b').size = 73 at hsz; refine wp_storeRow (g := g5) (o := 0) (vs := strmOf [byteOf tag] b') rfl rfl rfl hBv (by rw [hsz]; show 0 + 73 ≤ zeroS.size; rw [HZZ.out]; decide) (by rw [hsz]; kernel_rfl) (one_strm _ _ _) ?_
          refine hK _ _ ?_; clear hK K; try simp only [Act.put, List.setIfInBounds_toArray, List.set_cons_zero, List.set_cons_succ]
          refine WpT.done (by kernel_rfl) ?_ _
          have hf := Blk.all hBv (strmOf [byteOf tag] b') (by rw [hsz]; exact HZZ.out.symm); go_wp2; go_meet; case rel => exact ⟨g5, b', rfl, by omega, hT, below_setCells (by assumption) hg5 0 _, hf⟩
      · rw [if_pos (by rfl)]; refine wp_allocL rfl (zero_S _) ?_; intro w6 g5 hg5 hBv hb6; replace hg5 : wa.heap.size ≤ g5 := (by rw [hg5]; exact Below.size (by assumption)); have hS6 : Below wa.heap.size wa w6 := bstep (by assumption) hb6; (try replace hrd := hrd.below hb6)
        refine hK _ _ (by assumption) ?_; clear hK K; try simp only [Act.put, List.setIfInBounds_toArray, List.set_cons_zero, List.set_cons_succ]
        refine WpT.fork (i := 0) (j := 4) rfl rfl (by kernel_rfl) (fun K hK => ?_) (fun K hK => ?_)
        · go_simp; refine (begin_of _).mono ?_; rintro e w1 ⟨rfl, hb1⟩; have hS1 : Below wa.heap.size wa w1 := bstep (by assumption) hb1; (try replace hrd := hrd.below hb1); (try replace hBv := hBv.below hb1)
          refine hK _ _ (by assumption) ?_; clear hK K; try simp only [Act.put, List.setIfInBounds_toArray, List.set_cons_zero, List.set_cons_succ]
          refine WpT.one (i := 4) rfl (by kernel_rfl) (fun K hK => ?_)
          rw [if_pos (by rfl)]; change Rd _ _ _ [Value.int .u8 (tag % 256)] at hrd; rw [HBT.out] at hrd; refine wp_bts rfl bytesTy strTy rfl hrd ?_
          refine hK _ _ (by assumption) ?_; clear hK K; try simp only [Act.put, List.setIfInBounds_toArray, List.set_cons_zero, List.set_cons_succ]
          refine WpT.one (i := 5) rfl (by kernel_rfl) (fun K hK => ?_)
          go_simp; refine (add_any [] (List.replicate 64 0) _ _ (Tail.nil _ (by simp)) (by show 0 + 1 ≤ _; omega) (by exact hga.below (by assumption))).mono ?_; rintro e w5 ⟨b', he, hT, hb5⟩; replace he : e = .returned (.agg (strmOf [byteOf tag] b')) := he; subst he; have hS5 : Below wa.heap.size wa w5 := bstep (by assumption) hb5; (try replace hBv := hBv.below hb5)
          refine hK _ _ (by assumption) ?_; clear hK K; try simp only [Act.put, List.setIfInBounds_toArray, List.set_cons_zero, List.set_cons_succ]
          refine WpT.tail (i := 7) rfl (by kernel_rfl) (by kernel_rfl) (fun K hK => ?_)
          rw [if_pos (by rfl)]; have hsz := size_strm (stN [byteOf tag] ([byteOf tag].length / 64)) b' [byteOf tag].length hT.len; change (strmOf [byteOf tag] b').size = 73 at hsz; refine wp_storeRow (g := g5) (o := 0) (vs := strmOf [byteOf tag] b') rfl rfl rfl hBv (by rw [hsz]; show 0 + 73 ≤ zeroS.size; rw [HZZ.out]; decide) (by rw [hsz]; kernel_rfl) (one_strm _ _ _) ?_
          refine hK _ _ ?_; clear hK K; try simp only [Act.put, List.setIfInBounds_toArray, List.set_cons_zero, List.set_cons_succ]
          refine WpT.done (by kernel_rfl) ?_ _
          have hf := Blk.all hBv (strmOf [byteOf tag] b') (by rw [hsz]; exact HZZ.out.symm); go_wp2; go_meet; case rel => exact ⟨g5, b', rfl, by omega, hT, below_setCells (by assumption) hg5 0 _, hf⟩
        · rw [if_pos (by rfl)]; change Rd _ _ _ [Value.int .u8 (tag % 256)] at hrd; rw [HBT.out] at hrd; refine wp_bts rfl bytesTy strTy rfl hrd ?_
          refine hK _ _ (by assumption) ?_; clear hK K; try simp only [Act.put, List.setIfInBounds_toArray, List.set_cons_zero, List.set_cons_succ]
          refine WpT.one (i := 0) rfl (by kernel_rfl) (fun K hK => ?_)
          go_simp; refine (begin_of _).mono ?_; rintro e w1 ⟨rfl, hb1⟩; have hS1 : Below wa.heap.size wa w1 := bstep (by assumption) hb1; (try replace hrd := hrd.below hb1); (try replace hBv := hBv.below hb1)
          refine hK _ _ (by assumption) ?_; clear hK K; try simp only [Act.put, List.setIfInBounds_toArray, List.set_cons_zero, List.set_cons_succ]
          refine WpT.one (i := 5) rfl (by kernel_rfl) (fun K hK => ?_)
          go_simp; refine (add_any [] (List.replicate 64 0) _ _ (Tail.nil _ (by simp)) (by show 0 + 1 ≤ _; omega) (by exact hga.below (by assumption))).mono ?_; rintro e w5 ⟨b', he, hT, hb5⟩; replace he : e = .returned (.agg (strmOf [byteOf tag] b')) := he; subst he; have hS5 : Below wa.heap.size wa w5 := bstep (by assumption) hb5; (try replace hBv := hBv.below hb5)
          refine hK _ _ (by assumption) ?_; clear hK K; try simp only [Act.put, List.setIfInBounds_toArray, List.set_cons_zero, List.set_cons_succ]
          refine WpT.tail (i := 7) rfl (by kernel_rfl) (by kernel_rfl) (fun K hK => ?_)
          rw [if_pos (by rfl)]; have hsz := size_strm (stN [byteOf tag] ([byteOf tag].length / 64)) b' [byteOf tag].length hT.len; change (strmOf [byteOf tag] b').size = 73 at hsz; refine wp_storeRow (g := g5) (o := 0) (vs := strmOf [byteOf tag] b') rfl rfl rfl hBv (by rw [hsz]; show 0 + 73 ≤ zeroS.size; rw [HZZ.out]; decide) (by rw [hsz]; kernel_rfl) (one_strm _ _ _) ?_
          refine hK _ _ ?_; clear hK K; try simp only [Act.put, List.setIfInBounds_toArray, List.set_cons_zero, List.set_cons_succ]
          refine WpT.done (by kernel_rfl) ?_ _
          have hf := Blk.all hBv (strmOf [byteOf tag] b') (by rw [hsz]; exact HZZ.out.symm); go_wp2; go_meet; case rel => exact ⟨g5, b', rfl, by omega, hT, below_setCells (by assumption) hg5 0 _, hf⟩
    · rw [if_pos (by rfl)]; refine wp_allocL rfl (zero_S _) ?_; intro w6 g5 hg5 hBv hb6; replace hg5 : wa.heap.size ≤ g5 := (by rw [hg5]; exact Below.size (by assumption)); have hS6 : Below wa.heap.size wa w6 := bstep (by assumption) hb6; (try replace hrd := hrd.below hb6)
      refine hK _ _ (by assumption) ?_; clear hK K; try simp only [Act.put, List.setIfInBounds_toArray, List.set_cons_zero, List.set_cons_succ]
      refine WpT.fork (i := 0) (j := 3) rfl rfl (by kernel_rfl) (fun K hK => ?_) (fun K hK => ?_)
      · go_simp; refine (begin_of _).mono ?_; rintro e w1 ⟨rfl, hb1⟩; have hS1 : Below wa.heap.size wa w1 := bstep (by assumption) hb1; (try replace hrd := hrd.below hb1); (try replace hBv := hBv.below hb1)
        refine hK _ _ (by assumption) ?_; clear hK K; try simp only [Act.put, List.setIfInBounds_toArray, List.set_cons_zero, List.set_cons_succ]
        refine WpT.one (i := 3) rfl (by kernel_rfl) (fun K hK => ?_)
        rw [if_pos (by rfl)]; refine wp_lit1 rfl rfl (build1_u8 _ rfl _) ?_; intro w3 g3 hg3 hrd hb3; clear hg3; have hS3 : Below wa.heap.size wa w3 := bstep (by assumption) hb3; (try replace hBv := hBv.below hb3)
        refine hK _ _ (by assumption) ?_; clear hK K; try simp only [Act.put, List.setIfInBounds_toArray, List.set_cons_zero, List.set_cons_succ]
        refine WpT.one (i := 4) rfl (by kernel_rfl) (fun K hK => ?_)
        rw [if_pos (by rfl)]; change Rd _ _ _ [Value.int .u8 (tag % 256)] at hrd; rw [HBT.out] at hrd; refine wp_bts rfl bytesTy strTy rfl hrd ?_
        refine hK _ _ (by assumption) ?_; clear hK K; try simp only [Act.put, List.setIfInBounds_toArray, List.set_cons_zero, List.set_cons_succ]
        refine WpT.one (i := 5) rfl (by kernel_rfl) (fun K hK => ?_)
        go_simp; refine (add_any [] (List.replicate 64 0) _ _ (Tail.nil _ (by simp)) (by show 0 + 1 ≤ _; omega) (by exact hga.below (by assumption))).mono ?_; rintro e w5 ⟨b', he, hT, hb5⟩; replace he : e = .returned (.agg (strmOf [byteOf tag] b')) := he; subst he; have hS5 : Below wa.heap.size wa w5 := bstep (by assumption) hb5; (try replace hBv := hBv.below hb5)
        refine hK _ _ (by assumption) ?_; clear hK K; try simp only [Act.put, List.setIfInBounds_toArray, List.set_cons_zero, List.set_cons_succ]
        refine WpT.tail (i := 7) rfl (by kernel_rfl) (by kernel_rfl) (fun K hK => ?_)
        rw [if_pos (by rfl)]; have hsz := size_strm (stN [byteOf tag] ([byteOf tag].length / 64)) b' [byteOf tag].length hT.len; change (strmOf [byteOf tag] b').size = 73 at hsz; refine wp_storeRow (g := g5) (o := 0) (vs := strmOf [byteOf tag] b') rfl rfl rfl hBv (by rw [hsz]; show 0 + 73 ≤ zeroS.size; rw [HZZ.out]; decide) (by rw [hsz]; kernel_rfl) (one_strm _ _ _) ?_
        refine hK _ _ ?_; clear hK K; try simp only [Act.put, List.setIfInBounds_toArray, List.set_cons_zero, List.set_cons_succ]
        refine WpT.done (by kernel_rfl) ?_ _
        have hf := Blk.all hBv (strmOf [byteOf tag] b') (by rw [hsz]; exact HZZ.out.symm); go_wp2; go_meet; case rel => exact ⟨g5, b', rfl, by omega, hT, below_setCells (by assumption) hg5 0 _, hf⟩
      · rw [if_pos (by rfl)]; refine wp_lit1 rfl rfl (build1_u8 _ rfl _) ?_; intro w3 g3 hg3 hrd hb3; clear hg3; have hS3 : Below wa.heap.size wa w3 := bstep (by assumption) hb3; (try replace hBv := hBv.below hb3)
        refine hK _ _ (by assumption) ?_; clear hK K; try simp only [Act.put, List.setIfInBounds_toArray, List.set_cons_zero, List.set_cons_succ]
        refine WpT.fork (i := 0) (j := 4) rfl rfl (by kernel_rfl) (fun K hK => ?_) (fun K hK => ?_)
        · go_simp; refine (begin_of _).mono ?_; rintro e w1 ⟨rfl, hb1⟩; have hS1 : Below wa.heap.size wa w1 := bstep (by assumption) hb1; (try replace hrd := hrd.below hb1); (try replace hBv := hBv.below hb1)
          refine hK _ _ (by assumption) ?_; clear hK K; try simp only [Act.put, List.setIfInBounds_toArray, List.set_cons_zero, List.set_cons_succ]
          refine WpT.one (i := 4) rfl (by kernel_rfl) (fun K hK => ?_)
          rw [if_pos (by rfl)]; change Rd _ _ _ [Value.int .u8 (tag % 256)] at hrd; rw [HBT.out] at hrd; refine wp_bts rfl bytesTy strTy rfl hrd ?_
          refine hK _ _ (by assumption) ?_; clear hK K; try simp only [Act.put, List.setIfInBounds_toArray, List.set_cons_zero, List.set_cons_succ]
          refine WpT.one (i := 5) rfl (by kernel_rfl) (fun K hK => ?_)
          go_simp; refine (add_any [] (List.replicate 64 0) _ _ (Tail.nil _ (by simp)) (by show 0 + 1 ≤ _; omega) (by exact hga.below (by assumption))).mono ?_; rintro e w5 ⟨b', he, hT, hb5⟩; replace he : e = .returned (.agg (strmOf [byteOf tag] b')) := he; subst he; have hS5 : Below wa.heap.size wa w5 := bstep (by assumption) hb5; (try replace hBv := hBv.below hb5)
          refine hK _ _ (by assumption) ?_; clear hK K; try simp only [Act.put, List.setIfInBounds_toArray, List.set_cons_zero, List.set_cons_succ]
          refine WpT.tail (i := 7) rfl (by kernel_rfl) (by kernel_rfl) (fun K hK => ?_)
          rw [if_pos (by rfl)]; have hsz := size_strm (stN [byteOf tag] ([byteOf tag].length / 64)) b' [byteOf tag].length hT.len; change (strmOf [byteOf tag] b').size = 73 at hsz; refine wp_storeRow (g := g5) (o := 0) (vs := strmOf [byteOf tag] b') rfl rfl rfl hBv (by rw [hsz]; show 0 + 73 ≤ zeroS.size; rw [HZZ.out]; decide) (by rw [hsz]; kernel_rfl) (one_strm _ _ _) ?_
          refine hK _ _ ?_; clear hK K; try simp only [Act.put, List.setIfInBounds_toArray, List.set_cons_zero, List.set_cons_succ]
          refine WpT.done (by kernel_rfl) ?_ _
          have hf := Blk.all hBv (strmOf [byteOf tag] b') (by rw [hsz]; exact HZZ.out.symm); go_wp2; go_meet; case rel => exact ⟨g5, b', rfl, by omega, hT, below_setCells (by assumption) hg5 0 _, hf⟩
        · rw [if_pos (by rfl)]; change Rd _ _ _ [Value.int .u8 (tag % 256)] at hrd; rw [HBT.out] at hrd; refine wp_bts rfl bytesTy strTy rfl hrd ?_
          refine hK _ _ (by assumption) ?_; clear hK K; try simp only [Act.put, List.setIfInBounds_toArray, List.set_cons_zero, List.set_cons_succ]
          refine WpT.one (i := 0) rfl (by kernel_rfl) (fun K hK => ?_)
          go_simp; refine (begin_of _).mono ?_; rintro e w1 ⟨rfl, hb1⟩; have hS1 : Below wa.heap.size wa w1 := bstep (by assumption) hb1; (try replace hrd := hrd.below hb1); (try replace hBv := hBv.below hb1)
          refine hK _ _ (by assumption) ?_; clear hK K; try simp only [Act.put, List.setIfInBounds_toArray, List.set_cons_zero, List.set_cons_succ]
          refine WpT.one (i := 5) rfl (by kernel_rfl) (fun K hK => ?_)
          go_simp; refine (add_any [] (List.replicate 64 0) _ _ (Tail.nil _ (by simp)) (by show 0 + 1 ≤ _; omega) (by exact hga.below (by assumption))).mono ?_; rintro e w5 ⟨b', he, hT, hb5⟩; replace he : e = .returned (.agg (strmOf [byteOf tag] b')) := he; subst he; have hS5 : Below wa.heap.size wa w5 := bstep (by assumption) hb5; (try replace hBv := hBv.below hb5)
          refine hK _ _ (by assumption) ?_; clear hK K; try simp only [Act.put, List.setIfInBounds_toArray, List.set_cons_zero, List.set_cons_succ]
          refine WpT.tail (i := 7) rfl (by kernel_rfl) (by kernel_rfl) (fun K hK => ?_)
          rw [if_pos (by rfl)]; have hsz := size_strm (stN [byteOf tag] ([byteOf tag].length / 64)) b' [byteOf tag].length hT.len; change (strmOf [byteOf tag] b').size = 73 at hsz; refine wp_storeRow (g := g5) (o := 0) (vs := strmOf [byteOf tag] b') rfl rfl rfl hBv (by rw [hsz]; show 0 + 73 ≤ zeroS.size; rw [HZZ.out]; decide) (by rw [hsz]; kernel_rfl) (one_strm _ _ _) ?_
          refine hK _ _ ?_; clear hK K; try simp only [Act.put, List.setIfInBounds_toArray, List.set_cons_zero, List.set_cons_succ]
          refine WpT.done (by kernel_rfl) ?_ _
          have hf := Blk.all hBv (strmOf [byteOf tag] b') (by rw [hsz]; exact HZZ.out.symm); go_wp2; go_meet; case rel => exact ⟨g5, b', rfl, by omega, hT, below_setCells (by assumption) hg5 0 _, hf⟩
  case rest =>
    obtain ⟨b5, b0, rfl, hb5, hT0, hb0, hB0⟩ := hcut
    replace ba := ba.trans (hb0.mono ba.size)
    replace hR := hR.below hb0
    replace hra := hra.below hb0
    replace hga := hga.below hb0
    clear hb0 hlt0 hz
    go_wp2_with fail
    go_loopw [7, 17] (fun _ i wr => ∃ (k : Nat) (b' : List UInt8), k ≤ n ∧ i = .int .i64 k ∧ Tail (inputL tag (l.take k)) b' ∧ Below w.heap.size w wr ∧ Blk wr w.heap.size 44 zero16 ∧ Blk wr b5 86 (strmOf (inputL tag (l.take k)) b')) (fun _ i _ => n - (intOf i).toNat)
    case atStart => exact ⟨0, b0, Nat.zero_le _, rfl, hT0, ba, hR, hB0⟩
    case round =>
      clear ba hra hga hR hB0 hT0
      obtain ⟨k, b', hk, rfl, hT, hb, hR, hB⟩ := hrel
      have hra := hr.below hb
      have hga := hg.below hb
      have hil := length_inputL tag (l.take k) 65536 (fun s hs' => hs s (List.mem_of_mem_take hs'))
      have hil2 : (inputL tag (l.take k)).length ≤ 268500000 := by
        have h1 : (l.take k).length ≤ k := by simp [List.length_take]; omega
        have h2 : (l.take k).length * (10 + 65536) ≤ 4096 * (10 + 65536) := Nat.mul_le_mul_right _ (by omega)
        omega
      clear hil
      by_cases hlt : k < n
      · obtain ⟨ad, rfl, hc⟩ := hra.str hlt HL.out
        have hss : (l[k]'(by have := HL.out; omega)).size ≤ 65536 := hs _ (List.getElem_mem _)
        have HT := Lib.hid (show inputL tag (l.take (k + 1)) = inputL tag (l.take k) ++ encB (l[k]'(by have := HL.out; omega)).data.toList by
          rw [List.take_succ_eq_append_getElem (by have := HL.out; omega), inputL_snoc])
        have hel := length_encB (l[k]'(by have := HL.out; omega))
        have hsz := size_strm (stN (inputL tag (l.take k)) ((inputL tag (l.take k)).length / 64)) b' (inputL tag (l.take k)).length hT.len
        change (strmOf (inputL tag (l.take k)) b').size = 73 at hsz
        generalize l[k]'(by have := HL.out; omega) = s at *
        generalize inputL tag (l.take k) = m at *
        have HSZ := Lib.hid hsz
        clear hsz
        go_wp2_with fail
        have hS0 : Below wr.heap.size wr wr.drew := (Below.refl _ wr).drew
        refine wp_region_T 5 (by kernel_rfl) ?_
        -- region 5: 6 operations, tail from 5
        refine WpT.take (i := 0) rfl (by kernel_rfl) (fun _ _ _ h => h) (yields_blk rfl rfl rfl (by kernel_rfl) (by rw [HSZ.out]; kernel_rfl) hB) ((Below.refl _ _).drew) ?_
        try simp only [Act.put, List.setIfInBounds_toArray, List.set_cons_zero, List.set_cons_succ]
        refine WpT.take (i := 1) rfl (by kernel_rfl) (fun _ _ _ h => h) (.inl ⟨by rfl, fun w hSw => by clear hSw; go_simp; (try go_bits); (try rw [if_pos (by omega)]); (try with_reducible rfl)⟩) ((Below.refl _ _).drew) ?_
        try simp only [Act.put, List.setIfInBounds_toArray, List.set_cons_zero, List.set_cons_succ]
        refine WpT.one (i := 2) rfl (by kernel_rfl) (fun K hK => ?_)
        go_simp; refine (wireBytes_any s _ (by omega)).mono ?_; rintro e w2 ⟨v2, rfl, hown2, hb2⟩; have hS2 : Below wr.heap.size wr w2 := bstep hS0 hb2; obtain ⟨A2, n2, c2, rfl, hn2, _, _, hr2⟩ := hown2.formN
        refine hK _ _ (hS2) ?_; clear hK K; try simp only [Act.put, List.setIfInBounds_toArray, List.set_cons_zero, List.set_cons_succ]
        refine WpT.one (i := 3) rfl (by kernel_rfl) (fun K hK => ?_)
        rw [if_pos (by rfl)]; refine wp_bts rfl bytesTy strTy rfl hr2 ?_
        refine hK _ _ (hS2) ?_; clear hK K; try simp only [Act.put, List.setIfInBounds_toArray, List.set_cons_zero, List.set_cons_succ]
        refine WpT.one (i := 4) rfl (by kernel_rfl) (fun K hK => ?_)
        go_simp; refine (add_any m b' _ _ hT (by show m.length + (encB s.data.toList).toArray.size ≤ _; simp; omega) (by exact hga.below hS2)).mono ?_; rintro e w4 ⟨b4, he, hT4, hb4⟩; replace he : e = .returned (.agg (strmOf (m ++ encB s.data.toList) b4)) := he; replace hT4 : Tail (m ++ encB s.data.toList) b4 := hT4; subst he; have hS4 : Below wr.heap.size wr w4 := bstep hS2 hb4
        refine hK _ _ (hS4) ?_; clear hK K; try simp only [Act.put, List.setIfInBounds_toArray, List.set_cons_zero, List.set_cons_succ]
        refine WpT.tail (i := 5) rfl (by kernel_rfl) (by kernel_rfl) (fun K hK => ?_)
        rw [if_pos (by rfl)]; have hsz := size_strm (stN (m ++ encB s.data.toList) ((m ++ encB s.data.toList).length / 64)) b4 (m ++ encB s.data.toList).length hT4.len; change (strmOf (m ++ encB s.data.toList) b4).size = 73 at hsz; refine wp_storeRow (g := b5) (o := 0) (vs := strmOf (m ++ encB s.data.toList) b4) rfl rfl rfl (hB.below hS4) (by rw [hsz, HSZ.out]; decide) (by rw [hsz]; kernel_rfl) (one_strm _ _ _) ?_
        refine hK _ _ ?_; clear hK K; try simp only [Act.put, List.setIfInBounds_toArray, List.set_cons_zero, List.set_cons_succ]
        refine WpT.done (by kernel_rfl) ?_ _
        have hf := (hB.below hS4).all (strmOf (m ++ encB s.data.toList) b4) (by rw [hsz, HSZ.out])
        have hbf := below_setCells (hb.trans (hS4.mono hb.size)) (g := b5) (by omega) 0 (strmOf (m ++ encB s.data.toList) b4).toList
        have hRf := (hR.below hS4).farRow (g := b5) (by omega) 0 (strmOf (m ++ encB s.data.toList) b4).toList
        clear hR hB hra hga hb2 hb4 hS0 hS2 hS4 hc hr2
        generalize w4.setCells b5 0 (strmOf (m ++ encB s.data.toList) b4).toList = wf at *
        go_wp2_with fail
        exact ⟨⟨k + 1, b4, by omega, by go_num, by rw [HT.out]; exact hT4, hbf, hRf, by rw [HT.out]; exact hf⟩, by simp [intOf]; omega⟩
      · obtain rfl : k = n := by omega
        have hik : l.take k = l := List.take_of_length_le (by rw [HL.out]; omega)
        rw [hik] at hT hB hil2
        clear hik hra
        have HDD := HD
        have hln := HLN.out
        generalize inputL tag l = m at *
        have hsz := size_strm (stN m (m.length / 64)) b' m.length hT.len
        change (strmOf m b').size = 73 at hsz
        have hS32 : (bv S).toArray.size = 32 := by simp [hln]
        have hS16 : (bv (S.take 16)).toArray.size = 16 := by simp [hln]
        have hone : (bv S).toArray.all (·.oneCell') = true := by simp [bv, Value.oneCell']
        have hone16 : (bv (S.take 16)).toArray.all (·.oneCell') = true := all_bv _
        have hcut16 : (bv S).toArray.extract 0 16 = (bv (S.take 16)).toArray := by simp [bv]
        have hR0 := size_row32 [] (by simp)
        have h160 : zero16.size = 16 := by simp [zero16]
        go_upto_region 7 with (fail)
        refine wp_region_lit ?_
        refine wpList_loadRow rfl rfl rfl hB (by kernel_rfl) (by rw [hsz]; kernel_rfl) ?_
        go_step
        go_step
        refine (HDD.out b' _ hT hga).mono ?_
        rintro e w5 ⟨rfl, hb5'⟩
        dsimp only
        go_step
        refine wpList_alloc rfl rfl (zero_32 _) ?_
        have hb6 : Below w.heap.size w (w5.alloc (.cells (row32 []) 91)) := (hb.trans (hb5'.mono hb.size)).alloc (by have := hb.size; have := hb5'.size; omega) _
        have hR6 : Blk (w5.alloc (.cells (row32 []) 91)) w.heap.size 44 zero16 := (hR.below hb5').alloc _
        have hO6 : Blk (w5.alloc (.cells (row32 []) 91)) w5.heap.size 91 (row32 []) := Blk.new _ _ _
        have hg8 : w.heap.size < w5.heap.size := by have := hR.lt; have := hb5'.size; omega
        change wpList _ _ _ _ _ (w5.alloc (.cells (row32 []) 91))
        generalize w5.alloc (.cells (row32 []) 91) = w6 at *
        generalize w5.heap.size = g8 at *
        refine wpList_storeRow (g := g8) (o := 0) (vs := (bv S).toArray) rfl rfl rfl rfl hO6 (by rw [hS32, hR0]; decide) (by rw [hS32]; kernel_rfl) hone ?_
        refine wpList_nil ?_
        have hO7 := hO6.all (bv S).toArray (by rw [hS32, hR0])
        have hb7 := below_setCells hb6 (g := g8) (by omega) 0 (bv S).toArray.toList
        have hR7 := hR6.farRow (g := g8) (by omega) 0 (bv S).toArray.toList
        generalize w6.setCells g8 0 (bv S).toArray.toList = w7 at *
        clear hO6 hb6 hR6 hB hR hb hga hsz hT hb5' hr HDD HD
        have hAA := fun (W : World) (ad : Addr) => run_arrayAt (P := Tryd.prog) (t := 44) (e := 5) (n := 16) (by kernel_rfl) (some ad) 16 32 (by omega) W
        have HS32 := Lib.hid hS32
        have HS16 := Lib.hid hS16
        have HC16 := Lib.hid hcut16
        have H16 := Lib.hid h160
        clear hS32 hS16 hcut16 h160 hone hR0 hln
        simp only [Act.put]
        go_upto_region 8 with (fail)
        refine wp_region_lit ?_
        iterate 6 go_step
        refine wpList_loadSub rfl rfl (off := 0) (n := 16) rfl hO7 (by rw [HS32.out]; decide) (by kernel_rfl) (by kernel_rfl) (congrArg Value.agg HC16.out) ?_
        refine wpList_storeRow (g := w.heap.size) (o := 0) rfl rfl rfl rfl hR7 (by rw [HS16.out, H16.out]; decide) (by rw [HS16.out]; kernel_rfl) hone16 ?_
        refine wpList_nil ?_
        have hR8 := hR7.all (bv (S.take 16)).toArray (by rw [HS16.out, H16.out])
        have hb8 := below_setCells hb7 (g := w.heap.size) (Nat.le_refl _) 0 (bv (S.take 16)).toArray.toList
        generalize w7.setCells w.heap.size 0 (bv (S.take 16)).toArray.toList = w9 at *
        clear hO7 hR7 hb7 hAA hone16
        simp only [Act.put]
        go_wp2
        refine ret_blk rfl rfl rfl hR8 (by kernel_rfl) (by rw [HS16.out]; kernel_rfl) ⟨rfl, hb8⟩
end Go.Proofs.YtfnpeclomcnpeaaDoor
