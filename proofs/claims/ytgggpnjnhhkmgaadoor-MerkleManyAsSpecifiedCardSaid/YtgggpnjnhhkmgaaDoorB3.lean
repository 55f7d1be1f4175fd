/-
  These texts, joined.
  What Of computes. Condition: the table of constants reads as the program lays it.
  What padded of the reference computes. Conditions: none.
  A row of the call's own in which a slice of bytes lies. Conditions: none.
  What Sum of the reference computes. Condition: the reference's table of constants reads as the program lays it.
  What the reference's encodings of lengths and texts, and its input of a digest, compute; the encodings of two inputs are alike only if the inputs are. Conditions: none.
  What Short and Of of the reference compute. Condition: the reference's table of constants reads as the program lays it.
-/
import Derived.Test.YtgggpnjnhhkmgaaDoorB2
namespace Go.Proofs.YtgggpnjnhhkmgaaDoor
set_option linter.unusedSimpArgs false
set_option linter.unusedVariables false
open Go.RowKit Sha

/-- What Of hashes. -/
def inputL (tag : Int) (l : List ByteArray) : List UInt8 := byteOf tag :: l.flatMap fun s => encB s.data.toList
theorem inputL_snoc (tag : Int) (l : List ByteArray) (s : ByteArray) : inputL tag (l ++ [s]) = inputL tag l ++ encB s.data.toList := by simp [inputL]
theorem length_encB (s : ByteArray) : (encB s.data.toList).length ≤ 10 + s.size := by
  have := length_vint 9 (2 * s.data.toList.length)
  have h : s.data.toList.length = s.size := by simp
  simp only [encB, List.length_append]; omega
theorem length_inputL (tag : Int) (l : List ByteArray) (M : Nat) (h : ∀ s ∈ l, s.size ≤ M) : (inputL tag l).length ≤ 1 + l.length * (10 + M) := by
  induction l with
  | nil => simp [inputL]
  | cons s l ih =>
    have h1 := length_encB s
    have h2 := h s (by simp)
    have h3 := ih fun x hx => h x (by simp [hx])
    simp only [inputL, List.flatMap_cons, List.length_cons, List.length_append] at h3 ⊢
    have : (l.length + 1) * (10 + M) = l.length * (10 + M) + (10 + M) := by rw [Nat.add_mul, Nat.one_mul]
    omega
/-- A row of 16 bytes, all 0. -/
def zero16 : Array Value := (bv (List.replicate 16 0)).toArray
theorem zero_16 (W : World) : (zeroValue 31).run Tryd.prog W = .ok (.agg zero16) W := by kernel_rfl
theorem all_bv (l : List UInt8) : (bv l).toArray.all (·.oneCell') = true := by simp [bv, Value.oneCell']
def dig16 (m : List UInt8) : List UInt8 := (sha m).take 16
theorem length_dig16 (m : List UInt8) : (dig16 m).length = 16 := by simp [dig16, length_sha]
set_option maxHeartbeats 4000000 in
set_option maxRecDepth 100000 in
theorem of_any (tag : Int) (A : Option Addr) (n c : Nat) (l : List ByteArray) (w : World) (hn : n ≤ 4096) (hs : ∀ s ∈ l, s.size ≤ 65536) (hr : Rd w A n (sv l)) (hg : GCon w) :
    Calls Tryd.prog 37 #[.int .i64 tag, .slice A n c] w fun e w' => e = .returned (.agg (bv (dig16 (inputL tag l))).toArray) ∧ Below w.heap.size w w' := by
  have hl : l.length = n := by have := hr.len; simpa using this
  have HL := Lib.hid hl
  have hil := length_inputL tag l 65536 hs
  have hil2 : (inputL tag l).length ≤ 549755813888 := by
    have h2 : l.length * (10 + 65536) ≤ 4096 * (10 + 65536) := Nat.mul_le_mul_right _ (by omega)
    omega
  have HD := Lib.hid (fun (b' : List UInt8) (W : World) (hT : Tail (inputL tag l) b') (hg : GCon W) => ssum_any (inputL tag l) b' W hT hil2 hg)
  have HLN := Lib.hid (length_sha (inputL tag l))
  unfold dig16
  clear hl hil hil2
  generalize sha (inputL tag l) = S at HD HLN ⊢
  have hz := zero_S
  have hz16 := zero_16
  go_enter Tryd.func37, Tryd.ntmps37
  go_wp2_with fail
  obtain ⟨wa, hwa, ba, hR, hra, hga⟩ : ∃ wa : World, wa = w.alloc (.cells zero16 31) ∧ Below w.heap.size w wa ∧ Blk wa w.heap.size 31 zero16 ∧ Rd wa A n (sv l) ∧ GCon wa := by
    have b := (Below.refl w.heap.size w).alloc (Nat.le_refl _) (.cells zero16 31)
    exact ⟨_, rfl, b, Blk.new _ _ _, hr.below b, hg.below b⟩
  rw [← hwa]
  clear hwa hz16
  have hlt0 := hR.lt
  go_cut [5] from 9 to 14 (fun v5 w3 => ∃ (b5 : Nat) (b' : List UInt8), v5 = .pointer (some ⟨b5, 0, none⟩) ∧ w.heap.size < b5 ∧ Tail [byteOf tag] b' ∧ Below wa.heap.size wa w3 ∧ Blk w3 b5 104 (strmOf [byteOf tag] b'))
  case first =>
    have hS0 : Below wa.heap.size wa wa.drew := (Below.refl _ wa).drew
    have hbt : [Value.int .u8 (tag % 256)] = bv [byteOf tag] := by simp [bv, byteOf_nat]
    have HBT := Lib.hid hbt
    have hzz : zeroS.size = 73 := size_strm _ _ _ (by simp)
    have HZZ := Lib.hid hzz
    clear hbt hzz hz
    refine wp_region_T 7 (by kernel_rfl) ?_
    refine WpT.take (i := 1) rfl (by kernel_rfl) (fun _ _ _ h => h) (.inl ⟨by rfl, fun w hSw => by clear hSw; go_simp; (try go_bits); (try rw [if_pos (by omega)]); (try with_reducible rfl)⟩) ((Below.refl _ _).drew) ?_
    try simp only [nrm]
    refine WpT.take (i := 2) rfl (by kernel_rfl) (fun _ _ _ h => h) (.inl ⟨by rfl, fun w hSw => by clear hSw; go_simp; (try go_bits); (try rw [if_pos (by omega)]); (try with_reducible rfl)⟩) ((Below.refl _ _).drew) ?_
    try simp only [nrm]
    refine WpT.fork3 (i := 0) (j := 3) (k := 6) rfl rfl rfl (by kernel_rfl) (fun K hK => ?_) (fun K hK => ?_) (fun K hK => ?_)
    · go_simp; refine (begin_of _).mono ?_; rintro e w1 ⟨rfl, hb1⟩; have hS1 : Below wa.heap.size wa w1 := bstep (by assumption) hb1; (try replace hrd := hrd.below hb1); (try replace hBv := hBv.below hb1)
      refine hK _ _ (by assumption) ?_; clear hK K; try simp only [nrm]
      refine WpT.fork (i := 3) (j := 6) rfl rfl (by kernel_rfl) (fun K hK => ?_) (fun K hK => ?_)
      · rw [if_pos (by rfl)]; refine wp_lit1 rfl rfl (build1_u8 _ rfl _) ?_; intro w3 g3 hg3 hrd hb3; clear hg3; have hS3 : Below wa.heap.size wa w3 := bstep (by assumption) hb3; (try replace hBv := hBv.below hb3)
        refine hK _ _ (by assumption) ?_; clear hK K; try simp only [nrm]
        refine WpT.fork (i := 4) (j := 6) rfl rfl (by kernel_rfl) (fun K hK => ?_) (fun K hK => ?_)
        · rw [if_pos (by rfl)]; change Rd _ _ _ [Value.int .u8 (tag % 256)] at hrd; rw [HBT.out] at hrd; refine wp_bts rfl bytesTy strTy rfl hrd ?_
          refine hK _ _ (by assumption) ?_; clear hK K; try simp only [nrm]
          refine WpT.fork (i := 5) (j := 6) rfl rfl (by kernel_rfl) (fun K hK => ?_) (fun K hK => ?_)
          · go_simp; refine (add_any [] (List.replicate 64 0) _ _ (Tail.nil _ (by simp)) (by show 0 + 1 ≤ _; omega) (by exact hga.below (by assumption))).mono ?_; rintro e w5 ⟨b', he, hT, hb5⟩; replace he : e = .returned (.agg (strmOf [byteOf tag] b')) := he; subst he; have hS5 : Below wa.heap.size wa w5 := bstep (by assumption) hb5; (try replace hBv := hBv.below hb5)
            refine hK _ _ (by assumption) ?_; clear hK K; try simp only [nrm]
            refine WpT.one (i := 6) rfl (by kernel_rfl) (fun K hK => ?_)
            rw [if_pos (by rfl)]; refine wp_allocL rfl (zero_S _) ?_; intro w6 g5 hg5 hBv hb6; replace hg5 : wa.heap.size ≤ g5 := (by rw [hg5]; exact Below.size (by assumption)); have hS6 : Below wa.heap.size wa w6 := bstep (by assumption) hb6; (try replace hrd := hrd.below hb6)
            refine hK _ _ (by assumption) ?_; clear hK K; try simp only [nrm]
            refine WpT.tail (i := 7) rfl (by kernel_rfl) (by kernel_rfl) (fun K hK => ?_)
            rw [if_pos (by rfl)]; have hsz := size_strm (stN [byteOf tag] ([byteOf tag].length / 64)) b' [byteOf tag].length hT.len; change (strmOf [byteOf tag] b').size = 73 at hsz; refine wp_storeRow (g := g5) (o := 0) (vs := strmOf [byteOf tag] b') rfl rfl rfl hBv (by rw [hsz]; show 0 + 73 ≤ zeroS.size; rw [HZZ.out]; decide) (by rw [hsz]; kernel_rfl) (one_strm _ _ _) ?_
            refine hK _ _ ?_; clear hK K; try simp only [nrm]
            refine WpT.done (by kernel_rfl) ?_ _
            have hf := Blk.all hBv (strmOf [byteOf tag] b') (by rw [hsz]; exact HZZ.out.symm); go_wp2; go_meet; case rel => exact ⟨g5, b', rfl, by omega, hT, below_setCells (by assumption) hg5 0 _, hf⟩
          · rw [if_pos (by rfl)]; refine wp_allocL rfl (zero_S _) ?_; intro w6 g5 hg5 hBv hb6; replace hg5 : wa.heap.size ≤ g5 := (by rw [hg5]; exact Below.size (by assumption)); have hS6 : Below wa.heap.size wa w6 := bstep (by assumption) hb6; (try replace hrd := hrd.below hb6)
            refine hK _ _ (by assumption) ?_; clear hK K; try simp only [nrm]
            refine WpT.one (i := 5) rfl (by kernel_rfl) (fun K hK => ?_)
            go_simp; refine (add_any [] (List.replicate 64 0) _ _ (Tail.nil _ (by simp)) (by show 0 + 1 ≤ _; omega) (by exact hga.below (by assumption))).mono ?_; rintro e w5 ⟨b', he, hT, hb5⟩; replace he : e = .returned (.agg (strmOf [byteOf tag] b')) := he; subst he; have hS5 : Below wa.heap.size wa w5 := bstep (by assumption) hb5; (try replace hBv := hBv.below hb5)
            refine hK _ _ (by assumption) ?_; clear hK K; try simp only [nrm]
            refine WpT.tail (i := 7) rfl (by kernel_rfl) (by kernel_rfl) (fun K hK => ?_)
            rw [if_pos (by rfl)]; have hsz := size_strm (stN [byteOf tag] ([byteOf tag].length / 64)) b' [byteOf tag].length hT.len; change (strmOf [byteOf tag] b').size = 73 at hsz; refine wp_storeRow (g := g5) (o := 0) (vs := strmOf [byteOf tag] b') rfl rfl rfl hBv (by rw [hsz]; show 0 + 73 ≤ zeroS.size; rw [HZZ.out]; decide) (by rw [hsz]; kernel_rfl) (one_strm _ _ _) ?_
            refine hK _ _ ?_; clear hK K; try simp only [nrm]
            refine WpT.done (by kernel_rfl) ?_ _
            have hf := Blk.all hBv (strmOf [byteOf tag] b') (by rw [hsz]; exact HZZ.out.symm); go_wp2; go_meet; case rel => exact ⟨g5, b', rfl, by omega, hT, below_setCells (by assumption) hg5 0 _, hf⟩
        · rw [if_pos (by rfl)]; refine wp_allocL rfl (zero_S _) ?_; intro w6 g5 hg5 hBv hb6; replace hg5 : wa.heap.size ≤ g5 := (by rw [hg5]; exact Below.size (by assumption)); have hS6 : Below wa.heap.size wa w6 := bstep (by assumption) hb6; (try replace hrd := hrd.below hb6)
          refine hK _ _ (by assumption) ?_; clear hK K; try simp only [nrm]
          refine WpT.one (i := 4) rfl (by kernel_rfl) (fun K hK => ?_)
          rw [if_pos (by rfl)]; change Rd _ _ _ [Value.int .u8 (tag % 256)] at hrd; rw [HBT.out] at hrd; refine wp_bts rfl bytesTy strTy rfl hrd ?_
          refine hK _ _ (by assumption) ?_; clear hK K; try simp only [nrm]
          refine WpT.one (i := 5) rfl (by kernel_rfl) (fun K hK => ?_)
          go_simp; refine (add_any [] (List.replicate 64 0) _ _ (Tail.nil _ (by simp)) (by show 0 + 1 ≤ _; omega) (by exact hga.below (by assumption))).mono ?_; rintro e w5 ⟨b', he, hT, hb5⟩; replace he : e = .returned (.agg (strmOf [byteOf tag] b')) := he; subst he; have hS5 : Below wa.heap.size wa w5 := bstep (by assumption) hb5; (try replace hBv := hBv.below hb5)
          refine hK _ _ (by assumption) ?_; clear hK K; try simp only [nrm]
          refine WpT.tail (i := 7) rfl (by kernel_rfl) (by kernel_rfl) (fun K hK => ?_)
          rw [if_pos (by rfl)]; have hsz := size_strm (stN [byteOf tag] ([byteOf tag].length / 64)) b' [byteOf tag].length hT.len; change (strmOf [byteOf tag] b').size = 73 at hsz; refine wp_storeRow (g := g5) (o := 0) (vs := strmOf [byteOf tag] b') rfl rfl rfl hBv (by rw [hsz]; show 0 + 73 ≤ zeroS.size; rw [HZZ.out]; decide) (by rw [hsz]; kernel_rfl) (one_strm _ _ _) ?_
          refine hK _ _ ?_; clear hK K; try simp only [nrm]
          refine WpT.done (by kernel_rfl) ?_ _
          have hf := Blk.all hBv (strmOf [byteOf tag] b') (by rw [hsz]; exact HZZ.out.symm); go_wp2; go_meet; case rel => exact ⟨g5, b', rfl, by omega, hT, below_setCells (by assumption) hg5 0 _, hf⟩
      · rw [if_pos (by rfl)]; refine wp_allocL rfl (zero_S _) ?_; intro w6 g5 hg5 hBv hb6; replace hg5 : wa.heap.size ≤ g5 := (by rw [hg5]; exact Below.size (by assumption)); have hS6 : Below wa.heap.size wa w6 := bstep (by assumption) hb6; (try replace hrd := hrd.below hb6)
        refine hK _ _ (by assumption) ?_; clear hK K; try simp only [nrm]
        refine WpT.one (i := 3) rfl (by kernel_rfl) (fun K hK => ?_)
        rw [if_pos (by rfl)]; refine wp_lit1 rfl rfl (build1_u8 _ rfl _) ?_; intro w3 g3 hg3 hrd hb3; clear hg3; have hS3 : Below wa.heap.size wa w3 := bstep (by assumption) hb3; (try replace hBv := hBv.below hb3)
        refine hK _ _ (by assumption) ?_; clear hK K; try simp only [nrm]
        refine WpT.one (i := 4) rfl (by kernel_rfl) (fun K hK => ?_)
        rw [if_pos (by rfl)]; change Rd _ _ _ [Value.int .u8 (tag % 256)] at hrd; rw [HBT.out] at hrd; refine wp_bts rfl bytesTy strTy rfl hrd ?_
        refine hK _ _ (by assumption) ?_; clear hK K; try simp only [nrm]
        refine WpT.one (i := 5) rfl (by kernel_rfl) (fun K hK => ?_)
        go_simp; refine (add_any [] (List.replicate 64 0) _ _ (Tail.nil _ (by simp)) (by show 0 + 1 ≤ _; omega) (by exact hga.below (by assumption))).mono ?_; rintro e w5 ⟨b', he, hT, hb5⟩; replace he : e = .returned (.agg (strmOf [byteOf tag] b')) := he; subst he; have hS5 : Below wa.heap.size wa w5 := bstep (by assumption) hb5; (try replace hBv := hBv.below hb5)
        refine hK _ _ (by assumption) ?_; clear hK K; try simp only [nrm]
        refine WpT.tail (i := 7) rfl (by kernel_rfl) (by kernel_rfl) (fun K hK => ?_)
        rw [if_pos (by rfl)]; have hsz := size_strm (stN [byteOf tag] ([byteOf tag].length / 64)) b' [byteOf tag].length hT.len; change (strmOf [byteOf tag] b').size = 73 at hsz; refine wp_storeRow (g := g5) (o := 0) (vs := strmOf [byteOf tag] b') rfl rfl rfl hBv (by rw [hsz]; show 0 + 73 ≤ zeroS.size; rw [HZZ.out]; decide) (by rw [hsz]; kernel_rfl) (one_strm _ _ _) ?_
        refine hK _ _ ?_; clear hK K; try simp only [nrm]
        refine WpT.done (by kernel_rfl) ?_ _
        have hf := Blk.all hBv (strmOf [byteOf tag] b') (by rw [hsz]; exact HZZ.out.symm); go_wp2; go_meet; case rel => exact ⟨g5, b', rfl, by omega, hT, below_setCells (by assumption) hg5 0 _, hf⟩
    · rw [if_pos (by rfl)]; refine wp_lit1 rfl rfl (build1_u8 _ rfl _) ?_; intro w3 g3 hg3 hrd hb3; clear hg3; have hS3 : Below wa.heap.size wa w3 := bstep (by assumption) hb3; (try replace hBv := hBv.below hb3)
      refine hK _ _ (by assumption) ?_; clear hK K; try simp only [nrm]
      refine WpT.fork3 (i := 0) (j := 4) (k := 6) rfl rfl rfl (by kernel_rfl) (fun K hK => ?_) (fun K hK => ?_) (fun K hK => ?_)
      · go_simp; refine (begin_of _).mono ?_; rintro e w1 ⟨rfl, hb1⟩; have hS1 : Below wa.heap.size wa w1 := bstep (by assumption) hb1; (try replace hrd := hrd.below hb1); (try replace hBv := hBv.below hb1)
        refine hK _ _ (by assumption) ?_; clear hK K; try simp only [nrm]
        refine WpT.fork (i := 4) (j := 6) rfl rfl (by kernel_rfl) (fun K hK => ?_) (fun K hK => ?_)
        · rw [if_pos (by rfl)]; change Rd _ _ _ [Value.int .u8 (tag % 256)] at hrd; rw [HBT.out] at hrd; refine wp_bts rfl bytesTy strTy rfl hrd ?_
          refine hK _ _ (by assumption) ?_; clear hK K; try simp only [nrm]
          refine WpT.fork (i := 5) (j := 6) rfl rfl (by kernel_rfl) (fun K hK => ?_) (fun K hK => ?_)
          · go_simp; refine (add_any [] (List.replicate 64 0) _ _ (Tail.nil _ (by simp)) (by show 0 + 1 ≤ _; omega) (by exact hga.below (by assumption))).mono ?_; rintro e w5 ⟨b', he, hT, hb5⟩; replace he : e = .returned (.agg (strmOf [byteOf tag] b')) := he; subst he; have hS5 : Below wa.heap.size wa w5 := bstep (by assumption) hb5; (try replace hBv := hBv.below hb5)
            refine hK _ _ (by assumption) ?_; clear hK K; try simp only [nrm]
            refine WpT.one (i := 6) rfl (by kernel_rfl) (fun K hK => ?_)
            rw [if_pos (by rfl)]; refine wp_allocL rfl (zero_S _) ?_; intro w6 g5 hg5 hBv hb6; replace hg5 : wa.heap.size ≤ g5 := (by rw [hg5]; exact Below.size (by assumption)); have hS6 : Below wa.heap.size wa w6 := bstep (by assumption) hb6; (try replace hrd := hrd.below hb6)
            refine hK _ _ (by assumption) ?_; clear hK K; try simp only [nrm]
            refine WpT.tail (i := 7) rfl (by kernel_rfl) (by kernel_rfl) (fun K hK => ?_)
            rw [if_pos (by rfl)]; have hsz := size_strm (stN [byteOf tag] ([byteOf tag].length / 64)) b' [byteOf tag].length hT.len; change (strmOf [byteOf tag] b').size = 73 at hsz; refine wp_storeRow (g := g5) (o := 0) (vs := strmOf [byteOf tag] b') rfl rfl rfl hBv (by rw [hsz]; show 0 + 73 ≤ zeroS.size; rw [HZZ.out]; decide) (by rw [hsz]; kernel_rfl) (one_strm _ _ _) ?_
            refine hK _ _ ?_; clear hK K; try simp only [nrm]
            refine WpT.done (by kernel_rfl) ?_ _
            have hf := Blk.all hBv (strmOf [byteOf tag] b') (by rw [hsz]; exact HZZ.out.symm); go_wp2; go_meet; case rel => exact ⟨g5, b', rfl, by omega, hT, below_setCells (by assumption) hg5 0 _, hf⟩
          · rw [if_pos (by rfl)]; refine wp_allocL rfl (zero_S _) ?_; intro w6 g5 hg5 hBv hb6; replace hg5 : wa.heap.size ≤ g5 := (by rw [hg5]; exact Below.size (by assumption)); have hS6 : Below wa.heap.size wa w6 := bstep (by assumption) hb6; (try replace hrd := hrd.below hb6)
            refine hK _ _ (by assumption) ?_; clear hK K; try simp only [nrm]
            refine WpT.one (i := 5) rfl (by kernel_rfl) (fun K hK => ?_)
            go_simp; refine (add_any [] (List.replicate 64 0) _ _ (Tail.nil _ (by simp)) (by show 0 + 1 ≤ _; omega) (by exact hga.below (by assumption))).mono ?_; rintro e w5 ⟨b', he, hT, hb5⟩; replace he : e = .returned (.agg (strmOf [byteOf tag] b')) := he; subst he; have hS5 : Below wa.heap.size wa w5 := bstep (by assumption) hb5; (try replace hBv := hBv.below hb5)
            refine hK _ _ (by assumption) ?_; clear hK K; try simp only [nrm]
            refine WpT.tail (i := 7) rfl (by kernel_rfl) (by kernel_rfl) (fun K hK => ?_)
            rw [if_pos (by rfl)]; have hsz := size_strm (stN [byteOf tag] ([byteOf tag].length / 64)) b' [byteOf tag].length hT.len; change (strmOf [byteOf tag] b').size = 73 at hsz; refine wp_storeRow (g := g5) (o := 0) (vs := strmOf [byteOf tag] b') rfl rfl rfl hBv (by rw [hsz]; show 0 + 73 ≤ zeroS.size; rw [HZZ.out]; decide) (by rw [hsz]; kernel_rfl) (one_strm _ _ _) ?_
            refine hK _ _ ?_; clear hK K; try simp only [nrm]
            refine WpT.done (by kernel_rfl) ?_ _
            have hf := Blk.all hBv (strmOf [byteOf tag] b') (by rw [hsz]; exact HZZ.out.symm); go_wp2; go_meet; case rel => exact ⟨g5, b', rfl, by omega, hT, below_setCells (by assumption) hg5 0 _, hf⟩
        · rw [if_pos (by rfl)]; refine wp_allocL rfl (zero_S _) ?_; intro w6 g5 hg5 hBv hb6; replace hg5 : wa.heap.size ≤ g5 := (by rw [hg5]; exact Below.size (by assumption)); have hS6 : Below wa.heap.size wa w6 := bstep (by assumption) hb6; (try replace hrd := hrd.below hb6)
          refine hK _ _ (by assumption) ?_; clear hK K; try simp only [nrm]
          refine WpT.one (i := 4) rfl (by kernel_rfl) (fun K hK => ?_)
          rw [if_pos (by rfl)]; change Rd _ _ _ [Value.int .u8 (tag % 256)] at hrd; rw [HBT.out] at hrd; refine wp_bts rfl bytesTy strTy rfl hrd ?_
          refine hK _ _ (by assumption) ?_; clear hK K; try simp only [nrm]
          refine WpT.one (i := 5) rfl (by kernel_rfl) (fun K hK => ?_)
          go_simp; refine (add_any [] (List.replicate 64 0) _ _ (Tail.nil _ (by simp)) (by show 0 + 1 ≤ _; omega) (by exact hga.below (by assumption))).mono ?_; rintro e w5 ⟨b', he, hT, hb5⟩; replace he : e = .returned (.agg (strmOf [byteOf tag] b')) := he; subst he; have hS5 : Below wa.heap.size wa w5 := bstep (by assumption) hb5; (try replace hBv := hBv.below hb5)
          refine hK _ _ (by assumption) ?_; clear hK K; try simp only [nrm]
          refine WpT.tail (i := 7) rfl (by kernel_rfl) (by kernel_rfl) (fun K hK => ?_)
          rw [if_pos (by rfl)]; have hsz := size_strm (stN [byteOf tag] ([byteOf tag].length / 64)) b' [byteOf tag].length hT.len; change (strmOf [byteOf tag] b').size = 73 at hsz; refine wp_storeRow (g := g5) (o := 0) (vs := strmOf [byteOf tag] b') rfl rfl rfl hBv (by rw [hsz]; show 0 + 73 ≤ zeroS.size; rw [HZZ.out]; decide) (by rw [hsz]; kernel_rfl) (one_strm _ _ _) ?_
          refine hK _ _ ?_; clear hK K; try simp only [nrm]
          refine WpT.done (by kernel_rfl) ?_ _
          have hf := Blk.all hBv (strmOf [byteOf tag] b') (by rw [hsz]; exact HZZ.out.symm); go_wp2; go_meet; case rel => exact ⟨g5, b', rfl, by omega, hT, below_setCells (by assumption) hg5 0 _, hf⟩
      · rw [if_pos (by rfl)]; change Rd _ _ _ [Value.int .u8 (tag % 256)] at hrd; rw [HBT.out] at hrd; refine wp_bts rfl bytesTy strTy rfl hrd ?_
        refine hK _ _ (by assumption) ?_; clear hK K; try simp only [nrm]
        refine WpT.fork (i := 0) (j := 6) rfl rfl (by kernel_rfl) (fun K hK => ?_) (fun K hK => ?_)
        · go_simp; refine (begin_of _).mono ?_; rintro e w1 ⟨rfl, hb1⟩; have hS1 : Below wa.heap.size wa w1 := bstep (by assumption) hb1; (try replace hrd := hrd.below hb1); (try replace hBv := hBv.below hb1)
          refine hK _ _ (by assumption) ?_; clear hK K; try simp only [nrm]
          refine WpT.fork (i := 5) (j := 6) rfl rfl (by kernel_rfl) (fun K hK => ?_) (fun K hK => ?_)
          · go_simp; refine (add_any [] (List.replicate 64 0) _ _ (Tail.nil _ (by simp)) (by show 0 + 1 ≤ _; omega) (by exact hga.below (by assumption))).mono ?_; rintro e w5 ⟨b', he, hT, hb5⟩; replace he : e = .returned (.agg (strmOf [byteOf tag] b')) := he; subst he; have hS5 : Below wa.heap.size wa w5 := bstep (by assumption) hb5; (try replace hBv := hBv.below hb5)
            refine hK _ _ (by assumption) ?_; clear hK K; try simp only [nrm]
            refine WpT.one (i := 6) rfl (by kernel_rfl) (fun K hK => ?_)
            rw [if_pos (by rfl)]; refine wp_allocL rfl (zero_S _) ?_; intro w6 g5 hg5 hBv hb6; replace hg5 : wa.heap.size ≤ g5 := (by rw [hg5]; exact Below.size (by assumption)); have hS6 : Below wa.heap.size wa w6 := bstep (by assumption) hb6; (try replace hrd := hrd.below hb6)
            refine hK _ _ (by assumption) ?_; clear hK K; try simp only [nrm]
            refine WpT.tail (i := 7) rfl (by kernel_rfl) (by kernel_rfl) (fun K hK => ?_)
            rw [if_pos (by rfl)]; have hsz := size_strm (stN [byteOf tag] ([byteOf tag].length / 64)) b' [byteOf tag].length hT.len; change (strmOf [byteOf tag] b').size = 73 at hsz; refine wp_storeRow (g := g5) (o := 0) (vs := strmOf [byteOf tag] b') rfl rfl rfl hBv (by rw [hsz]; show 0 + 73 ≤ zeroS.size; rw [HZZ.out]; decide) (by rw [hsz]; kernel_rfl) (one_strm _ _ _) ?_
            refine hK _ _ ?_; clear hK K; try simp only [nrm]
            refine WpT.done (by kernel_rfl) ?_ _
            have hf := Blk.all hBv (strmOf [byteOf tag] b') (by rw [hsz]; exact HZZ.out.symm); go_wp2; go_meet; case rel => exact ⟨g5, b', rfl, by omega, hT, below_setCells (by assumption) hg5 0 _, hf⟩
          · rw [if_pos (by rfl)]; refine wp_allocL rfl (zero_S _) ?_; intro w6 g5 hg5 hBv hb6; replace hg5 : wa.heap.size ≤ g5 := (by rw [hg5]; exact Below.size (by assumption)); have hS6 : Below wa.heap.size wa w6 := bstep (by assumption) hb6; (try replace hrd := hrd.below hb6)
            refine hK _ _ (by assumption) ?_; clear hK K; try simp only [nrm]
            refine WpT.one (i := 5) rfl (by kernel_rfl) (fun K hK => ?_)
            go_simp; refine (add_any [] (List.replicate 64 0) _ _ (Tail.nil _ (by simp)) (by show 0 + 1 ≤ _; omega) (by exact hga.below (by assumption))).mono ?_; rintro e w5 ⟨b', he, hT, hb5⟩; replace he : e = .returned (.agg (strmOf [byteOf tag] b')) := he; subst he; have hS5 : Below wa.heap.size wa w5 := bstep (by assumption) hb5; (try replace hBv := hBv.below hb5)
            refine hK _ _ (by assumption) ?_; clear hK K; try simp only [nrm]
            refine WpT.tail (i := 7) rfl (by kernel_rfl) (by kernel_rfl) (fun K hK => ?_)
            rw [if_pos (by rfl)]; have hsz := size_strm (stN [byteOf tag] ([byteOf tag].length / 64)) b' [byteOf tag].length hT.len; change (strmOf [byteOf tag] b').size = 73 at hsz; refine wp_storeRow (g := g5) (o := 0) (vs := strmOf [byteOf tag] b') rfl rfl rfl hBv (by rw [hsz]; show 0 + 73 ≤ zeroS.size; rw [HZZ.out]; decide) (by rw [hsz]; kernel_rfl) (one_strm _ _ _) ?_
            refine hK _ _ ?_; clear hK K; try simp only [nrm]
            refine WpT.done (by kernel_rfl) ?_ _
            have hf := Blk.all hBv (strmOf [byteOf tag] b') (by rw [hsz]; exact HZZ.out.symm); go_wp2; go_meet; case rel => exact ⟨g5, b', rfl, by omega, hT, below_setCells (by assumption) hg5 0 _, hf⟩
        · rw [if_pos (by rfl)]; refine wp_allocL rfl (zero_S _) ?_; intro w6 g5 hg5 hBv hb6; replace hg5 : wa.heap.size ≤ g5 := (by rw [hg5]; exact Below.size (by assumption)); have hS6 : Below wa.heap.size wa w6 := bstep (by assumption) hb6; (try replace hrd := hrd.below hb6)
          refine hK _ _ (by assumption) ?_; clear hK K; try simp only [nrm]
          refine WpT.one (i := 0) rfl (by kernel_rfl) (fun K hK => ?_)
          go_simp; refine (begin_of _).mono ?_; rintro e w1 ⟨rfl, hb1⟩; have hS1 : Below wa.heap.size wa w1 := bstep (by assumption) hb1; (try replace hrd := hrd.below hb1); (try replace hBv := hBv.below hb1)
          refine hK _ _ (by assumption) ?_; clear hK K; try simp only [nrm]
          refine WpT.one (i := 5) rfl (by kernel_rfl) (fun K hK => ?_)
          go_simp; refine (add_any [] (List.replicate 64 0) _ _ (Tail.nil _ (by simp)) (by show 0 + 1 ≤ _; omega) (by exact hga.below (by assumption))).mono ?_; rintro e w5 ⟨b', he, hT, hb5⟩; replace he : e = .returned (.agg (strmOf [byteOf tag] b')) := he; subst he; have hS5 : Below wa.heap.size wa w5 := bstep (by assumption) hb5; (try replace hBv := hBv.below hb5)
          refine hK _ _ (by assumption) ?_; clear hK K; try simp only [nrm]
          refine WpT.tail (i := 7) rfl (by kernel_rfl) (by kernel_rfl) (fun K hK => ?_)
          rw [if_pos (by rfl)]; have hsz := size_strm (stN [byteOf tag] ([byteOf tag].length / 64)) b' [byteOf tag].length hT.len; change (strmOf [byteOf tag] b').size = 73 at hsz; refine wp_storeRow (g := g5) (o := 0) (vs := strmOf [byteOf tag] b') rfl rfl rfl hBv (by rw [hsz]; show 0 + 73 ≤ zeroS.size; rw [HZZ.out]; decide) (by rw [hsz]; kernel_rfl) (one_strm _ _ _) ?_
          refine hK _ _ ?_; clear hK K; try simp only [nrm]
          refine WpT.done (by kernel_rfl) ?_ _
          have hf := Blk.all hBv (strmOf [byteOf tag] b') (by rw [hsz]; exact HZZ.out.symm); go_wp2; go_meet; case rel => exact ⟨g5, b', rfl, by omega, hT, below_setCells (by assumption) hg5 0 _, hf⟩
      · rw [if_pos (by rfl)]; refine wp_allocL rfl (zero_S _) ?_; intro w6 g5 hg5 hBv hb6; replace hg5 : wa.heap.size ≤ g5 := (by rw [hg5]; exact Below.size (by assumption)); have hS6 : Below wa.heap.size wa w6 := bstep (by assumption) hb6; (try replace hrd := hrd.below hb6)
        refine hK _ _ (by assumption) ?_; clear hK K; try simp only [nrm]
        refine WpT.fork (i := 0) (j := 4) rfl rfl (by kernel_rfl) (fun K hK => ?_) (fun K hK => ?_)
        · go_simp; refine (begin_of _).mono ?_; rintro e w1 ⟨rfl, hb1⟩; have hS1 : Below wa.heap.size wa w1 := bstep (by assumption) hb1; (try replace hrd := hrd.below hb1); (try replace hBv := hBv.below hb1)
          refine hK _ _ (by assumption) ?_; clear hK K; try simp only [nrm]
          refine WpT.one (i := 4) rfl (by kernel_rfl) (fun K hK => ?_)
          rw [if_pos (by rfl)]; change Rd _ _ _ [Value.int .u8 (tag % 256)] at hrd; rw [HBT.out] at hrd; refine wp_bts rfl bytesTy strTy rfl hrd ?_
          refine hK _ _ (by assumption) ?_; clear hK K; try simp only [nrm]
          refine WpT.one (i := 5) rfl (by kernel_rfl) (fun K hK => ?_)
          go_simp; refine (add_any [] (List.replicate 64 0) _ _ (Tail.nil _ (by simp)) (by show 0 + 1 ≤ _; omega) (by exact hga.below (by assumption))).mono ?_; rintro e w5 ⟨b', he, hT, hb5⟩; replace he : e = .returned (.agg (strmOf [byteOf tag] b')) := he; subst he; have hS5 : Below wa.heap.size wa w5 := bstep (by assumption) hb5; (try replace hBv := hBv.below hb5)
          refine hK _ _ (by assumption) ?_; clear hK K; try simp only [nrm]
          refine WpT.tail (i := 7) rfl (by kernel_rfl) (by kernel_rfl) (fun K hK => ?_)
          rw [if_pos (by rfl)]; have hsz := size_strm (stN [byteOf tag] ([byteOf tag].length / 64)) b' [byteOf tag].length hT.len; change (strmOf [byteOf tag] b').size = 73 at hsz; refine wp_storeRow (g := g5) (o := 0) (vs := strmOf [byteOf tag] b') rfl rfl rfl hBv (by rw [hsz]; show 0 + 73 ≤ zeroS.size; rw [HZZ.out]; decide) (by rw [hsz]; kernel_rfl) (one_strm _ _ _) ?_
          refine hK _ _ ?_; clear hK K; try simp only [nrm]
          refine WpT.done (by kernel_rfl) ?_ _
          have hf := Blk.all hBv (strmOf [byteOf tag] b') (by rw [hsz]; exact HZZ.out.symm); go_wp2; go_meet; case rel => exact ⟨g5, b', rfl, by omega, hT, below_setCells (by assumption) hg5 0 _, hf⟩
        · rw [if_pos (by rfl)]; change Rd _ _ _ [Value.int .u8 (tag % 256)] at hrd; rw [HBT.out] at hrd; refine wp_bts rfl bytesTy strTy rfl hrd ?_
          refine hK _ _ (by assumption) ?_; clear hK K; try simp only [nrm]
          refine WpT.one (i := 0) rfl (by kernel_rfl) (fun K hK => ?_)
          go_simp; refine (begin_of _).mono ?_; rintro e w1 ⟨rfl, hb1⟩; have hS1 : Below wa.heap.size wa w1 := bstep (by assumption) hb1; (try replace hrd := hrd.below hb1); (try replace hBv := hBv.below hb1)
          refine hK _ _ (by assumption) ?_; clear hK K; try simp only [nrm]
          refine WpT.one (i := 5) rfl (by kernel_rfl) (fun K hK => ?_)
          go_simp; refine (add_any [] (List.replicate 64 0) _ _ (Tail.nil _ (by simp)) (by show 0 + 1 ≤ _; omega) (by exact hga.below (by assumption))).mono ?_; rintro e w5 ⟨b', he, hT, hb5⟩; replace he : e = .returned (.agg (strmOf [byteOf tag] b')) := he; subst he; have hS5 : Below wa.heap.size wa w5 := bstep (by assumption) hb5; (try replace hBv := hBv.below hb5)
          refine hK _ _ (by assumption) ?_; clear hK K; try simp only [nrm]
          refine WpT.tail (i := 7) rfl (by kernel_rfl) (by kernel_rfl) (fun K hK => ?_)
          rw [if_pos (by rfl)]; have hsz := size_strm (stN [byteOf tag] ([byteOf tag].length / 64)) b' [byteOf tag].length hT.len; change (strmOf [byteOf tag] b').size = 73 at hsz; refine wp_storeRow (g := g5) (o := 0) (vs := strmOf [byteOf tag] b') rfl rfl rfl hBv (by rw [hsz]; show 0 + 73 ≤ zeroS.size; rw [HZZ.out]; decide) (by rw [hsz]; kernel_rfl) (one_strm _ _ _) ?_
          refine hK _ _ ?_; clear hK K; try simp only [nrm]
          refine WpT.done (by kernel_rfl) ?_ _
          have hf := Blk.all hBv (strmOf [byteOf tag] b') (by rw [hsz]; exact HZZ.out.symm); go_wp2; go_meet; case rel => exact ⟨g5, b', rfl, by omega, hT, below_setCells (by assumption) hg5 0 _, hf⟩
    · rw [if_pos (by rfl)]; refine wp_allocL rfl (zero_S _) ?_; intro w6 g5 hg5 hBv hb6; replace hg5 : wa.heap.size ≤ g5 := (by rw [hg5]; exact Below.size (by assumption)); have hS6 : Below wa.heap.size wa w6 := bstep (by assumption) hb6; (try replace hrd := hrd.below hb6)
      refine hK _ _ (by assumption) ?_; clear hK K; try simp only [nrm]
      refine WpT.fork (i := 0) (j := 3) rfl rfl (by kernel_rfl) (fun K hK => ?_) (fun K hK => ?_)
      · go_simp; refine (begin_of _).mono ?_; rintro e w1 ⟨rfl, hb1⟩; have hS1 : Below wa.heap.size wa w1 := bstep (by assumption) hb1; (try replace hrd := hrd.below hb1); (try replace hBv := hBv.below hb1)
        refine hK _ _ (by assumption) ?_; clear hK K; try simp only [nrm]
        refine WpT.one (i := 3) rfl (by kernel_rfl) (fun K hK => ?_)
        rw [if_pos (by rfl)]; refine wp_lit1 rfl rfl (build1_u8 _ rfl _) ?_; intro w3 g3 hg3 hrd hb3; clear hg3; have hS3 : Below wa.heap.size wa w3 := bstep (by assumption) hb3; (try replace hBv := hBv.below hb3)
        refine hK _ _ (by assumption) ?_; clear hK K; try simp only [nrm]
        refine WpT.one (i := 4) rfl (by kernel_rfl) (fun K hK => ?_)
        rw [if_pos (by rfl)]; change Rd _ _ _ [Value.int .u8 (tag % 256)] at hrd; rw [HBT.out] at hrd; refine wp_bts rfl bytesTy strTy rfl hrd ?_
        refine hK _ _ (by assumption) ?_; clear hK K; try simp only [nrm]
        refine WpT.one (i := 5) rfl (by kernel_rfl) (fun K hK => ?_)
        go_simp; refine (add_any [] (List.replicate 64 0) _ _ (Tail.nil _ (by simp)) (by show 0 + 1 ≤ _; omega) (by exact hga.below (by assumption))).mono ?_; rintro e w5 ⟨b', he, hT, hb5⟩; replace he : e = .returned (.agg (strmOf [byteOf tag] b')) := he; subst he; have hS5 : Below wa.heap.size wa w5 := bstep (by assumption) hb5; (try replace hBv := hBv.below hb5)
        refine hK _ _ (by assumption) ?_; clear hK K; try simp only [nrm]
        refine WpT.tail (i := 7) rfl (by kernel_rfl) (by kernel_rfl) (fun K hK => ?_)
        rw [if_pos (by rfl)]; have hsz := size_strm (stN [byteOf tag] ([byteOf tag].length / 64)) b' [byteOf tag].length hT.len; change (strmOf [byteOf tag] b').size = 73 at hsz; refine wp_storeRow (g := g5) (o := 0) (vs := strmOf [byteOf tag] b') rfl rfl rfl hBv (by rw [hsz]; show 0 + 73 ≤ zeroS.size; rw [HZZ.out]; decide) (by rw [hsz]; kernel_rfl) (one_strm _ _ _) ?_
        refine hK _ _ ?_; clear hK K; try simp only [nrm]
        refine WpT.done (by kernel_rfl) ?_ _
        have hf := Blk.all hBv (strmOf [byteOf tag] b') (by rw [hsz]; exact HZZ.out.symm); go_wp2; go_meet; case rel => exact ⟨g5, b', rfl, by omega, hT, below_setCells (by assumption) hg5 0 _, hf⟩
      · rw [if_pos (by rfl)]; refine wp_lit1 rfl rfl (build1_u8 _ rfl _) ?_; intro w3 g3 hg3 hrd hb3; clear hg3; have hS3 : Below wa.heap.size wa w3 := bstep (by assumption) hb3; (try replace hBv := hBv.below hb3)
        refine hK _ _ (by assumption) ?_; clear hK K; try simp only [nrm]
        refine WpT.fork (i := 0) (j := 4) rfl rfl (by kernel_rfl) (fun K hK => ?_) (fun K hK => ?_)
        · go_simp; refine (begin_of _).mono ?_; rintro e w1 ⟨rfl, hb1⟩; have hS1 : Below wa.heap.size wa w1 := bstep (by assumption) hb1; (try replace hrd := hrd.below hb1); (try replace hBv := hBv.below hb1)
          refine hK _ _ (by assumption) ?_; clear hK K; try simp only [nrm]
          refine WpT.one (i := 4) rfl (by kernel_rfl) (fun K hK => ?_)
          rw [if_pos (by rfl)]; change Rd _ _ _ [Value.int .u8 (tag % 256)] at hrd; rw [HBT.out] at hrd; refine wp_bts rfl bytesTy strTy rfl hrd ?_
          refine hK _ _ (by assumption) ?_; clear hK K; try simp only [nrm]
          refine WpT.one (i := 5) rfl (by kernel_rfl) (fun K hK => ?_)
          go_simp; refine (add_any [] (List.replicate 64 0) _ _ (Tail.nil _ (by simp)) (by show 0 + 1 ≤ _; omega) (by exact hga.below (by assumption))).mono ?_; rintro e w5 ⟨b', he, hT, hb5⟩; replace he : e = .returned (.agg (strmOf [byteOf tag] b')) := he; subst he; have hS5 : Below wa.heap.size wa w5 := bstep (by assumption) hb5; (try replace hBv := hBv.below hb5)
          refine hK _ _ (by assumption) ?_; clear hK K; try simp only [nrm]
          refine WpT.tail (i := 7) rfl (by kernel_rfl) (by kernel_rfl) (fun K hK => ?_)
          rw [if_pos (by rfl)]; have hsz := size_strm (stN [byteOf tag] ([byteOf tag].length / 64)) b' [byteOf tag].length hT.len; change (strmOf [byteOf tag] b').size = 73 at hsz; refine wp_storeRow (g := g5) (o := 0) (vs := strmOf [byteOf tag] b') rfl rfl rfl hBv (by rw [hsz]; show 0 + 73 ≤ zeroS.size; rw [HZZ.out]; decide) (by rw [hsz]; kernel_rfl) (one_strm _ _ _) ?_
          refine hK _ _ ?_; clear hK K; try simp only [nrm]
          refine WpT.done (by kernel_rfl) ?_ _
          have hf := Blk.all hBv (strmOf [byteOf tag] b') (by rw [hsz]; exact HZZ.out.symm); go_wp2; go_meet; case rel => exact ⟨g5, b', rfl, by omega, hT, below_setCells (by assumption) hg5 0 _, hf⟩
        · rw [if_pos (by rfl)]; change Rd _ _ _ [Value.int .u8 (tag % 256)] at hrd; rw [HBT.out] at hrd; refine wp_bts rfl bytesTy strTy rfl hrd ?_
          refine hK _ _ (by assumption) ?_; clear hK K; try simp only [nrm]
          refine WpT.one (i := 0) rfl (by kernel_rfl) (fun K hK => ?_)
          go_simp; refine (begin_of _).mono ?_; rintro e w1 ⟨rfl, hb1⟩; have hS1 : Below wa.heap.size wa w1 := bstep (by assumption) hb1; (try replace hrd := hrd.below hb1); (try replace hBv := hBv.below hb1)
          refine hK _ _ (by assumption) ?_; clear hK K; try simp only [nrm]
          refine WpT.one (i := 5) rfl (by kernel_rfl) (fun K hK => ?_)
          go_simp; refine (add_any [] (List.replicate 64 0) _ _ (Tail.nil _ (by simp)) (by show 0 + 1 ≤ _; omega) (by exact hga.below (by assumption))).mono ?_; rintro e w5 ⟨b', he, hT, hb5⟩; replace he : e = .returned (.agg (strmOf [byteOf tag] b')) := he; subst he; have hS5 : Below wa.heap.size wa w5 := bstep (by assumption) hb5; (try replace hBv := hBv.below hb5)
          refine hK _ _ (by assumption) ?_; clear hK K; try simp only [nrm]
          refine WpT.tail (i := 7) rfl (by kernel_rfl) (by kernel_rfl) (fun K hK => ?_)
          rw [if_pos (by rfl)]; have hsz := size_strm (stN [byteOf tag] ([byteOf tag].length / 64)) b' [byteOf tag].length hT.len; change (strmOf [byteOf tag] b').size = 73 at hsz; refine wp_storeRow (g := g5) (o := 0) (vs := strmOf [byteOf tag] b') rfl rfl rfl hBv (by rw [hsz]; show 0 + 73 ≤ zeroS.size; rw [HZZ.out]; decide) (by rw [hsz]; kernel_rfl) (one_strm _ _ _) ?_
          refine hK _ _ ?_; clear hK K; try simp only [nrm]
          refine WpT.done (by kernel_rfl) ?_ _
          have hf := Blk.all hBv (strmOf [byteOf tag] b') (by rw [hsz]; exact HZZ.out.symm); go_wp2; go_meet; case rel => exact ⟨g5, b', rfl, by omega, hT, below_setCells (by assumption) hg5 0 _, hf⟩
  case rest =>
    obtain ⟨b5, b0, rfl, hb5, hT0, hb0, hB0⟩ := hcut
    replace ba := ba.trans (hb0.mono ba.size)
    replace hR := hR.below hb0
    replace hra := hra.below hb0
    replace hga := hga.below hb0
    clear hb0 hlt0 hz
    go_wp2_with fail
    go_loopw [7, 17] (fun _ i wr => ∃ (k : Nat) (b' : List UInt8), k ≤ n ∧ i = .int .i64 k ∧ Tail (inputL tag (l.take k)) b' ∧ Below w.heap.size w wr ∧ Blk wr w.heap.size 31 zero16 ∧ Blk wr b5 104 (strmOf (inputL tag (l.take k)) b')) (fun _ i _ => n - (intOf i).toNat)
    case atStart => exact ⟨0, b0, Nat.zero_le _, rfl, hT0, ba, hR, hB0⟩
    case round =>
      clear ba hra hga hR hB0 hT0
      obtain ⟨k, b', hk, rfl, hT, hb, hR, hB⟩ := hrel
      have hra := hr.below hb
      have hga := hg.below hb
      have hil := length_inputL tag (l.take k) 65536 (fun s hs' => hs s (List.mem_of_mem_take hs'))
      have hil2 : (inputL tag (l.take k)).length ≤ 268500000 := by
        have h1 : (l.take k).length ≤ k := by simp [List.length_take]; omega
        have h2 : (l.take k).length * (10 + 65536) ≤ 4096 * (10 + 65536) := Nat.mul_le_mul_right _ (by omega)
        omega
      clear hil
      by_cases hlt : k < n
      · obtain ⟨ad, rfl, hc⟩ := hra.str hlt HL.out
        have hss : (l[k]'(by have := HL.out; omega)).size ≤ 65536 := hs _ (List.getElem_mem _)
        have HT := Lib.hid (show inputL tag (l.take (k + 1)) = inputL tag (l.take k) ++ encB (l[k]'(by have := HL.out; omega)).data.toList by
          rw [List.take_succ_eq_append_getElem (by have := HL.out; omega), inputL_snoc])
        have hel := length_encB (l[k]'(by have := HL.out; omega))
        have hsz := size_strm (stN (inputL tag (l.take k)) ((inputL tag (l.take k)).length / 64)) b' (inputL tag (l.take k)).length hT.len
        change (strmOf (inputL tag (l.take k)) b').size = 73 at hsz
        generalize l[k]'(by have := HL.out; omega) = s at *
        generalize inputL tag (l.take k) = m at *
        have HSZ := Lib.hid hsz
        clear hsz
        go_wp2_with fail
        have hS0 : Below wr.heap.size wr wr.drew := (Below.refl _ wr).drew
        refine wp_region_T 5 (by kernel_rfl) ?_
        refine WpT.take (i := 0) rfl (by kernel_rfl) (fun _ _ _ h => h) (yields_blk rfl rfl rfl (by kernel_rfl) (by rw [HSZ.out]; kernel_rfl) hB) ((Below.refl _ _).drew) ?_
        try simp only [nrm]
        refine WpT.take (i := 1) rfl (by kernel_rfl) (fun _ _ _ h => h) (.inl ⟨by rfl, fun w hSw => by clear hSw; go_simp; (try go_bits); (try rw [if_pos (by omega)]); (try with_reducible rfl)⟩) ((Below.refl _ _).drew) ?_
        try simp only [nrm]
        refine WpT.one (i := 2) rfl (by kernel_rfl) (fun K hK => ?_)
        go_simp; refine (wireBytes_any s _ (by omega)).mono ?_; rintro e w2 ⟨v2, rfl, hown2, hb2⟩; have hS2 : Below wr.heap.size wr w2 := bstep hS0 hb2; obtain ⟨A2, n2, c2, rfl, hn2, _, _, hr2⟩ := hown2.formN
        refine hK _ _ (hS2) ?_; clear hK K; try simp only [nrm]
        refine WpT.one (i := 3) rfl (by kernel_rfl) (fun K hK => ?_)
        rw [if_pos (by rfl)]; refine wp_bts rfl bytesTy strTy rfl hr2 ?_
        refine hK _ _ (hS2) ?_; clear hK K; try simp only [nrm]
        refine WpT.one (i := 4) rfl (by kernel_rfl) (fun K hK => ?_)
        go_simp; refine (add_any m b' _ _ hT (by show m.length + (encB s.data.toList).toArray.size ≤ _; simp; omega) (by exact hga.below hS2)).mono ?_; rintro e w4 ⟨b4, he, hT4, hb4⟩; replace he : e = .returned (.agg (strmOf (m ++ encB s.data.toList) b4)) := he; replace hT4 : Tail (m ++ encB s.data.toList) b4 := hT4; subst he; have hS4 : Below wr.heap.size wr w4 := bstep hS2 hb4
        refine hK _ _ (hS4) ?_; clear hK K; try simp only [nrm]
        refine WpT.tail (i := 5) rfl (by kernel_rfl) (by kernel_rfl) (fun K hK => ?_)
        rw [if_pos (by rfl)]; have hsz := size_strm (stN (m ++ encB s.data.toList) ((m ++ encB s.data.toList).length / 64)) b4 (m ++ encB s.data.toList).length hT4.len; change (strmOf (m ++ encB s.data.toList) b4).size = 73 at hsz; refine wp_storeRow (g := b5) (o := 0) (vs := strmOf (m ++ encB s.data.toList) b4) rfl rfl rfl (hB.below hS4) (by rw [hsz, HSZ.out]; decide) (by rw [hsz]; kernel_rfl) (one_strm _ _ _) ?_
        refine hK _ _ ?_; clear hK K; try simp only [nrm]
        refine WpT.done (by kernel_rfl) ?_ _
        have hf := (hB.below hS4).all (strmOf (m ++ encB s.data.toList) b4) (by rw [hsz, HSZ.out])
        have hbf := below_setCells (hb.trans (hS4.mono hb.size)) (g := b5) (by omega) 0 (strmOf (m ++ encB s.data.toList) b4).toList
        have hRf := (hR.below hS4).farRow (g := b5) (by omega) 0 (strmOf (m ++ encB s.data.toList) b4).toList
        clear hR hB hra hga hb2 hb4 hS0 hS2 hS4 hc hr2
        generalize w4.setCells b5 0 (strmOf (m ++ encB s.data.toList) b4).toList = wf at *
        go_wp2_with fail
        exact ⟨⟨k + 1, b4, by omega, by go_num, by rw [HT.out]; exact hT4, hbf, hRf, by rw [HT.out]; exact hf⟩, by simp [intOf]; omega⟩
      · obtain rfl : k = n := by omega
        have hik : l.take k = l := List.take_of_length_le (by rw [HL.out]; omega)
        rw [hik] at hT hB hil2
        clear hik hra
        have HDD := HD
        have hln := HLN.out
        generalize inputL tag l = m at *
        have hsz := size_strm (stN m (m.length / 64)) b' m.length hT.len
        change (strmOf m b').size = 73 at hsz
        have hS32 : (bv S).toArray.size = 32 := by simp [hln]
        have hS16 : (bv (S.take 16)).toArray.size = 16 := by simp [hln]
        have hone : (bv S).toArray.all (·.oneCell') = true := by simp [bv, Value.oneCell']
        have hone16 : (bv (S.take 16)).toArray.all (·.oneCell') = true := all_bv _
        have hcut16 : (bv S).toArray.extract 0 16 = (bv (S.take 16)).toArray := by simp [bv]
        have hR0 := size_row32 [] (by simp)
        have h160 : zero16.size = 16 := by simp [zero16]
        go_upto_region 7 with (fail)
        refine wp_region_lit ?_
        refine wpList_loadRow rfl rfl rfl hB (by kernel_rfl) (by rw [hsz]; kernel_rfl) ?_
        go_step
        go_step
        refine (HDD.out b' _ hT hga).mono ?_
        rintro e w5 ⟨rfl, hb5'⟩
        dsimp only
        go_step
        refine wpList_alloc rfl rfl (zero_32 _) ?_
        have hb6 : Below w.heap.size w (w5.alloc (.cells (row32 []) 108)) := (hb.trans (hb5'.mono hb.size)).alloc (by have := hb.size; have := hb5'.size; omega) _
        have hR6 : Blk (w5.alloc (.cells (row32 []) 108)) w.heap.size 31 zero16 := (hR.below hb5').alloc _
        have hO6 : Blk (w5.alloc (.cells (row32 []) 108)) w5.heap.size 108 (row32 []) := Blk.new _ _ _
        have hg8 : w.heap.size < w5.heap.size := by have := hR.lt; have := hb5'.size; omega
        change wpList _ _ _ _ _ (w5.alloc (.cells (row32 []) 108))
        generalize w5.alloc (.cells (row32 []) 108) = w6 at *
        generalize w5.heap.size = g8 at *
        refine wpList_storeRow (g := g8) (o := 0) (vs := (bv S).toArray) rfl rfl rfl rfl hO6 (by rw [hS32, hR0]; decide) (by rw [hS32]; kernel_rfl) hone ?_
        refine wpList_nil ?_
        have hO7 := hO6.all (bv S).toArray (by rw [hS32, hR0])
        have hb7 := below_setCells hb6 (g := g8) (by omega) 0 (bv S).toArray.toList
        have hR7 := hR6.farRow (g := g8) (by omega) 0 (bv S).toArray.toList
        generalize w6.setCells g8 0 (bv S).toArray.toList = w7 at *
        clear hO6 hb6 hR6 hB hR hb hga hsz hT hb5' hr HDD HD
        have hAA := fun (W : World) (ad : Addr) => run_arrayAt (P := Tryd.prog) (t := 31) (e := 5) (n := 16) (by kernel_rfl) (some ad) 16 32 (by omega) W
        have HS32 := Lib.hid hS32
        have HS16 := Lib.hid hS16
        have HC16 := Lib.hid hcut16
        have H16 := Lib.hid h160
        clear hS32 hS16 hcut16 h160 hone hR0 hln
        simp only [Act.put]
        go_upto_region 8 with (fail)
        refine wp_region_lit ?_
        iterate 6 go_step
        refine wpList_loadSub rfl rfl (off := 0) (n := 16) rfl hO7 (by rw [HS32.out]; decide) (by kernel_rfl) (by kernel_rfl) (congrArg Value.agg HC16.out) ?_
        refine wpList_storeRow (g := w.heap.size) (o := 0) rfl rfl rfl rfl hR7 (by rw [HS16.out, H16.out]; decide) (by rw [HS16.out]; kernel_rfl) hone16 ?_
        refine wpList_nil ?_
        have hR8 := hR7.all (bv (S.take 16)).toArray (by rw [HS16.out, H16.out])
        have hb8 := below_setCells hb7 (g := w.heap.size) (Nat.le_refl _) 0 (bv (S.take 16)).toArray.toList
        generalize w7.setCells w.heap.size 0 (bv (S.take 16)).toArray.toList = w9 at *
        clear hO7 hR7 hb7 hAA hone16
        simp only [Act.put]
        go_wp2
        refine ret_blk rfl rfl rfl hR8 (by kernel_rfl) (by rw [HS16.out]; kernel_rfl) ⟨rfl, hb8⟩
end Go.Proofs.YtgggpnjnhhkmgaaDoor
namespace Go.Proofs.YtgggpnjnhhkmgaaDoor
set_option linter.unusedSimpArgs false
set_option linter.unusedVariables false
open Go.RowKit Sha
set_option maxHeartbeats 1000000 in
theorem padded_any (A : Option Addr) (n c : Nat) (l : List UInt8) (w : World) (hn : n ≤ 1073741824) (hr : Rd w A n (bv l)) :
    Calls Tryd.prog 86 #[.slice A n c] w fun e w' => ∃ v, e = .returned v ∧ Own w' w.heap.size 5 v (bv (l ++ pad l.length)) ∧ Below w.heap.size w w' := by
  have HL := Lib.hid (show l.length = n by have := hr.len; simpa using this)
  go_enter Tryd.func86, Tryd.ntmps86
  go_upto_region 1 with (fail)
  refine wp_region_lit ?_
  iterate 6 go_step
  refine wpList_app rfl rfl elemBytes rfl (Own.lit w w.heap.size 5 [] (Nat.le_refl _) (by simp [maxLen])) rfl (hr.below ((Below.refl _ _).alloc (Nat.le_refl _) _)) (oneCell_bv _) (by simp; omega) (by simp) ?_
  intro v1 w1 o1 _ hb1 _
  rw [List.nil_append] at o1
  replace hb1 := ((Below.refl w.heap.size w).alloc (Nat.le_refl _) _).trans hb1
  simp only [Act.put]
  go_upto_region 2 with (fail)
  refine wp_region_lit ?_
  iterate 6 go_step
  refine wpList_app rfl rfl elemBytes rfl (o1.alloc _) rfl (Rd.new1 _ _ _) (one1 rfl) (by rw [length_bv, HL.out]; omega) (by have := hb1.size; simp; omega) ?_
  intro v2 w2 o2 _ hb2 _
  replace hb1 := (hb1.alloc hb1.size _).trans hb2
  clear hb2 o1
  simp only [Act.put]
  go_wp2_with fail
  go_loopw [3] (fun v wr => ∃ i : Nat, i ≤ zeros n ∧ Own wr w.heap.size 5 v (bv (l ++ padZ i)) ∧ Below w.heap.size w wr) (fun v _ => n + 65 - slLen v)
  case atStart => exact ⟨0, Nat.zero_le _, by rw [bv_append]; exact o2, hb1⟩
  case round =>
    clear hb1 o2
    obtain ⟨i, hi, hown, hb⟩ := hrel
    have hz := hb.size
    obtain ⟨A3, n3, c3, rfl, hn3, hnc, hcm, hr3⟩ := hown.formN
    have hn1 : n3 = n + (i + 1) := by rw [hn3.out, length_bv, List.length_append, HL.out, length_padZ]
    have hzl := zeros_lt n
    by_cases hzi : i = zeros n
    · have hne : (((n3 : Nat) : Int) % 64 != 56) = false := by
        have := zeros_done n
        simp; omega
      have hnb : n3 ≤ n + 64 := by omega
      rw [hzi] at hown
      clear hr3 hn3 hnc hcm hi hzi hzl hn1
      go_wp2_with fail
      clear hne
      obtain ⟨wo, rfl⟩ : ∃ wo : World, wo = wr := ⟨_, rfl⟩
      go_loopw [3, 5] (fun v i wr => ∃ j : Nat, j ≤ 8 ∧ i = .int .i64 j ∧ Own wr w.heap.size 5 v (bv (l ++ (padZ (zeros n) ++ lenBytes n j))) ∧ Below w.heap.size w wr) (fun _ i _ => 8 - (intOf i).toNat)
      case atStart => exact ⟨0, Nat.zero_le _, rfl, by rw [show lenBytes n 0 = [] from rfl, List.append_nil]; exact hown, hb⟩
      case round =>
        clear hown hb hnb hz
        obtain ⟨j, hj, rfl, hown, hb⟩ := hrel
        have hz := hb.size
        obtain ⟨A4, n4, c4, rfl, hn4, hnc4, hcm4, hr4⟩ := hown.formN
        by_cases hlt : j < 8
        · have hLB := Lib.hid (lenByte_nat n j)
          go_wp2_with (at_builtin; refine wpList_app rfl rfl elemBytes rfl (hown.alloc _) rfl (Rd.new1 _ _ _) (one1 rfl) (by rw [length_bv, List.length_append, List.length_append, HL.out, length_padZ, length_lenBytes]; have := zeros_lt n; omega) (by simp; omega) ?_; intro v' w' hown' hg' hb' _)
          refine ⟨⟨j + 1, by omega, by go_num, ?_, (hb.alloc hz _).trans hb'⟩, by simp [intOf]; omega⟩
          rw [lenBytes_succ, ← List.append_assoc, ← List.append_assoc, bv_append, show bv [lenByte n j] = [.int .u8 (8 * (n : Int) / 2 ^ (56 - 8 * j) % 256)] by simp [bv, hLB.out], List.append_assoc l]
          exact hown'
        · obtain rfl : j = 8 := by omega
          rw [← pad_eq] at hown
          go_wp2
          go_ret
          rw [HL.out]
          exact ⟨_, rfl, hown, hb⟩
    · have hne : (((n3 : Nat) : Int) % 64 != 56) = true := by
        have := zeros_not n i (by omega)
        simp; omega
      have hnb : n3 ≤ n + 64 := by omega
      have HN := Lib.hid hn1
      clear hn1
      go_wp2_with (at_builtin; refine wpList_app rfl rfl elemBytes rfl (hown.alloc _) rfl (Rd.new1 _ _ _) (one1 rfl) (by rw [length_bv, List.length_append, HL.out, length_padZ]; omega) (by simp; omega) ?_; intro v' w' hown' hg' hb' _)
      have hl := hown'.slLen
      refine ⟨⟨i + 1, by omega, ?_, (hb.alloc hz _).trans hb'⟩, ?_⟩
      · rw [padZ_succ, ← List.append_assoc, bv_append]; exact hown'
      · rw [hl]
        show n + 65 - _ < n + 65 - n3
        simp only [List.length_append, length_bv, length_padZ, List.length_cons, List.length_nil]
        have := HN.out
        have := HL.out
        omega
end Go.Proofs.YtgggpnjnhhkmgaaDoor
namespace Go.Proofs.YtgggpnjnhhkmgaaDoor
set_option linter.unusedSimpArgs false
set_option linter.unusedVariables false
open Go.RowKit Sha
/-- A row of the call's own in which a slice of bytes lies. -/
structure Lies (w : World) (g : Nat) (l : List UInt8) : Prop where
  row : ∃ cur, Blk w g 5 cur ∧ l.length ≤ cur.size ∧ cur.toList.take l.length = bv l
theorem Lies.cell {w : World} {g : Nat} {l : List UInt8} (h : Lies w g l) (i : Nat) (hi : i < l.length) : w.cell? ⟨g, i, none⟩ = some (.int .u8 (l[i].toNat : Nat)) := by
  obtain ⟨cur, hB, hs, ht⟩ := h.row
  rw [hB.cell]
  have h2 : (cur.toList.take l.length)[i]? = (bv l)[i]? := by rw [ht]
  rw [List.getElem?_take, if_pos hi] at h2
  rw [← Array.getElem?_toList, h2]
  simp [bv, hi]
theorem Lies.free {w : World} {g : Nat} {l : List UInt8} (h : Lies w g l) (i : Nat) : w.frozen? ⟨g, i, none⟩ = false := by
  obtain ⟨cur, hB, _⟩ := h.row
  exact hB.free i
theorem Lies.set {w : World} {g : Nat} {l : List UInt8} (h : Lies w g l) (i : Nat) (x : UInt8) : Lies (w.setCell ⟨g, i, none⟩ (.int .u8 (x.toNat : Nat))) g (l.set i x) := by
  obtain ⟨cur, hB, hs, ht⟩ := h.row
  refine ⟨_, hB.set i _, by simpa using hs, ?_⟩
  rw [Array.toList_setIfInBounds, List.length_set, List.take_set, ht]
  simp [bv, List.map_set]
theorem Lies.below {w w' : World} {g : Nat} {l : List UInt8} (h : Lies w g l) (hb : Below w.heap.size w w') : Lies w' g l := by
  obtain ⟨cur, hB, hs, ht⟩ := h.row
  exact ⟨cur, hB.below hb, hs, ht⟩
theorem Lies.rd {w : World} {g : Nat} {l : List UInt8} {n : Nat} (h : Lies w g l) (hn : l.length = n) : Rd w (some ⟨g, 0, none⟩) n (bv l) := by
  refine ⟨by rw [length_bv, hn], fun k u hk => ⟨_, rfl, ?_⟩⟩
  have hlt : k < l.length := by have := (List.getElem?_eq_some_iff.1 hk).1; simpa using this
  have hadd : (⟨g, 0, none⟩ : Addr).add k = ⟨g, k, none⟩ := by unfold Addr.add; split <;> simp_all
  rw [hadd, h.cell k hlt, ← hk]
  simp [bv, hlt]
theorem Own.lies {w : World} {B : Nat} {v : Value} {l : List UInt8} (h : Own w B 5 v (bv l)) (hl : 0 < l.length) : ∃ g c, v = .slice (some ⟨g, 0, none⟩) l.length c ∧ B ≤ g ∧ l.length ≤ c ∧ c ≤ maxLen ∧ Lies w g l := by
  rcases h.2 with ⟨_, hn⟩ | ⟨g, cap, cur, hv, hg, hh, hc, hm, hs, ht⟩
  · rw [length_bv] at hn; omega
  · rw [length_bv] at hv hc ht
    refine ⟨g, cap, hv, hg, hc, hm, cur, hh, by omega, ?_⟩
    rw [Nat.mul_one] at ht
    exact ht
theorem Lies.farRow {w : World} {g : Nat} {l : List UInt8} (h : Lies w g l) {b : Nat} (hb : g ≠ b) (o : Nat) (vs : List Value) : Lies (w.setCells b o vs) g l := by
  obtain ⟨cur, hB, hs, ht⟩ := h.row
  exact ⟨cur, hB.farRow hb o vs, hs, ht⟩
theorem Lies.far {w : World} {g : Nat} {l : List UInt8} (h : Lies w g l) {p : Addr} (hb : g ≠ p.block) (u : Value) : Lies (w.setCell p u) g l := by
  obtain ⟨cur, hB, hs, ht⟩ := h.row
  exact ⟨cur, hB.far hb u, hs, ht⟩
theorem Lies.alloc {w : World} {g : Nat} {l : List UInt8} (h : Lies w g l) (o : Obj) : Lies (w.alloc o) g l := by
  obtain ⟨cur, hB, hs, ht⟩ := h.row
  exact ⟨cur, hB.alloc o, hs, ht⟩
theorem Lies.lt {w : World} {g : Nat} {l : List UInt8} (h : Lies w g l) : g < w.heap.size := by
  obtain ⟨cur, hB, _⟩ := h.row
  exact hB.lt
end Go.Proofs.YtgggpnjnhhkmgaaDoor
namespace Go.Proofs.YtgggpnjnhhkmgaaDoor
set_option linter.unusedSimpArgs false
set_option linter.unusedVariables false
open Go.RowKit Sha
/-- The reference's table of constants stands. -/
def RCon (w : World) : Prop := ∀ k, k < 64 → w.cell? ⟨3, k, none⟩ = some (.int .u32 (K.getD k 0 : Nat))
theorem RCon.lt {w : World} (h : RCon w) : 3 < w.heap.size := World.block_lt_of_cell? w _ (h 0 (by omega))
theorem RCon.below {w w' : World} (h : RCon w) (hb : Below w.heap.size w w') : RCon w' := fun k hk => (hb.cell (p := ⟨_, k, none⟩) h.lt).trans (h k hk)
theorem zero_8 (W : World) : (zeroValue 101).run Tryd.prog W = .ok (.agg (all8 S0)) W := by kernel_rfl
theorem zero_64 (W : World) : (zeroValue 123).run Tryd.prog W = .ok (.agg (rowW [])) W := by kernel_rfl
theorem size_all8 (s : S8) : (all8 s).size = 8 := rfl
theorem one_all8 (s : S8) : (all8 s).all (·.oneCell') = true := by simp [all8, Value.oneCell']
theorem all8_at (s : S8) (k : Nat) (h : k < 8) : (all8 s)[k]? = some (.int .u32 (s.list.getD k 0 : Nat)) := by
  rcases (show k = 0 ∨ k = 1 ∨ k = 2 ∨ k = 3 ∨ k = 4 ∨ k = 5 ∨ k = 6 ∨ k = 7 by omega) with rfl | rfl | rfl | rfl | rfl | rfl | rfl | rfl <;> rfl
def sum8 (s v : S8) (i : Nat) : Array Value :=
  #[.int .u32 ((if 0 < i then add32 s.a v.a else s.a : Nat) : Int), .int .u32 ((if 1 < i then add32 s.b v.b else s.b : Nat) : Int), .int .u32 ((if 2 < i then add32 s.c v.c else s.c : Nat) : Int), .int .u32 ((if 3 < i then add32 s.d v.d else s.d : Nat) : Int),
    .int .u32 ((if 4 < i then add32 s.e v.e else s.e : Nat) : Int), .int .u32 ((if 5 < i then add32 s.f v.f else s.f : Nat) : Int), .int .u32 ((if 6 < i then add32 s.g v.g else s.g : Nat) : Int), .int .u32 ((if 7 < i then add32 s.h v.h else s.h : Nat) : Int)]
theorem size_sum8 (s v : S8) (k : Nat) : (sum8 s v k).size = 8 := rfl
theorem sum8_zero (s v : S8) : sum8 s v 0 = all8 s := by simp [sum8, all8]
theorem sum8_eight (s v : S8) : sum8 s v 8 = all8 (plus8 s v) := by simp [sum8, all8, plus8]
theorem sum8_at (s v : S8) (k : Nat) (h : k < 8) : (sum8 s v k)[k]? = some (.int .u32 (s.list.getD k 0 : Nat)) := by
  rcases (show k = 0 ∨ k = 1 ∨ k = 2 ∨ k = 3 ∨ k = 4 ∨ k = 5 ∨ k = 6 ∨ k = 7 by omega) with rfl | rfl | rfl | rfl | rfl | rfl | rfl | rfl <;> rfl
theorem sum8_next (s v : S8) (k x y : Nat) (h : k < 8) (hx : x = v.list.getD k 0) (hy : y = s.list.getD k 0) : (sum8 s v k).setIfInBounds k (.int .u32 ((add32 y x : Nat) : Int)) = sum8 s v (k + 1) := by
  subst hx hy
  rcases (show k = 0 ∨ k = 1 ∨ k = 2 ∨ k = 3 ∨ k = 4 ∨ k = 5 ∨ k = 6 ∨ k = 7 by omega) with rfl | rfl | rfl | rfl | rfl | rfl | rfl | rfl <;> rfl
/-- The cells after a round. -/
def rnd8 (x y : Nat) (v : S8) : Array Value := #[.int .u32 ((add32 x y : Nat) : Int), .int .u32 (v.a : Nat), .int .u32 (v.b : Nat), .int .u32 (v.c : Nat), .int .u32 ((add32 v.d x : Nat) : Int), .int .u32 (v.e : Nat), .int .u32 (v.f : Nat), .int .u32 (v.g : Nat)]
theorem rnd8_eq (k w : Nat) (v : S8) : rnd8 (xOf k w v) (yOf v) v = all8 (rnd k w v) := by simp only [rnd8, all8, rnd]
theorem one_rnd8 (x y : Nat) (v : S8) : (rnd8 x y v).all (·.oneCell') = true := by simp [rnd8, Value.oneCell']
theorem build8_any (a b c d e f g h : Nat) (W : World) : (Instr.build 101 #[(0, .int .u32 (a : Nat)), (1, .int .u32 (b : Nat)), (2, .int .u32 (c : Nat)), (3, .int .u32 (d : Nat)), (4, .int .u32 (e : Nat)), (5, .int .u32 (f : Nat)), (6, .int .u32 (g : Nat)), (7, .int .u32 (h : Nat))]).run Tryd.prog W = .ok (.agg #[.int .u32 (a : Nat), .int .u32 (b : Nat), .int .u32 (c : Nat), .int .u32 (d : Nat), .int .u32 (e : Nat), .int .u32 (f : Nat), .int .u32 (g : Nat), .int .u32 (h : Nat)]) W := by kernel_rfl
structure CompIs (st : S8) (b : List UInt8) (W : List Nat) : Prop where
  len : W.length = 64
  eq : comp st b = plus8 st (rounds W st 64)
theorem compIs (st : S8) (b : List UInt8) : CompIs st b (sched b 64) := ⟨length_sched b 64, rfl⟩
structure LastIs (W : List Nat) (st v : S8) : Prop where
  eq : rounds W st 64 = v
theorem Lies.sub {w : World} {g : Nat} {M : List UInt8} (h : Lies w g M) (k : Nat) (hk : 64 * k + 64 ≤ M.length) : Rd w (some ⟨g, 64 * k, none⟩) 64 (bv ((M.drop (64 * k)).take 64)) := by
  refine ⟨by rw [length_bv, List.length_take, List.length_drop]; omega, fun j u hj => ⟨_, rfl, ?_⟩⟩
  have hlt : j < 64 := by have := (List.getElem?_eq_some_iff.1 hj).1; rw [length_bv, List.length_take] at this; omega
  have hadd : (⟨g, 64 * k, none⟩ : Addr).add j = ⟨g, 64 * k + j, none⟩ := by unfold Addr.add; split <;> simp_all
  rw [hadd, h.cell (64 * k + j) (by omega), ← hj]
  simp [bv, hlt, show 64 * k + j < M.length by omega]
set_option maxHeartbeats 4000000 in
set_option maxRecDepth 100000 in
theorem refSum_any (A : Option Addr) (n c : Nat) (l : List UInt8) (w : World) (hn : n ≤ 268435456) (hr : Rd w A n (bv l)) (hR : RCon w) :
    Calls Tryd.prog 78 #[.slice A n c] w fun e w' => e = .returned (.agg (bv (sha l)).toArray) ∧ Below w.heap.size w w' := by
  have HL := Lib.hid (show l.length = n by have := hr.len; simpa using this)
  have hz32 := zero_32
  go_enter Tryd.func78, Tryd.ntmps78
  go_upto_region 1 with (fail)
  obtain ⟨wa, hwa, ba, h2⟩ : ∃ wa : World, wa = w.alloc (.cells (row32 []) 108) ∧ Below w.heap.size w wa ∧ Blk wa w.heap.size 108 (row32 []) :=
    ⟨_, rfl, (Below.refl _ _).alloc (Nat.le_refl _) _, Blk.new _ _ _⟩
  rw [← hwa]
  clear hwa hz32
  refine wp_region_lit ?_
  go_step
  go_step
  go_step
  refine wpList_newRow (vs := all8 H0) rfl rfl rfl rfl (zero_8 _) (fun _ => rfl) (fun _ => rfl) rfl (by kernel_rfl) (one_all8 _) ?_
  intro w1 g3 hg3 h3 hb1 hlt3
  replace hg3 : w.heap.size < g3 := by rw [hg3]; exact h2.lt
  replace h2 := h2.below hb1
  replace ba := ba.trans (hb1.mono ba.size)
  clear hb1
  simp only [Act.put]
  go_wp2_with fail
  refine (padded_any A n c l _ (by omega) (hr.below ba)).mono ?_
  rintro e w2 ⟨v, rfl, hown, hb1⟩
  have hpl : (pad l.length).length ≤ 128 ∧ 1 ≤ (pad l.length).length := by
    have := zeros_lt l.length
    simp only [pad, List.length_append, List.length_cons, List.length_replicate, length_lenBytes]; omega
  have hml := length_pad l.length
  obtain ⟨g4, c4, rfl, hg4, hc4, hm4, hL⟩ := hown.lies (by rw [List.length_append]; omega)
  replace hg4 : g3 < g4 := by omega
  replace h2 := h2.below hb1
  replace h3 := h3.below hb1
  replace ba := ba.trans (hb1.mono ba.size)
  have hfin : ShaIs l (final l) := ⟨rfl⟩
  obtain ⟨B, hB⟩ : ∃ B : Nat, (l ++ pad l.length).length = 64 * B := ⟨(l ++ pad l.length).length / 64, by rw [List.length_append]; omega⟩
  have hfs : final l = stN (l ++ pad l.length) B := by unfold final; rw [hB, Nat.mul_div_cancel_left _ (by omega)]
  rw [hfs] at hfin
  have hBn : 64 * B ≤ n + 128 := by have := hpl.1; have := HL.out; rw [← hB, List.length_append]; omega
  clear hb1 hlt3 hown hpl hml hfs
  rw [hB] at hc4
  generalize l ++ pad l.length = M at *
  have HMB := Lib.hid hB
  unfold maxLen at hm4
  rw [hB]
  clear hB
  go_wp2_with fail
  go_loopw [5, 6, 7, 8, 9, 10, 11] (fun i _ _ _ _ _ _ wr => ∃ k : Nat, k ≤ B ∧ i = .int .i64 ((64 * k : Nat) : Int) ∧ Below w.heap.size w wr ∧ Blk wr w.heap.size 108 (row32 []) ∧ Blk wr g3 101 (all8 (stN M k)) ∧ Lies wr g4 M) (fun i _ _ _ _ _ _ _ => 64 * B - (intOf i).toNat)
  case atStart => exact ⟨0, Nat.zero_le _, rfl, ba, h2, h3, hL⟩
  case round =>
    clear ba h2 h3 hL
    obtain ⟨k, hk, rfl, ba, h2, h3, hL⟩ := hrel
    have hz := ba.size
    by_cases hlt : k < B
    · have hsub := hL.sub k (by rw [HMB.out]; omega)
      have hci := compIs (stN M k) ((M.drop (64 * k)).take 64)
      have hbl : ((M.drop (64 * k)).take 64).length = 64 := by rw [List.length_take, List.length_drop, HMB.out]; omega
      have hst : stN M (k + 1) = comp (stN M k) ((M.drop (64 * k)).take 64) := rfl
      rw [hci.eq] at hst
      have HST := Lib.hid hst
      have hok := stN_ok M k
      have hcall := fun (W : World) (hr : Rd W (some ⟨g4, 64 * k, none⟩) 64 (bv ((M.drop (64 * k)).take 64))) => refWordsS_any (some ⟨g4, 64 * k, none⟩) (c4 - 64 * k) ((M.drop (64 * k)).take 64) W hbl hr
      have hSCl := hci.len
      generalize sched ((M.drop (64 * k)).take 64) 64 = SC at *
      have HCALL := Lib.hid hcall
      clear hcall hst hci hbl
      generalize stN M k = st at *
      go_wp2_with fail
      refine (HCALL.out _ hsub).mono ?_
      rintro e w5 ⟨rfl, hb5⟩
      clear hsub HCALL
      replace h2 := h2.below hb5
      replace h3 := h3.below hb5
      replace hL := hL.below hb5
      replace ba := ba.trans (hb5.mono hz)
      clear hb5 hz
      have hws : (wv SC).toArray.size = 64 := by simp [hSCl]
      have hr0 : (rowW []).size = 64 := size_rowW [] (by simp)
      dsimp only
      go_step
      refine wpList_newRow rfl rfl rfl rfl (zero_64 _) (fun _ => rfl) (fun _ => rfl) (by rw [hws, hr0]) (by rw [hws]; kernel_rfl) (all_wv _) ?_
      intro w6 g6 hg6 h6 hb5 hlt6
      replace hg6 : g4 < g6 := by rw [hg6]; exact hL.lt
      replace h2 := h2.below hb5
      replace h3 := h3.below hb5
      replace hL := hL.below hb5
      replace ba := ba.trans (hb5.mono ba.size)
      clear hb5 hr0
      have HWS := Lib.hid hws
      have HSCL := Lib.hid hSCl
      clear hws hSCl
      simp only [Act.put]
      go_upto_region 7 with (fail)
      refine wp_region_lit ?_
      refine wpList_loadRow rfl rfl rfl h3 (by kernel_rfl) (by kernel_rfl) ?_
      refine wpList_newRow (vs := all8 st) rfl rfl rfl rfl (zero_8 _) (fun _ => rfl) (fun _ => rfl) rfl (by kernel_rfl) (one_all8 _) ?_
      intro w7 g7 hg7 h7 hb5 hlt7
      replace hg7 : g6 < g7 := by rw [hg7]; exact h6.lt
      replace h2 := h2.below hb5
      replace h3 := h3.below hb5
      replace hL := hL.below hb5
      replace h6 := h6.below hb5
      replace ba := ba.trans (hb5.mono ba.size)
      clear hb5 hlt6 hlt7
      simp only [Act.put]
      go_wp2_with fail
      go_loopw [8, 9, 10] (fun i _ _ wr => ∃ t : Nat, t ≤ 64 ∧ i = .int .i64 t ∧ Below w.heap.size w wr ∧ Blk wr w.heap.size 108 (row32 []) ∧ Blk wr g3 101 (all8 st) ∧ Lies wr g4 M ∧ Blk wr g6 123 (wv SC).toArray ∧ Blk wr g7 101 (all8 (rounds SC st t))) (fun i _ _ _ => 64 - (intOf i).toNat)
      case atStart => exact ⟨0, Nat.zero_le _, rfl, ba, h2, h3, hL, h6, h7⟩
      case round =>
        clear ba h2 h3 hL h6 h7
        obtain ⟨t, ht, rfl, ba, h2, h3, hL, h6, h7⟩ := hrel
        by_cases hlt2 : t < 64
        · have hv : S8.Ok (rounds SC st t) := rounds_ok _ hok t
          have HR := Lib.hid (show rounds SC st (t + 1) = rnd (K.getD t 0) (SC.getD t 0) (rounds SC st t) from rfl)
          have cw := h6.cell t
          rw [wv_at _ t (by rw [HSCL.out]; exact hlt2), show SC[t]'(by rw [HSCL.out]; exact hlt2) = SC.getD t 0 by simp [HSCL.out, hlt2]] at cw
          have ck := (hR.below ba) t hlt2
          generalize SC.getD t 0 = wt at *
          generalize K.getD t 0 = kt at *
          generalize rounds SC st t = v at *
          have a0 := h7.cell 0
          have a1 := h7.cell 1
          have a2 := h7.cell 2
          have a3 := h7.cell 3
          have a4 := h7.cell 4
          have a5 := h7.cell 5
          have a6 := h7.cell 6
          have a7 := h7.cell 7
          simp [all8] at a0 a1 a2 a3 a4 a5 a6 a7
          have va := hv.a
          have ve := hv.e
          have hx1 := w_xor
          have hx2 := w_and
          have hx3 := w_xorf
          have hx4 := w_add
          have hm1 : xor32 (xor32 (rotr v.e 6) (rotr v.e 11)) (rotr v.e 25) = mix v.e 6 11 25 := rfl
          have hm2 : xor32 (xor32 (rotr v.a 2) (rotr v.a 13)) (rotr v.a 22) = mix v.a 2 13 22 := rfl
          have hx5 : add32 (add32 (add32 (add32 v.h (mix v.e 6 11 25)) (xor32 (and32 v.e v.f) (and32 (not32 v.e) v.g))) kt) wt = xOf kt wt v := rfl
          have hx6 : add32 (mix v.a 2 13 22) (xor32 (xor32 (and32 v.a v.b) (and32 v.a v.c)) (and32 v.b v.c)) = yOf v := rfl
          go_wp2_with fail
          have hS0 : Below wr.heap.size wr wr.drew := (Below.refl _ wr).drew
          refine wp_region_T 35 (by kernel_rfl) ?_
          refine WpT.take (i := 0) rfl (by kernel_rfl) (fun _ _ _ h => h) (.inl ⟨by rfl, fun w hSw => by clear hSw; go_simp; (try go_bits); (try rw [if_pos (by omega)]); (try with_reducible rfl)⟩) ((Below.refl _ _).drew) ?_
          try simp only [nrm]
          refine WpT.take (i := 1) rfl (by kernel_rfl) (fun _ _ _ h => h) (yields_load rfl rfl rfl (by kernel_rfl) (by assumption)) ((Below.refl _ _).drew) ?_
          try simp only [nrm]
          refine WpT.take (i := 2) rfl (by kernel_rfl) (fun _ _ _ h => h) (.inl ⟨by rfl, fun w hSw => by clear hSw; go_simp; (try go_bits); (try rw [if_pos (by omega)]); (try with_reducible rfl)⟩) ((Below.refl _ _).drew) ?_
          try simp only [nrm]
          refine WpT.take (i := 3) rfl (by kernel_rfl) (fun _ _ _ h => h) (yields_load rfl rfl rfl (by kernel_rfl) (by assumption)) ((Below.refl _ _).drew) ?_
          try simp only [nrm]
          refine WpT.take (i := 5) rfl (by kernel_rfl) (fun _ _ _ h => h) (.inl ⟨by rfl, fun w hSw => by clear hSw; go_simp; (try go_bits); (try rw [if_pos (by omega)]); (try with_reducible rfl)⟩) ((Below.refl _ _).drew) ?_
          try simp only [nrm]
          refine WpT.take (i := 6) rfl (by kernel_rfl) (fun _ _ _ h => h) (yields_load rfl rfl rfl (by kernel_rfl) (by assumption)) ((Below.refl _ _).drew) ?_
          try simp only [nrm]
          refine WpT.take (i := 9) rfl (by kernel_rfl) (fun _ _ _ h => h) (.inl ⟨by rfl, fun w hSw => by clear hSw; go_simp; (try go_bits); (try rw [if_pos (by omega)]); (try with_reducible rfl)⟩) ((Below.refl _ _).drew) ?_
          try simp only [nrm]
          refine WpT.take (i := 10) rfl (by kernel_rfl) (fun _ _ _ h => h) (yields_load rfl rfl rfl (by kernel_rfl) (by assumption)) ((Below.refl _ _).drew) ?_
          try simp only [nrm]
          refine WpT.take (i := 14) rfl (by kernel_rfl) (fun _ _ _ h => h) (.inl ⟨by rfl, fun w hSw => by clear hSw; go_simp; (try go_bits); (try rw [if_pos (by omega)]); (try with_reducible rfl)⟩) ((Below.refl _ _).drew) ?_
          try simp only [nrm]
          refine WpT.take (i := 15) rfl (by kernel_rfl) (fun _ _ _ h => h) (yields_load rfl rfl rfl (by kernel_rfl) (by assumption)) ((Below.refl _ _).drew) ?_
          try simp only [nrm]
          refine WpT.take (i := 16) rfl (by kernel_rfl) (fun _ _ _ h => h) (.inl ⟨by rfl, fun w hSw => by clear hSw; go_simp; (try go_bits); (try rw [if_pos (by omega)]); (try with_reducible rfl)⟩) ((Below.refl _ _).drew) ?_
          try simp only [nrm]
          refine WpT.take (i := 17) rfl (by kernel_rfl) (fun _ _ _ h => h) (yields_load rfl rfl rfl (by kernel_rfl) (by assumption)) ((Below.refl _ _).drew) ?_
          try simp only [nrm]
          refine WpT.take (i := 18) rfl (by kernel_rfl) (fun _ _ _ h => h) (.inl ⟨by rfl, fun w hSw => by clear hSw; go_simp; (try go_bits); (try rw [if_pos (by omega)]); (try with_reducible rfl)⟩) ((Below.refl _ _).drew) ?_
          try simp only [nrm]
          refine WpT.take (i := 19) rfl (by kernel_rfl) (fun _ _ _ h => h) (.inl ⟨by rfl, fun w hSw => by clear hSw; go_simp; (try go_bits); (try rw [if_pos (by omega)]); (try with_reducible rfl)⟩) ((Below.refl _ _).drew) ?_
          try simp only [nrm]
          refine WpT.take (i := 20) rfl (by kernel_rfl) (fun _ _ _ h => h) (yields_load rfl rfl rfl (by kernel_rfl) (by assumption)) ((Below.refl _ _).drew) ?_
          try simp only [nrm]
          refine WpT.take (i := 21) rfl (by kernel_rfl) (fun _ _ _ h => h) (.inl ⟨by rfl, fun w hSw => by clear hSw; go_simp; (try go_bits); (try rw [if_pos (by omega)]); (try with_reducible rfl)⟩) ((Below.refl _ _).drew) ?_
          try simp only [nrm]
          refine WpT.take (i := 22) rfl (by kernel_rfl) (fun _ _ _ h => h) (.inl ⟨by rfl, fun w hSw => by clear hSw; go_simp; (try go_bits); (try rw [if_pos (by omega)]); (try with_reducible rfl)⟩) ((Below.refl _ _).drew) ?_
          try simp only [nrm]
          refine WpT.take (i := 23) rfl (by kernel_rfl) (fun _ _ _ h => h) (yields_load rfl rfl rfl (by kernel_rfl) (by assumption)) ((Below.refl _ _).drew) ?_
          try simp only [nrm]
          refine WpT.take (i := 24) rfl (by kernel_rfl) (fun _ _ _ h => h) (.inl ⟨by rfl, fun w hSw => by clear hSw; go_simp; (try go_bits); (try rw [if_pos (by omega)]); (try with_reducible rfl)⟩) ((Below.refl _ _).drew) ?_
          try simp only [nrm]
          refine WpT.take (i := 25) rfl (by kernel_rfl) (fun _ _ _ h => h) (.inl ⟨by rfl, fun w hSw => by clear hSw; go_simp; (try go_bits); (try rw [if_pos (by omega)]); (try with_reducible rfl)⟩) ((Below.refl _ _).drew) ?_
          try simp only [nrm]
          refine WpT.take (i := 27) rfl (by kernel_rfl) (fun _ _ _ h => h) (.inl ⟨by rfl, fun w hSw => by clear hSw; go_simp; (try go_bits); (try rw [if_pos (by omega)]); (try with_reducible rfl)⟩) ((Below.refl _ _).drew) ?_
          try simp only [nrm]
          refine WpT.take (i := 28) rfl (by kernel_rfl) (fun _ _ _ h => h) (.inl ⟨by rfl, fun w hSw => by clear hSw; go_simp; (try go_bits); (try rw [if_pos (by omega)]); (try with_reducible rfl)⟩) ((Below.refl _ _).drew) ?_
          try simp only [nrm]
          refine WpT.take (i := 29) rfl (by kernel_rfl) (fun _ _ _ h => h) (yields_load rfl rfl rfl (by kernel_rfl) (by assumption)) ((Below.refl _ _).drew) ?_
          try simp only [nrm]
          refine WpT.take (i := 31) rfl (by kernel_rfl) (fun _ _ _ h => h) (.inl ⟨by rfl, fun w hSw => by clear hSw; go_simp; (try go_bits); (try rw [if_pos (by omega)]); (try with_reducible rfl)⟩) ((Below.refl _ _).drew) ?_
          try simp only [nrm]
          refine WpT.take (i := 32) rfl (by kernel_rfl) (fun _ _ _ h => h) (.inl ⟨by rfl, fun w hSw => by clear hSw; go_simp; (try go_bits); (try rw [if_pos (by omega)]); (try with_reducible rfl)⟩) ((Below.refl _ _).drew) ?_
          try simp only [nrm]
          refine WpT.take (i := 33) rfl (by kernel_rfl) (fun _ _ _ h => h) (yields_load rfl rfl rfl (by kernel_rfl) (by assumption)) ((Below.refl _ _).drew) ?_
          try simp only [nrm]
          refine WpT.one (i := 4) rfl (by kernel_rfl) (fun K hK => ?_)
          go_simp; refine (refRotr_any _ 6 _ (by omega) (by omega) ve).mono ?_; rintro e x1 ⟨rfl, hy1⟩; have hS1 : Below wr.heap.size wr x1 := bstep hS0 hy1
          refine hK _ _ (hS1) ?_; clear hK K; try simp only [nrm]
          refine WpT.one (i := 7) rfl (by kernel_rfl) (fun K hK => ?_)
          go_simp; refine (refRotr_any _ 11 _ (by omega) (by omega) ve).mono ?_; rintro e x2 ⟨rfl, hy2⟩; have hS2 : Below wr.heap.size wr x2 := bstep hS1 hy2
          refine hK _ _ (hS2) ?_; clear hK K; try simp only [nrm]
          refine WpT.take (i := 8) rfl (by kernel_rfl) (fun _ _ _ h => h) (.inl ⟨by rfl, fun w hSw => by clear hSw; go_simp; (try go_bits); (try rw [if_pos (by omega)]); (try with_reducible rfl)⟩) (hS2) ?_
          try simp only [nrm]
          refine WpT.one (i := 11) rfl (by kernel_rfl) (fun K hK => ?_)
          go_simp; refine (refRotr_any _ 25 _ (by omega) (by omega) ve).mono ?_; rintro e x3 ⟨rfl, hy3⟩; have hS3 : Below wr.heap.size wr x3 := bstep hS2 hy3
          refine hK _ _ (hS3) ?_; clear hK K; try simp only [nrm]
          refine WpT.take (i := 12) rfl (by kernel_rfl) (fun _ _ _ h => h) (.inl ⟨by rfl, fun w hSw => by clear hSw; go_simp; (try go_bits); (try rw [if_pos (by omega)]); (try with_reducible rfl)⟩) (hS3) ?_
          try simp only [nrm]
          refine WpT.take (i := 13) rfl (by kernel_rfl) (fun _ _ _ h => h) (.inl ⟨by rfl, fun w hSw => by clear hSw; go_simp; (try go_bits); (try rw [if_pos (by omega)]); (try with_reducible rfl)⟩) (hS3) ?_
          try simp only [nrm]
          refine WpT.take (i := 26) rfl (by kernel_rfl) (fun _ _ _ h => h) (.inl ⟨by rfl, fun w hSw => by clear hSw; go_simp; (try go_bits); (try rw [if_pos (by omega)]); (try with_reducible rfl)⟩) (hS3) ?_
          try simp only [nrm]
          refine WpT.take (i := 30) rfl (by kernel_rfl) (fun _ _ _ h => h) (.inl ⟨by rfl, fun w hSw => by clear hSw; go_simp; (try go_bits); (try rw [if_pos (by omega)]); (try with_reducible rfl)⟩) (hS3) ?_
          try simp only [nrm]
          refine WpT.take (i := 34) rfl (by kernel_rfl) (fun _ _ _ h => h) (.inl ⟨by rfl, fun w hSw => by clear hSw; go_simp; (try go_bits); (try rw [if_pos (by omega)]); (try with_reducible rfl)⟩) (hS3) ?_
          try simp only [nrm]
          refine WpT.tail (i := 35) rfl (by kernel_rfl) (by kernel_rfl) (fun K hK => ?_)
          go_simp; (try go_bits)
          refine hK _ _ ?_; clear hK K; try simp only [nrm]
          refine WpT.done (by kernel_rfl) ?_ _
          replace ba := ba.trans (hS3.mono ba.size)
          replace h2 := h2.below hS3
          replace h3 := h3.below hS3
          replace hL := hL.below hS3
          replace h6 := h6.below hS3
          replace h7 := h7.below hS3
          clear a0 a1 a2 a3 a4 a5 a6 a7 cw ck hS0 hS1 hS2 hS3 hy1 hy2 hy3
          generalize x3 = wr at *
          have a0 := h7.cell 0
          have a1 := h7.cell 1
          have a2 := h7.cell 2
          simp [all8] at a0 a1 a2
          go_wp2_with fail
          have hS0 : Below wr.heap.size wr wr.drew := (Below.refl _ wr).drew
          refine wp_region_T 29 (by kernel_rfl) ?_
          refine WpT.take (i := 0) rfl (by kernel_rfl) (fun _ _ _ h => h) (.inl ⟨by rfl, fun w hSw => by clear hSw; go_simp; (try go_bits); (try rw [if_pos (by omega)]); (try with_reducible rfl)⟩) ((Below.refl _ _).drew) ?_
          try simp only [nrm]
          refine WpT.take (i := 1) rfl (by kernel_rfl) (fun _ _ _ h => h) (yields_load rfl rfl rfl (by kernel_rfl) (by assumption)) ((Below.refl _ _).drew) ?_
          try simp only [nrm]
          refine WpT.take (i := 3) rfl (by kernel_rfl) (fun _ _ _ h => h) (.inl ⟨by rfl, fun w hSw => by clear hSw; go_simp; (try go_bits); (try rw [if_pos (by omega)]); (try with_reducible rfl)⟩) ((Below.refl _ _).drew) ?_
          try simp only [nrm]
          refine WpT.take (i := 4) rfl (by kernel_rfl) (fun _ _ _ h => h) (yields_load rfl rfl rfl (by kernel_rfl) (by assumption)) ((Below.refl _ _).drew) ?_
          try simp only [nrm]
          refine WpT.take (i := 7) rfl (by kernel_rfl) (fun _ _ _ h => h) (.inl ⟨by rfl, fun w hSw => by clear hSw; go_simp; (try go_bits); (try rw [if_pos (by omega)]); (try with_reducible rfl)⟩) ((Below.refl _ _).drew) ?_
          try simp only [nrm]
          refine WpT.take (i := 8) rfl (by kernel_rfl) (fun _ _ _ h => h) (yields_load rfl rfl rfl (by kernel_rfl) (by assumption)) ((Below.refl _ _).drew) ?_
          try simp only [nrm]
          refine WpT.take (i := 11) rfl (by kernel_rfl) (fun _ _ _ h => h) (.inl ⟨by rfl, fun w hSw => by clear hSw; go_simp; (try go_bits); (try rw [if_pos (by omega)]); (try with_reducible rfl)⟩) ((Below.refl _ _).drew) ?_
          try simp only [nrm]
          refine WpT.take (i := 12) rfl (by kernel_rfl) (fun _ _ _ h => h) (yields_load rfl rfl rfl (by kernel_rfl) (by assumption)) ((Below.refl _ _).drew) ?_
          try simp only [nrm]
          refine WpT.take (i := 13) rfl (by kernel_rfl) (fun _ _ _ h => h) (.inl ⟨by rfl, fun w hSw => by clear hSw; go_simp; (try go_bits); (try rw [if_pos (by omega)]); (try with_reducible rfl)⟩) ((Below.refl _ _).drew) ?_
          try simp only [nrm]
          refine WpT.take (i := 14) rfl (by kernel_rfl) (fun _ _ _ h => h) (yields_load rfl rfl rfl (by kernel_rfl) (by assumption)) ((Below.refl _ _).drew) ?_
          try simp only [nrm]
          refine WpT.take (i := 15) rfl (by kernel_rfl) (fun _ _ _ h => h) (.inl ⟨by rfl, fun w hSw => by clear hSw; go_simp; (try go_bits); (try rw [if_pos (by omega)]); (try with_reducible rfl)⟩) ((Below.refl _ _).drew) ?_
          try simp only [nrm]
          refine WpT.take (i := 16) rfl (by kernel_rfl) (fun _ _ _ h => h) (.inl ⟨by rfl, fun w hSw => by clear hSw; go_simp; (try go_bits); (try rw [if_pos (by omega)]); (try with_reducible rfl)⟩) ((Below.refl _ _).drew) ?_
          try simp only [nrm]
          refine WpT.take (i := 17) rfl (by kernel_rfl) (fun _ _ _ h => h) (yields_load rfl rfl rfl (by kernel_rfl) (by assumption)) ((Below.refl _ _).drew) ?_
          try simp only [nrm]
          refine WpT.take (i := 18) rfl (by kernel_rfl) (fun _ _ _ h => h) (.inl ⟨by rfl, fun w hSw => by clear hSw; go_simp; (try go_bits); (try rw [if_pos (by omega)]); (try with_reducible rfl)⟩) ((Below.refl _ _).drew) ?_
          try simp only [nrm]
          refine WpT.take (i := 19) rfl (by kernel_rfl) (fun _ _ _ h => h) (yields_load rfl rfl rfl (by kernel_rfl) (by assumption)) ((Below.refl _ _).drew) ?_
          try simp only [nrm]
          refine WpT.take (i := 20) rfl (by kernel_rfl) (fun _ _ _ h => h) (.inl ⟨by rfl, fun w hSw => by clear hSw; go_simp; (try go_bits); (try rw [if_pos (by omega)]); (try with_reducible rfl)⟩) ((Below.refl _ _).drew) ?_
          try simp only [nrm]
          refine WpT.take (i := 21) rfl (by kernel_rfl) (fun _ _ _ h => h) (.inl ⟨by rfl, fun w hSw => by clear hSw; go_simp; (try go_bits); (try rw [if_pos (by omega)]); (try with_reducible rfl)⟩) ((Below.refl _ _).drew) ?_
          try simp only [nrm]
          refine WpT.take (i := 22) rfl (by kernel_rfl) (fun _ _ _ h => h) (.inl ⟨by rfl, fun w hSw => by clear hSw; go_simp; (try go_bits); (try rw [if_pos (by omega)]); (try with_reducible rfl)⟩) ((Below.refl _ _).drew) ?_
          try simp only [nrm]
          refine WpT.take (i := 23) rfl (by kernel_rfl) (fun _ _ _ h => h) (yields_load rfl rfl rfl (by kernel_rfl) (by assumption)) ((Below.refl _ _).drew) ?_
          try simp only [nrm]
          refine WpT.take (i := 24) rfl (by kernel_rfl) (fun _ _ _ h => h) (.inl ⟨by rfl, fun w hSw => by clear hSw; go_simp; (try go_bits); (try rw [if_pos (by omega)]); (try with_reducible rfl)⟩) ((Below.refl _ _).drew) ?_
          try simp only [nrm]
          refine WpT.take (i := 25) rfl (by kernel_rfl) (fun _ _ _ h => h) (yields_load rfl rfl rfl (by kernel_rfl) (by assumption)) ((Below.refl _ _).drew) ?_
          try simp only [nrm]
          refine WpT.take (i := 26) rfl (by kernel_rfl) (fun _ _ _ h => h) (.inl ⟨by rfl, fun w hSw => by clear hSw; go_simp; (try go_bits); (try rw [if_pos (by omega)]); (try with_reducible rfl)⟩) ((Below.refl _ _).drew) ?_
          try simp only [nrm]
          refine WpT.take (i := 27) rfl (by kernel_rfl) (fun _ _ _ h => h) (.inl ⟨by rfl, fun w hSw => by clear hSw; go_simp; (try go_bits); (try rw [if_pos (by omega)]); (try with_reducible rfl)⟩) ((Below.refl _ _).drew) ?_
          try simp only [nrm]
          refine WpT.one (i := 2) rfl (by kernel_rfl) (fun K hK => ?_)
          go_simp; refine (refRotr_any _ 2 _ (by omega) (by omega) va).mono ?_; rintro e x1 ⟨rfl, hy1⟩; have hS1 : Below wr.heap.size wr x1 := bstep hS0 hy1
          refine hK _ _ (hS1) ?_; clear hK K; try simp only [nrm]
          refine WpT.one (i := 5) rfl (by kernel_rfl) (fun K hK => ?_)
          go_simp; refine (refRotr_any _ 13 _ (by omega) (by omega) va).mono ?_; rintro e x2 ⟨rfl, hy2⟩; have hS2 : Below wr.heap.size wr x2 := bstep hS1 hy2
          refine hK _ _ (hS2) ?_; clear hK K; try simp only [nrm]
          refine WpT.take (i := 6) rfl (by kernel_rfl) (fun _ _ _ h => h) (.inl ⟨by rfl, fun w hSw => by clear hSw; go_simp; (try go_bits); (try rw [if_pos (by omega)]); (try with_reducible rfl)⟩) (hS2) ?_
          try simp only [nrm]
          refine WpT.one (i := 9) rfl (by kernel_rfl) (fun K hK => ?_)
          go_simp; refine (refRotr_any _ 22 _ (by omega) (by omega) va).mono ?_; rintro e x3 ⟨rfl, hy3⟩; have hS3 : Below wr.heap.size wr x3 := bstep hS2 hy3
          refine hK _ _ (hS3) ?_; clear hK K; try simp only [nrm]
          refine WpT.take (i := 10) rfl (by kernel_rfl) (fun _ _ _ h => h) (.inl ⟨by rfl, fun w hSw => by clear hSw; go_simp; (try go_bits); (try rw [if_pos (by omega)]); (try with_reducible rfl)⟩) (hS3) ?_
          try simp only [nrm]
          refine WpT.take (i := 28) rfl (by kernel_rfl) (fun _ _ _ h => h) (.inl ⟨by rfl, fun w hSw => by clear hSw; go_simp; (try go_bits); (try rw [if_pos (by omega)]); (try with_reducible rfl)⟩) (hS3) ?_
          try simp only [nrm]
          refine WpT.tail (i := 29) rfl (by kernel_rfl) (by kernel_rfl) (fun K hK => ?_)
          go_simp; (try go_bits)
          refine hK _ _ ?_; clear hK K; try simp only [nrm]
          refine WpT.done (by kernel_rfl) ?_ _
          replace ba := ba.trans (hS3.mono ba.size)
          replace h2 := h2.below hS3
          replace h3 := h3.below hS3
          replace hL := hL.below hS3
          replace h6 := h6.below hS3
          replace h7 := h7.below hS3
          clear a0 a1 a2 hS0 hS1 hS2 hS3 hy1 hy2 hy3 hx5 hx6 hm1 hm2
          generalize x3 = wr at *
          have a0 := h7.cell 0
          have a1 := h7.cell 1
          have a2 := h7.cell 2
          have a3 := h7.cell 3
          have a4 := h7.cell 4
          have a5 := h7.cell 5
          have a6 := h7.cell 6
          simp [all8] at a0 a1 a2 a3 a4 a5 a6
          have hr8 := rnd8_eq kt wt v
          have hbld := fun W => build8_any (add32 (xOf kt wt v) (yOf v)) v.a v.b v.c (add32 v.d (xOf kt wt v)) v.e v.f v.g W
          generalize xOf kt wt v = X at *
          generalize yOf v = Y at *
          have HR8 := Lib.hid hr8
          clear hr8
          go_upto_region 13 with (fail)
          refine wp_region_lit ?_
          iterate 60 go_step
          refine wpList_storeRow (g := g7) (o := 0) (vs := rnd8 X Y v) rfl rfl rfl rfl h7 (by show 0 + 8 ≤ 8; omega) (by kernel_rfl) (one_rnd8 _ _ _) ?_
          refine wpList_nil ?_
          have h7' := h7.all (rnd8 X Y v) rfl
          have ba' := below_setCells ba (g := g7) (by omega) 0 (rnd8 X Y v).toList
          have h2' := h2.farRow (g := g7) (by omega) 0 (rnd8 X Y v).toList
          have h3' := h3.farRow (g := g7) (by omega) 0 (rnd8 X Y v).toList
          have h6' := h6.farRow (g := g7) (by omega) 0 (rnd8 X Y v).toList
          have hL' := hL.farRow (b := g7) (by omega) 0 (rnd8 X Y v).toList
          rw [HR8.out] at h7' ba' h2' h3' h6' hL' ⊢
          clear ba h2 h3 h6 hL h7 a0 a1 a2 a3 a4 a5 a6 hbld hx1 hx2 hx3 hx4 hv va ve
          generalize wr.setCells g7 0 (all8 (rnd kt wt v)).toList = wf at *
          rw [← HR.out] at h7'
          simp only [Act.put]
          go_wp2_with fail
          exact ⟨⟨t + 1, by omega, by go_num, ba', h2', h3', hL', h6', h7'⟩, by simp [intOf]; omega⟩
        · obtain rfl : t = 64 := by omega
          clear h6 hlt2 ht
          generalize rounds SC st 64 = v9 at *
          go_wp2_with fail
          obtain ⟨wo, rfl⟩ : ∃ wo : World, wo = wr := ⟨_, rfl⟩
          go_loopw [11] (fun i wr => ∃ q : Nat, q ≤ 8 ∧ i = .int .i64 q ∧ Below w.heap.size w wr ∧ Blk wr w.heap.size 108 (row32 []) ∧ Blk wr g3 101 (sum8 st v9 q) ∧ Lies wr g4 M ∧ Blk wr g7 101 (all8 v9)) (fun i _ => 8 - (intOf i).toNat)
          case atStart => exact ⟨0, Nat.zero_le _, rfl, ba, h2, by rw [sum8_zero]; exact h3, hL, h7⟩
          case round =>
            clear ba h2 h3 hL h7
            obtain ⟨q, hq, rfl, ba, h2, h3, hL, h7⟩ := hrel
            by_cases hlt3 : q < 8
            · obtain ⟨x6, hx6⟩ : ∃ n : Nat, n = v9.list.getD q 0 := ⟨_, rfl⟩
              obtain ⟨y6, hy6⟩ : ∃ n : Nat, n = st.list.getD q 0 := ⟨_, rfl⟩
              have a0 := h7.cell q
              have c0 := h3.cell q
              rw [all8_at v9 q hlt3, ← hx6] at a0
              rw [sum8_at st v9 q hlt3, ← hy6] at c0
              have HNX := Lib.hid (sum8_next st v9 q x6 y6 hlt3 hx6 hy6)
              have hx4 := w_add
              have hq8 : (q : Int) < 8 := by omega
              clear hx6 hy6
              have n32 : g4 ≠ g3 := by omega
              have n72 : g7 ≠ g3 := by omega
              have n22 : w.heap.size ≠ g3 := by omega
              go_wp2_with fail
              refine wp_region_T 9 (by kernel_rfl) ?_
              refine WpT.take (i := 0) rfl (by kernel_rfl) (fun _ _ _ h => h) (.inl ⟨by rfl, fun w hSw => by clear hSw; go_simp; (try go_bits); (try rw [if_pos (by omega)]); (try with_reducible rfl)⟩) ((Below.refl _ _).drew) ?_
              try simp only [nrm]
              refine WpT.take (i := 1) rfl (by kernel_rfl) (fun _ _ _ h => h) (.inl ⟨by rfl, fun w hSw => by clear hSw; go_simp; (try go_bits); (try rw [if_pos (by omega)]); (try with_reducible rfl)⟩) ((Below.refl _ _).drew) ?_
              try simp only [nrm]
              refine WpT.take (i := 2) rfl (by kernel_rfl) (fun _ _ _ h => h) (.inl ⟨by rfl, fun w hSw => by clear hSw; go_simp; (try go_bits); (try rw [if_pos (by omega)]); (try with_reducible rfl)⟩) ((Below.refl _ _).drew) ?_
              try simp only [nrm]
              refine WpT.take (i := 3) rfl (by kernel_rfl) (fun _ _ _ h => h) (yields_load rfl rfl rfl (by kernel_rfl) (by assumption)) ((Below.refl _ _).drew) ?_
              try simp only [nrm]
              refine WpT.take (i := 4) rfl (by kernel_rfl) (fun _ _ _ h => h) (.inl ⟨by rfl, fun w hSw => by clear hSw; go_simp; (try go_bits); (try rw [if_pos (by omega)]); (try with_reducible rfl)⟩) ((Below.refl _ _).drew) ?_
              try simp only [nrm]
              refine WpT.take (i := 5) rfl (by kernel_rfl) (fun _ _ _ h => h) (.inl ⟨by rfl, fun w hSw => by clear hSw; go_simp; (try go_bits); (try rw [if_pos (by omega)]); (try with_reducible rfl)⟩) ((Below.refl _ _).drew) ?_
              try simp only [nrm]
              refine WpT.take (i := 6) rfl (by kernel_rfl) (fun _ _ _ h => h) (yields_load rfl rfl rfl (by kernel_rfl) (by assumption)) ((Below.refl _ _).drew) ?_
              try simp only [nrm]
              refine WpT.take (i := 7) rfl (by kernel_rfl) (fun _ _ _ h => h) (.inl ⟨by rfl, fun w hSw => by clear hSw; go_simp; (try go_bits); (try rw [if_pos (by omega)]); (try with_reducible rfl)⟩) ((Below.refl _ _).drew) ?_
              try simp only [nrm]
              refine WpT.take (i := 8) rfl (by kernel_rfl) (fun _ _ _ h => h) (.inl ⟨by rfl, fun w hSw => by clear hSw; go_simp; (try go_bits); (try rw [if_pos (by omega)]); (try with_reducible rfl)⟩) ((Below.refl _ _).drew) ?_
              try simp only [nrm]
              refine WpT.tail (i := 9) rfl (by kernel_rfl) (by kernel_rfl) (fun K hK => ?_)
              rw [if_pos (by rfl)]; refine wp_store1 (v := .int .u32 ((add32 y6 x6 : Nat) : Int)) rfl (by kernel_rfl) rfl rfl rfl (Blk.drew h3) (by rw [size_sum8]; omega) ?_; intro w9 hw9 hB9; have b9 : Below w.heap.size w w9 := (by rw [hw9]; exact ba.drew.setCell (by show w.heap.size ≤ g3; omega) _); have k2 : Blk w9 w.heap.size 108 (row32 []) := (by rw [hw9]; exact (Blk.drew h2).far n22 _); have kL : Lies w9 g4 M := (by rw [hw9]; exact (hL.below (Below.refl _ _).drew).far n32 _); have k7 : Blk w9 g7 101 (all8 v9) := (by rw [hw9]; exact (Blk.drew h7).far n72 _); clear hw9
              refine hK _ _ ?_; clear hK K; try simp only [nrm]
              refine WpT.done (by kernel_rfl) ?_ _
              rw [HNX.out] at hB9
              go_wp2_with fail
              exact ⟨⟨q + 1, by omega, by go_num, b9, k2, hB9, kL, k7⟩, by simp [intOf]; omega⟩
            · obtain rfl : q = 8 := by omega
              rw [sum8_eight, ← HST.out] at h3
              go_wp2_with fail
              exact ⟨⟨k + 1, by omega, by rw [show ((64 * (k + 1) : Nat) : Int) = 64 * (k : Int) + 64 by omega], ba, h2, h3, hL⟩, by simp [intOf]; omega⟩
    · obtain rfl : k = B := by omega
      have hfok := stN_ok M k
      generalize stN M k = fm at *
      have hz32 := zero_32
      clear hL hk hlt
      go_wp2_with fail
      clear hz32
      generalize hg12 : wr.heap.size = g12 at *
      have HG12 := Lib.hid hg12
      obtain ⟨wo, hwo⟩ : ∃ wo : World, wo = wr.alloc (.cells (row32 []) 108) := ⟨_, rfl⟩
      have hgt : g3 < g12 := by rw [← hg12]; exact h3.lt
      have bao : Below w.heap.size w wo := by rw [hwo]; exact ba.alloc ba.size _
      have h2o : Blk wo w.heap.size 108 (row32 []) := by rw [hwo]; exact h2.alloc _
      have h3o : Blk wo g3 101 (all8 fm) := by rw [hwo]; exact h3.alloc _
      have hOo : Blk wo g12 108 (row32 []) := by rw [hwo, ← hg12]; exact Blk.new _ _ _
      rw [← hwo]
      clear hwo ba h2 h3 hg12 hz
      go_loopw [13] (fun i wr => ∃ j : Nat, j ≤ 32 ∧ i = .int .i64 j ∧ Below w.heap.size w wr ∧ Blk wr w.heap.size 108 (row32 []) ∧ Blk wr g3 101 (all8 fm) ∧ Blk wr g12 108 (row32 (dig fm j))) (fun i _ => 32 - (intOf i).toNat)
      case atStart => exact ⟨0, Nat.zero_le _, rfl, bao, h2o, h3o, hOo⟩
      case round =>
        clear bao h2o h3o hOo
        obtain ⟨j, hj, rfl, ba, h2, h3, hO⟩ := hrel
        by_cases hlt : j < 32
        · have hjl := length_dig fm j
          have hw := h3.cell (j / 4)
          rw [all8_at _ _ (by omega)] at hw
          have hwl := list_lt hfok (j / 4) (by omega)
          have hdb := Lib.hid (digByte_nat fm j)
          generalize fm.list.getD (j / 4) 0 = wd at *
          have co : wr.cell? ⟨g12, j, none⟩ = some (.int .u8 0) := by
            have h := row32_next (dig fm j) (by omega)
            rw [hjl] at h
            rw [hO.cell, h]
          have fo := hO.free j
          have hset := Lib.hid (row32_set (dig fm j) (digByte fm j) (by omega))
          have HJL := Lib.hid hjl
          clear hjl
          go_wp2_with fail
          have hs := hO.set j (.int .u8 ((wd : Int) / 2 ^ (24 - 8 * (j % 4)) % 256))
          have e := hset.out
          rw [HJL.out, hdb.out, ← dig_succ] at e
          rw [e] at hs
          exact ⟨⟨j + 1, by omega, by go_num, ba.setCell (by simp; omega) _, h2.far (by simp; omega) _, h3.far (by simp; omega) _, hs⟩, by simp [intOf]; omega⟩
        · obtain rfl : j = 32 := by omega
          have h32 := size_row32 (dig fm 32) (by rw [length_dig]; omega)
          have h0 := size_row32 [] (by simp)
          have hone := one_row32 (dig fm 32)
          have hR2 := h2.all (row32 (dig fm 32)) (by rw [h32, h0])
          have ba2 := below_setCells ba (g := w.heap.size) (Nat.le_refl _) 0 (row32 (dig fm 32)).toList
          go_upto_region 23 with (fail)
          refine wp_region_lit ?_
          refine wpList_loadRow rfl rfl rfl hO (by kernel_rfl) (by rw [h32]; kernel_rfl) ?_
          refine wpList_storeRow (g := w.heap.size) (o := 0) rfl rfl rfl rfl h2 (by rw [h32, h0]; decide) (by rw [h32]; kernel_rfl) hone ?_
          refine wpList_nil ?_
          generalize wr.setCells w.heap.size 0 (row32 (dig fm 32)).toList = w7 at *
          rw [row32_full _ (length_dig fm 32), ← hfin.eq] at hR2
          rw [row32_full _ (length_dig fm 32), ← hfin.eq]
          have H32 := Lib.hid (show (bv (sha l)).toArray.size = 32 by simp [length_sha])
          clear hO h2 h3 h32 h0 hone
          go_wp2
          refine ret_blk rfl rfl rfl hR2 (by kernel_rfl) (by rw [H32.out]; kernel_rfl) ⟨rfl, ba2⟩
end Go.Proofs.YtgggpnjnhhkmgaaDoor
namespace Go.Proofs.YtgggpnjnhhkmgaaDoor
set_option linter.unusedSimpArgs false
set_option linter.unusedVariables false
open Go.RowKit Sha
set_option maxHeartbeats 1000000 in
theorem refInt_any (m : Nat) (w : World) (hm : m < 1099511627776) :
    Calls Tryd.prog 89 #[.int .i64 (m : Nat)] w fun e w' => ∃ v, e = .returned v ∧ Own w' w.heap.size 5 v (bv (vint 9 (2 * m))) ∧ Below w.heap.size w w' := by
  have hneg : decide ((m : Int) < 0) = false := by simp
  go_enter Tryd.func89, Tryd.ntmps89
  go_wp2_with fail
  go_loopw [3, 4] (fun x v wr => ∃ (f z : Nat) (acc : List UInt8), x = .int .u64 z ∧ z < 128 ^ (f + 1) ∧ f + acc.length ≤ 9 ∧ acc ++ vint f z = vint 9 (2 * m) ∧ Own wr w.heap.size 5 v (bv acc) ∧ Below w.heap.size w wr) (fun x _ _ => (intOf x).toNat)
  case atStart => exact ⟨9, 2 * m, [], by simp; omega, by omega, by simp, by simp, Own.nil _ _ _, Below.refl _ _⟩
  case round =>
    obtain ⟨f, z, acc, rfl, hzf, hfa, hacc, hown, hb⟩ := hrel
    have hz := hb.size
    have hzl : z < 1180591620717411303424 := by
      have : 128 ^ (f + 1) ≤ 128 ^ 10 := Nat.pow_le_pow_right (by omega) (by omega)
      omega
    have HA := Lib.hid hacc
    clear hacc
    by_cases hlt : z < 128
    · have HV := Lib.hid (vint_small f z hlt)
      have hd : decide ((128 : Int) ≤ (z : Int)) = false := by simp; omega
      clear hzf hzl
      go_wp2_with (at_builtin; refine wpList_app rfl rfl elemBytes rfl (hown.alloc _) rfl (Rd.new1 _ _ _) (one1 rfl) (by rw [length_bv]; omega) (by simp; omega) ?_; intro v' w' hown' hg' hb' _)
      go_ret
      refine ⟨_, rfl, ?_, (hb.alloc hz _).trans hb'⟩
      rw [← HA.out, HV.out, bv_append, show bv [UInt8.ofNat z] = [.int .u8 (z : Nat)] by simp [bv, UInt8.toNat_ofNat']; omega]
      exact hown'
    · obtain ⟨f, rfl⟩ : ∃ g, f = g + 1 := by
        cases f with
        | zero => exfalso; simp at hzf; omega
        | succ f => exact ⟨f, rfl⟩
      have HV := Lib.hid (vint_big f z hlt)
      have hd : decide ((128 : Int) ≤ (z : Int)) = true := by simp; omega
      have hq : z / 128 < 128 ^ (f + 1) := by
        rw [Nat.div_lt_iff_lt_mul (by omega)]; rw [Nat.pow_succ] at hzf; exact hzf
      have HQ := Lib.hid hq
      clear hzf hq
      go_wp2_with (at_builtin; refine wpList_app rfl rfl elemBytes rfl (hown.alloc _) rfl (Rd.new1 _ _ _) (one1 rfl) (by rw [length_bv]; omega) (by simp; omega) ?_; intro v' w' hown' hg' hb' _)
      refine ⟨⟨f, z / 128, acc ++ [UInt8.ofNat (z % 128 + 128)], by simp, HQ.out, by simp; omega, by rw [← HA.out, HV.out, List.append_assoc]; rfl, ?_, (hb.alloc hz _).trans hb'⟩, ?_⟩
      · rw [bv_append, show bv [UInt8.ofNat (z % 128 + 128)] = [.int .u8 ((z : Int) % 128 + 128)] by simp [bv, UInt8.toNat_ofNat']; omega]
        exact hown'
      · simp [intOf]; omega
theorem refInt_int (n : Int) (m : Nat) (w : World) (hn : n = m) (hm : m < 1099511627776) :
    Calls Tryd.prog 89 #[.int .i64 n] w fun e w' => ∃ v, e = .returned v ∧ Own w' w.heap.size 5 v (bv (vint 9 (2 * m))) ∧ Below w.heap.size w w' := by
  subst hn; exact refInt_any m w hm
set_option maxHeartbeats 1000000 in
theorem refBytes1_any (s : ByteArray) (w : World) (hs : s.size < 1073741824) :
    Calls Tryd.prog 79 #[.string s] w fun e w' => ∃ v, e = .returned v ∧ Own w' w.heap.size 5 v (bv (encB s.data.toList)) ∧ Below w.heap.size w w' := by
  go_enter Tryd.func79, Tryd.ntmps79
  go_wp2_with fail
  refine (refInt_int _ s.size _ rfl (by omega)).mono ?_
  rintro e w1 ⟨v1, rfl, hown1, hb1⟩
  have hl := length_vint 9 (2 * s.size)
  have hz := hb1.size
  go_wp2_with (at_builtin; refine wpList_appStr rfl rfl rfl hown1 rfl (by rw [length_bv]; omega) hz ?_; intro v' w' hown' hb')
  go_ret
  refine ⟨_, rfl, ?_, hb1.trans hb'⟩
  unfold encB
  rw [bv_append, show s.data.toList.length = s.size by simp]
  exact hown'
set_option maxHeartbeats 1000000 in
theorem refInput_any (tag : Int) (A : Option Addr) (n c : Nat) (l : List ByteArray) (w : World) (hn : n ≤ 4096) (hs : ∀ s ∈ l, s.size ≤ 65536) (hr : Rd w A n (sv l)) :
    Calls Tryd.prog 66 #[.int .i64 tag, .slice A n c] w fun e w' => ∃ v, e = .returned v ∧ Own w' w.heap.size 5 v (bv (inputL tag l)) ∧ Below w.heap.size w w' := by
  have HL := Lib.hid (show l.length = n by have := hr.len; simpa using this)
  have HS := Lib.hid hs
  clear hs
  go_enter Tryd.func66, Tryd.ntmps66
  go_wp2_with fail
  go_loopw [5, 6] (fun v i wr => ∃ k : Nat, k ≤ n ∧ i = .int .i64 k ∧ Own wr w.heap.size 5 v (bv (inputL tag (l.take k))) ∧ Below w.heap.size w wr) (fun _ i _ => n - (intOf i).toNat)
  case atStart =>
    refine ⟨0, Nat.zero_le _, rfl, ?_, (Below.refl _ _).alloc (Nat.le_refl _) _⟩
    have h := Own.lit w w.heap.size 5 [.int .u8 (tag % 256)] (Nat.le_refl _) (by simp [maxLen])
    have e : bv (inputL tag (l.take 0)) = [.int .u8 (tag % 256)] := by simp [bv, inputL, byteOf_nat]
    rw [e]
    exact h
  case round =>
    obtain ⟨k, hk, rfl, hown, hb⟩ := hrel
    have hz := hb.size
    by_cases hlt : k < n
    · obtain ⟨ad, rfl, hc⟩ := (hr.below hb).str hlt HL.out
      have hss := HS.out (l[k]'(by have := HL.out; omega)) (List.getElem_mem _)
      have HT := Lib.hid (List.take_succ_eq_append_getElem (show k < l.length by have := HL.out; omega))
      have hil : Hid ((bv (inputL tag (l.take k))).length ≤ 268500000) := by
        show _ ≤ _
        have h0 := length_inputL tag (l.take k) 65536 (fun s hs' => HS.out s (List.mem_of_mem_take hs'))
        have h1 : (l.take k).length ≤ 4096 := by rw [List.length_take]; omega
        have h2 : (l.take k).length * (10 + 65536) ≤ 4096 * (10 + 65536) := Nat.mul_le_mul_right _ h1
        rw [length_bv]; omega
      generalize l[k]'(by have := HL.out; omega) = s at *
      have hel : Hid ((encB s.data.toList).length ≤ 65546) := by show _ ≤ _; have := length_encB s; omega
      go_wp2_with fail
      refine (refBytes1_any s _ (by omega)).mono ?_
      rintro e w1 ⟨v1, rfl, hown1, hb1⟩
      obtain ⟨A1, n1, c1, rfl, hn1, _, _, hr1⟩ := hown1.formN
      go_wp2_with (at_builtin; refine wpList_app rfl rfl elemBytes rfl (hown.below hb1) rfl hr1 (oneCell_bv _) (by have := hn1.out; rw [length_bv] at this; have := hil.out; have := hel.out; omega) (by have := hb1.size; omega) ?_; intro v' w' hown' hg' hb' _)
      refine ⟨⟨k + 1, by omega, by go_num, ?_, (hb.trans (hb1.mono hz)).trans hb'⟩, by simp [intOf]; omega⟩
      rw [HT.out, inputL_snoc, bv_append]
      exact hown'
    · obtain rfl : k = n := by omega
      rw [List.take_of_length_le (by have := HL.out; omega)] at hown
      go_wp2
      go_ret
      exact ⟨_, rfl, hown, hb⟩

/-! ### the encodings part -/
theorem vint_inj (f z z' : Nat) (r r' : List UInt8) (h : z < 128 ^ (f + 1)) (h' : z' < 128 ^ (f + 1)) (e : vint f z ++ r = vint f z' ++ r') : z = z' ∧ r = r' := by
  induction f generalizing z z' with
  | zero =>
    simp only [vint, List.cons_append, List.nil_append, List.cons.injEq] at e
    have := congrArg UInt8.toNat e.1
    simp only [UInt8.toNat_ofNat'] at this
    simp at h h'
    exact ⟨by omega, e.2⟩
  | succ f ih =>
    have q : ∀ z, z < 128 ^ (f + 1 + 1) → z / 128 < 128 ^ (f + 1) := fun z h => by
      rw [Nat.div_lt_iff_lt_mul (by omega)]; rw [Nat.pow_succ] at h; exact h
    by_cases hz : z < 128 <;> by_cases hz' : z' < 128
    · rw [vint_small _ _ hz, vint_small _ _ hz'] at e
      simp only [List.cons_append, List.nil_append, List.cons.injEq] at e
      have := congrArg UInt8.toNat e.1
      simp only [UInt8.toNat_ofNat'] at this
      exact ⟨by omega, e.2⟩
    · rw [vint_small _ _ hz, vint_big _ _ hz'] at e
      simp only [List.cons_append, List.nil_append, List.cons.injEq] at e
      have := congrArg UInt8.toNat e.1
      simp only [UInt8.toNat_ofNat'] at this
      omega
    · rw [vint_big _ _ hz, vint_small _ _ hz'] at e
      simp only [List.cons_append, List.nil_append, List.cons.injEq] at e
      have := congrArg UInt8.toNat e.1
      simp only [UInt8.toNat_ofNat'] at this
      omega
    · rw [vint_big _ _ hz, vint_big _ _ hz'] at e
      simp only [List.cons_append, List.cons.injEq] at e
      have h1 := congrArg UInt8.toNat e.1
      simp only [UInt8.toNat_ofNat'] at h1
      have h2 := ih (z / 128) (z' / 128) (q z h) (q z' h') e.2
      exact ⟨by omega, h2.2⟩
theorem encB_inj (s t r r' : List UInt8) (hs : s.length < 1099511627776) (ht : t.length < 1099511627776) (e : encB s ++ r = encB t ++ r') : s = t ∧ r = r' := by
  unfold encB at e
  rw [List.append_assoc, List.append_assoc] at e
  have h := vint_inj 9 (2 * s.length) (2 * t.length) (s ++ r) (t ++ r') (by omega) (by omega) e
  exact List.append_inj h.2 (by omega)
theorem parts_inj : ∀ (a b : List ByteArray), (∀ s ∈ a, s.size ≤ 65536) → (∀ s ∈ b, s.size ≤ 65536) → (a.flatMap fun s => encB s.data.toList) = (b.flatMap fun s => encB s.data.toList) → a = b
  | [], [], _, _, _ => rfl
  | [], t :: b, _, hb, e => by
    have h := congrArg List.length e
    simp only [List.flatMap_nil, List.length_nil, List.flatMap_cons, List.length_append, encB] at h
    have : 1 ≤ (vint 9 (2 * t.data.toList.length)).length := by
      unfold vint; split <;> simp
    omega
  | s :: a, [], ha, _, e => by
    have h := congrArg List.length e
    simp only [List.flatMap_nil, List.length_nil, List.flatMap_cons, List.length_append, encB] at h
    have : 1 ≤ (vint 9 (2 * s.data.toList.length)).length := by
      unfold vint; split <;> simp
    omega
  | s :: a, t :: b, ha, hb, e => by
    simp only [List.flatMap_cons] at e
    have h1 := ha s (by simp)
    have h2 := hb t (by simp)
    have l1 : s.data.toList.length = s.size := by simp
    have l2 : t.data.toList.length = t.size := by simp
    have h := encB_inj _ _ _ _ (by omega) (by omega) e
    have hst : s = t := by
      cases s; cases t
      simp only [ByteArray.mk.injEq]
      exact Array.toList_inj.1 h.1
    rw [hst, parts_inj a b (fun x hx => ha x (by simp [hx])) (fun x hx => hb x (by simp [hx])) h.2]
theorem inputL_inj (t u : Int) (a b : List ByteArray) (ht : 0 ≤ t ∧ t < 256) (hu : 0 ≤ u ∧ u < 256) (ha : ∀ s ∈ a, s.size ≤ 65536) (hb : ∀ s ∈ b, s.size ≤ 65536) (e : inputL t a = inputL u b) : t = u ∧ a = b := by
  unfold inputL at e
  simp only [List.cons.injEq] at e
  have h := congrArg (fun x : UInt8 => ((x.toNat : Nat) : Int)) e.1
  simp only [byteOf_nat] at h
  exact ⟨by omega, parts_inj a b ha hb e.2⟩
end Go.Proofs.YtgggpnjnhhkmgaaDoor
namespace Go.Proofs.YtgggpnjnhhkmgaaDoor
set_option linter.unusedSimpArgs false
set_option linter.unusedVariables false
open Go.RowKit Sha
/-- A row of 16 bytes of which the first ones are made. -/
def row16 (l : List UInt8) : Array Value := (bv (l ++ List.replicate (16 - l.length) 0)).toArray
theorem size_row16 (l : List UInt8) (h : l.length ≤ 16) : (row16 l).size = 16 := by simp [row16]; omega
theorem row16_full (l : List UInt8) (h : l.length = 16) : row16 l = (bv l).toArray := by simp [row16, h]
theorem row16_nil : row16 [] = zero16 := by simp [row16, zero16]
theorem row16_set (l : List UInt8) (x : UInt8) (h : l.length < 16) : (row16 l).setIfInBounds l.length (.int .u8 (x.toNat : Nat)) = row16 (l ++ [x]) := by
  unfold row16
  have e : List.replicate (16 - l.length) (0 : UInt8) = 0 :: List.replicate (16 - (l.length + 1)) 0 := by
    rw [show 16 - l.length = (16 - (l.length + 1)) + 1 by omega, List.replicate_succ]
  simp only [bv, List.setIfInBounds_toArray, e, List.length_append, List.length_cons, List.length_nil, List.map_append, List.map_cons, Nat.zero_add]
  congr 1
  rw [List.set_append_right _ _ (by simp)]
  simp
theorem row16_next (l : List UInt8) (h : l.length < 16) : (row16 l)[l.length]? = some (.int .u8 0) := by
  unfold row16
  have e : List.replicate (16 - l.length) (0 : UInt8) = 0 :: List.replicate (16 - (l.length + 1)) 0 := by
    rw [show 16 - l.length = (16 - (l.length + 1)) + 1 by omega, List.replicate_succ]
  simp only [bv, List.getElem?_toArray, List.getElem?_map]
  rw [List.getElem?_append_right (Nat.le_refl _), e]
  simp
theorem build_16 (W : World) : (Instr.build 31 #[]).run Tryd.prog W = .ok (.agg zero16) W := by kernel_rfl
set_option maxHeartbeats 2000000 in
set_option maxRecDepth 100000 in
theorem refShort_any (A : Option Addr) (n c : Nat) (l : List UInt8) (w : World) (hn : n ≤ 268435456) (hr : Rd w A n (bv l)) (hRC : RCon w) :
    Calls Tryd.prog 65 #[.slice A n c] w fun e w' => e = .returned (.agg (bv (dig16 l)).toArray) ∧ Below w.heap.size w w' := by
  have HQ := Lib.hid (fun (W : World) (hr : Rd W A n (bv l)) (hR : RCon W) => refSum_any A n c l W hn hr hR)
  have HLN := Lib.hid (length_sha l)
  unfold dig16
  generalize sha l = S at HQ HLN ⊢
  have hz16 := zero_16
  go_enter Tryd.func65, Tryd.ntmps65
  go_wp2_with fail
  have h2 := Blk.new w 31 zero16
  have ba := (Below.refl w.heap.size w).alloc (Nat.le_refl _) (.cells zero16 31)
  refine (HQ.out _ (hr.below ba) (hRC.below ba)).mono ?_
  rintro e w1 ⟨rfl, hb1⟩
  replace h2 := h2.below hb1
  replace ba := ba.trans (hb1.mono ba.size)
  have hsz : (bv S).toArray.size = 32 := by simp [HLN.out]
  have hR0 := size_row32 [] (by simp)
  have h160 : zero16.size = 16 := by simp [zero16]
  have H160 := Lib.hid h160
  clear hb1 hz16
  dsimp only
  go_step
  refine wpList_newRow rfl rfl rfl rfl (zero_32 _) (fun _ => rfl) (fun _ => rfl) (by rw [hsz, hR0]) (by rw [hsz]; kernel_rfl) (all_bv _) ?_
  intro w2 g3 hg3 h3 hb1 hlt3
  replace hg3 : w.heap.size < g3 := by rw [hg3]; exact h2.lt
  replace h2 := h2.below hb1
  replace ba := ba.trans (hb1.mono ba.size)
  clear hb1 hsz hR0 hlt3
  simp only [Act.put]
  go_upto_region 2 with (fail)
  refine wp_region_lit ?_
  refine wpList_build rfl rfl (by simp) (build_16 _) ?_
  refine wpList_newRow rfl rfl rfl rfl (zero_16 _) (fun _ => rfl) (fun _ => rfl) rfl (by rw [h160]; kernel_rfl) (all_bv _) ?_
  intro w3 g4 hg4 h4 hb1 hlt4
  replace hg4 : g3 < g4 := by rw [hg4]; exact h3.lt
  replace h2 := h2.below hb1
  replace h3 := h3.below hb1
  replace ba := ba.trans (hb1.mono ba.size)
  clear hb1 hlt4 h160
  simp only [Act.put]
  go_wp2_with fail
  go_loopw [5] (fun i wr => ∃ k : Nat, k ≤ 16 ∧ i = .int .i64 k ∧ Below w.heap.size w wr ∧ Blk wr w.heap.size 31 zero16 ∧ Blk wr g3 108 (bv S).toArray ∧ Blk wr g4 31 (row16 (S.take k))) (fun i _ => 16 - (intOf i).toNat)
  case atStart => exact ⟨0, Nat.zero_le _, rfl, ba, h2, h3, by rw [List.take_zero, row16_nil]; exact h4⟩
  case round =>
    clear ba h2 h3 h4
    obtain ⟨k, hk, rfl, ba, h2, h3, h4⟩ := hrel
    by_cases hlt : k < 16
    · have hkS : k < S.length := by rw [HLN.out]; omega
      have hc := h3.cell k
      rw [show (bv S).toArray[k]? = some (.int .u8 (S[k].toNat : Nat)) by simp [bv, hkS]] at hc
      have htl : (S.take k).length = k := by rw [List.length_take, HLN.out]; omega
      have co : wr.cell? ⟨g4, k, none⟩ = some (.int .u8 0) := by
        have h := row16_next (S.take k) (by omega)
        rw [htl] at h
        rw [h4.cell, h]
      have fo := h4.free k
      have hset := row16_set (S.take k) S[k] (by omega)
      rw [htl, ← List.take_succ_eq_append_getElem hkS] at hset
      have HSET := Lib.hid hset
      clear hset htl
      generalize S[k] = x at *
      go_wp2_with fail
      refine ⟨⟨k + 1, by omega, by go_num, ba.setCell (by simp; omega) _, h2.far (by simp; omega) _, h3.far (by simp; omega) _, ?_⟩, by simp [intOf]; omega⟩
      rw [← HSET.out]
      exact h4.set k _
    · obtain rfl : k = 16 := by omega
      have h16 : (S.take 16).length = 16 := by rw [List.length_take, HLN.out]; rfl
      rw [row16_full _ h16] at h4
      have hs16 : (bv (S.take 16)).toArray.size = 16 := by simp [HLN.out]
      have h5 := h2.all (bv (S.take 16)).toArray (by rw [hs16, H160.out])
      have ba2 := below_setCells ba (g := w.heap.size) (Nat.le_refl _) 0 (bv (S.take 16)).toArray.toList
      go_upto_region 7 with (fail)
      refine wp_region_lit ?_
      refine wpList_loadRow rfl rfl rfl h4 (by kernel_rfl) (by rw [hs16]; kernel_rfl) ?_
      refine wpList_storeRow (g := w.heap.size) (o := 0) rfl rfl rfl rfl h2 (by rw [hs16, H160.out]; decide) (by rw [hs16]; kernel_rfl) (all_bv _) ?_
      refine wpList_nil ?_
      have HS16 := Lib.hid hs16
      clear h2 h3 h4 ba hs16 h16
      generalize wr.setCells w.heap.size 0 (bv (S.take 16)).toArray.toList = w9 at *
      simp only [Act.put]
      go_wp2
      refine ret_blk rfl rfl rfl h5 (by kernel_rfl) (by rw [HS16.out]; kernel_rfl) ⟨rfl, ba2⟩
set_option maxHeartbeats 2000000 in
set_option maxRecDepth 100000 in
theorem refOf_any (tag : Int) (A : Option Addr) (n c : Nat) (l : List ByteArray) (w : World) (hn : n ≤ 4096) (hs : ∀ s ∈ l, s.size ≤ 400) (hr : Rd w A n (sv l)) (hRC : RCon w) :
    Calls Tryd.prog 41 #[.int .i64 tag, .slice A n c] w fun e w' => e = .returned (.agg (bv (dig16 (inputL tag l))).toArray) ∧ Below w.heap.size w w' := by
  have hl : l.length = n := by have := hr.len; simpa using this
  have hil := length_inputL tag l 400 hs
  have hil2 : (inputL tag l).length ≤ 2000000 := by
    have h2 : l.length * (10 + 400) ≤ 4096 * (10 + 400) := Nat.mul_le_mul_right _ (by omega)
    omega
  have HIL := Lib.hid hil2
  have HQ := Lib.hid (fun (A : Option Addr) (n c : Nat) (W : World) (hn : n ≤ 268435456) (hr : Rd W A n (bv (inputL tag l))) (hR : RCon W) => refShort_any A n c (inputL tag l) W hn hr hR)
  have hdl := length_dig16 (inputL tag l)
  have HS := Lib.hid hs
  clear hl hil hil2 hs
  generalize dig16 (inputL tag l) = D at *
  have hz16 := zero_16
  go_enter Tryd.func41, Tryd.ntmps41
  go_wp2_with fail
  have h4 := Blk.new w 31 zero16
  have ba := (Below.refl w.heap.size w).alloc (Nat.le_refl _) (.cells zero16 31)
  refine (refInput_any tag A n c l _ (by omega) (fun s hs => by have := HS.out s hs; omega) (hr.below ba)).mono ?_
  rintro e w1 ⟨v1, rfl, o1, hb1⟩
  obtain ⟨A1, n1, c1, rfl, hn1, _, _, r1⟩ := o1.formN
  replace h4 := h4.below hb1
  replace ba := ba.trans (hb1.mono ba.size)
  clear hb1 o1 hz16
  go_wp2_with fail
  refine (HQ.out A1 n1 c1 _ (by rw [hn1.out, length_bv]; have := HIL.out; omega) r1 (hRC.below ba)).mono ?_
  rintro e w2 ⟨rfl, hb1⟩
  replace h4 := h4.below hb1
  replace ba := ba.trans (hb1.mono ba.size)
  have h160 : zero16.size = 16 := by simp [zero16]
  have hD : (bv D).toArray.size = 16 := by simp [hdl]
  have h5 := h4.all (bv D).toArray (by rw [hD, h160])
  have ba2 := below_setCells ba (g := w.heap.size) (Nat.le_refl _) 0 (bv D).toArray.toList
  dsimp only
  go_step
  refine wpList_storeRow (g := w.heap.size) (o := 0) rfl rfl rfl rfl h4 (by rw [hD, h160]; decide) (by rw [hD]; kernel_rfl) (all_bv _) ?_
  refine wpList_nil ?_
  have HD16 := Lib.hid hD
  clear hb1 h4 ba h160 hD hdl
  generalize w2.setCells w.heap.size 0 (bv D).toArray.toList = w9 at *
  simp only [Act.put]
  go_wp2
  refine ret_blk rfl rfl rfl h5 (by kernel_rfl) (by rw [HD16.out]; kernel_rfl) ⟨rfl, ba2⟩
end Go.Proofs.YtgggpnjnhhkmgaaDoor
