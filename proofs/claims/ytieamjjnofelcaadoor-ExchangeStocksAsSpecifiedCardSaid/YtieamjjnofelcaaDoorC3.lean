/-
  These texts, joined.
  The reference's Half. Conditions: the prefix is right, of at most 127 bits.
  SameParcels of the reference at two lists of the same parcels: it answers true. Conditions: at most 3000 parcels.
  The reference's Add. Conditions: the stock's names stand in order; at most 1000 items; a text of at most 400 bytes; the table of constants stands.
  The law ExchangeStocksAsSpecified, walked. Conditions: the tables of constants stand.
  The law ExchangeStocksAsSpecified: it returns true for every input, and its arguments read behind the call as before; the row and its tied card. Conditions: the tables start as the program's text lays them.
-/
import Derived.Test.YtieamjjnofelcaaDoorB6
import Derived.Test.YtieamjjnofelcaaDoorB10
import Derived.Test.YtieamjjnofelcaaDoorB7
import Derived.Test.YtieamjjnofelcaaDoorB9
namespace Go.Proofs.YtieamjjnofelcaaDoor
set_option linter.unusedSimpArgs false
set_option linter.unusedVariables false
open Go.RowKit Exch
theorem bits_add (u h : Nat) (hu : u < 256) (hh : h < 8) (hz : u % 2 ^ (8 - h) = 0) : IntKind.u8.wrap ((u : Nat) + 128 / 2 ^ h) = ((u + 2 ^ (7 - h) : Nat) : Int) := by
  have h1 : ∀ x : Fin 256, ∀ y : Fin 8, x.val % 2 ^ (8 - y.val) = 0 → IntKind.u8.wrap (((x.val : Nat) : Int) + 128 / 2 ^ y.val) = ((x.val + 2 ^ (7 - y.val) : Nat) : Int) := by decide +kernel
  exact h1 ⟨u, hu⟩ ⟨h, hh⟩ hz
set_option maxRecDepth 20000 in
set_option maxHeartbeats 1000000 in
theorem refHalf_any (v len : Nat) (b : Bool) (w : World) (hv : v < 2 ^ 128) (hl : len ≤ 127) (hz : v % 2 ^ (128 - len) = 0) (hlt : v + 2 ^ (127 - len) < 2 ^ 128) :
    Calls Tryd.prog 31 #[pxV v len, .bool b] w fun e w' => e = .returned (pxV (if b then v + 2 ^ (127 - len) else v) ((len + 1 : Nat) : Int)) ∧ Below w.heap.size w w' := by
  obtain ⟨Z, hZ⟩ : ∃ Z : Array Value, (#[.int .u8 0, .int .u8 0, .int .u8 0, .int .u8 0, .int .u8 0, .int .u8 0, .int .u8 0, .int .u8 0, .int .u8 0, .int .u8 0, .int .u8 0, .int .u8 0, .int .u8 0, .int .u8 0, .int .u8 0, .int .u8 0, .int .i64 0] : Array Value) = Z := ⟨_, rfl⟩
  have hZs : Z.size = 17 := by rw [← hZ]; rfl
  have hzero : ∀ W, (zeroValue 28).run Tryd.prog W = .ok (.agg Z) W := fun W => by rw [← hZ]; exact zeroPx W
  obtain ⟨wa, hwa, hb0, q0, q1⟩ : ∃ wa : World, wa = (w.alloc (.cells (pxC v len) 28)).alloc (.cells Z 28) ∧ Below w.heap.size w wa ∧ Blk wa w.heap.size 28 (pxC v len) ∧ Blk wa (w.heap.size + 1) 28 Z :=
    ⟨_, rfl, ((Below.refl w.heap.size w).alloc (Nat.le_refl _) _).alloc (by simp) _, (Blk.new _ _ _).alloc _, Blk.new2 _ _ _ _⟩
  have HWA := Lib.hid hwa
  clear hwa
  have hj : len / 8 < (dg v).length := by rw [dg_len]; omega
  have hby := half_byte hv hl hz hj
  have hor := bits_add ((dg v)[len / 8]).toNat (len % 8) (by exact ((dg v)[len / 8]).toNat_lt) (by omega) hby
  have hor2 := (bits_or ((dg v)[len / 8]).toNat (len % 8) (by exact ((dg v)[len / 8]).toNat_lt) (by omega) hby).2
  obtain ⟨u, hu⟩ : ∃ u : UInt8, u.toNat = ((dg v)[len / 8]).toNat + 2 ^ (7 - len % 8) := ⟨UInt8.ofNat (((dg v)[len / 8]).toNat + 2 ^ (7 - len % 8)), by rw [UInt8.toNat_ofNat']; exact Nat.mod_eq_of_lt hor2⟩
  have hset := half_dg hv hl hz hj u hu hlt
  have HOR : Hid (IntKind.u8.wrap ((((dg v)[len / 8]).toNat : Nat) + 128 / 2 ^ (len % 8)) = (u.toNat : Nat)) := Lib.hid (by rw [hu]; exact hor)
  have HSET : Hid ((pxC v ((len + 1 : Nat) : Int)).setIfInBounds (len / 8) (.int .u8 (u.toNat : Nat)) = pxC (v + 2 ^ (127 - len)) ((len + 1 : Nat) : Int)) := Lib.hid (by
    rw [pxC, pxC, pxL, pxL, ← hset]
    apply Array.ext'
    simp only [Array.toList_setIfInBounds]
    rw [List.set_append_left _ _ (by rw [bv_dg_len]; omega)]
    simp [bv])
  have HCB : Hid (∀ (g : Nat) (T : TypeId) (W : World), Blk W g T (pxC v ((len + 1 : Nat) : Int)) → W.cell? ⟨g, len / 8, none⟩ = some (.int .u8 (((dg v)[len / 8]).toNat : Nat))) := Lib.hid (fun g T W h => by
    have h2 := h.cell (len / 8)
    rw [List.getElem?_toArray, List.getElem?_append_left (by rw [bv_dg_len]; omega)] at h2
    simpa [bv, List.getElem?_eq_getElem hj] using h2)
  have hq : ((len : Int).tdiv 8) = ((len / 8 : Nat) : Int) := by rw [Int.tdiv_eq_ediv_of_nonneg (by omega)]; rfl
  have hr : ((len : Int).tmod 8) = ((len % 8 : Nat) : Int) := by rw [Int.tmod_eq_emod_of_nonneg (by omega)]; rfl
  have hj16 : len / 8 < 16 := by omega
  have HB1 := Lib.hid (build_px v ((len + 1 : Nat) : Int))
  have c16 := q0.pxN
  generalize (dg v)[len / 8] = x at *
  obtain ⟨v2, hv2⟩ : ∃ v2, (if b then v + 2 ^ (127 - len) else v) = v2 := ⟨_, rfl⟩
  rw [hv2]
  have HV2 := Lib.hid hv2
  clear hv2
  clear hby hor hor2 hu hset
  go_enter Tryd.func31, Tryd.ntmps31
  go_upto_region 1 with (fail)
  rw [← HWA.out]
  have HL1 : Hid ((len : Int) + 1 = ((len + 1 : Nat) : Int)) := Lib.hid (by push_cast; rfl)
  go_upto_region 2 with first
    | ((with_reducible show wpList _ _ _ ({ dst := some 7, op := _, type := _, pos := _, after := _, guard := _ } :: _) _ _); refine wpList_loadK (us := bv (dg v)) rfl rfl rfl aggDg (by rw [sizeDg, bv_dg_len]) q0.pxD ?_)
    | ((with_reducible show wpList _ _ _ ({ dst := some 11, op := _, type := _, pos := _, after := _, guard := _ } :: _) _ _); refine wpList_build2 (vx := dgV v) (vy := .int .i64 ((len + 1 : Nat) : Int)) rfl rfl rfl (by rw [← HL1.out]; rfl) HB1.out ?_)
    | ((with_reducible show wpList _ _ _ ({ dst := some 5, op := _, type := _, pos := _, after := _, guard := _ } :: _) _ _); refine wpList_newRow (vs := pxC v ((len + 1 : Nat) : Int)) rfl rfl rfl rfl (hzero _) (fun _ => rfl) (fun _ => rfl) (by rw [pxC_size, hZs]) (by rw [sizePx, pxC_size]) (one_pxC _ _) ?_; intro w4 g4 hg4 q4 hb4 hl4)
  have hwz : wa.heap.size = w.heap.size + 2 := by rw [HWA.out]; simp
  have h31 : w.heap.size + 2 ≤ g4 := by rw [hg4, hwz]; exact Nat.le_refl _
  clear hg4 hwz
  replace q0 := q0.below hb4
  replace q1 := q1.below hb4
  have hbe := bstep hb0 hb4
  have c16 := q0.pxN
  have c5 := HCB.out _ _ _ q4
  clear hb0 hb4
  cases b
  · have HV3 : Hid (v = v2) := Lib.hid HV2.out
    go_wp2_with first
      | ((with_reducible show wpList _ _ _ ({ dst := some 29, op := _, type := _, pos := _, after := _, guard := _ } :: _) _ _); refine wpList_loadRow rfl rfl rfl q4 aggPx (by rw [sizePx, pxC_size]) ?_)
      | ((with_reducible show wpList _ _ _ ({ dst := none, op := _, type := _, pos := _, after := _, guard := _ } :: _) _ _); refine wpList_put (vs := pxC v ((len + 1 : Nat) : Int)) rfl rfl rfl rfl q1 (by rw [pxC_size, hZs]) (by rw [sizePx, pxC_size]) (one_pxC _ _) ?_; intro w7 ht7 b7)
    exact ret_blk rfl rfl rfl b7 aggPx (by rw [sizePx, pxC_size]) ⟨by rw [← HV3.out]; try first | rfl | (push_cast; rfl), hbe.trans (ht7.below _ (by omega))⟩
  · have HV3 : Hid (v + 2 ^ (127 - len) = v2) := Lib.hid HV2.out
    go_upto_region 3 with fail
    refine wp_region_T 15 (by kernel_rfl) ?_
    -- region 3: 17 operations, tail from 15
    refine WpT.take (i := 0) rfl (by kernel_rfl) (fun _ _ _ h => h) (.inl ⟨by rfl, fun w hSw => by clear hSw; go_simp; (try go_bits); (try rw [if_pos (by omega)]); (try with_reducible rfl)⟩) ((Below.refl _ _).drew) ?_
    try simp only [Act.put, List.setIfInBounds_toArray, List.set_cons_zero, List.set_cons_succ]
    refine WpT.take (i := 1) rfl (by kernel_rfl) (fun _ _ _ h => h) (yields_load rfl rfl rfl (by kernel_rfl) c16) ((Below.refl _ _).drew) ?_
    try simp only [Act.put, List.setIfInBounds_toArray, List.set_cons_zero, List.set_cons_succ]
    refine WpT.take (i := 2) rfl (by kernel_rfl) (fun _ _ _ h => h) (.inl ⟨by rfl, fun w hSw => by clear hSw; go_simp; (try go_bits); (try rw [if_pos (by omega)]); (try with_reducible rfl)⟩) ((Below.refl _ _).drew) ?_
    try simp only [Act.put, List.setIfInBounds_toArray, List.set_cons_zero, List.set_cons_succ]
    refine WpT.take (i := 3) rfl (by kernel_rfl) (fun _ _ _ h => h) (.inl ⟨by rfl, fun w hSw => by clear hSw; go_simp; (try go_bits); (try rw [if_pos (by omega)]); (try with_reducible rfl)⟩) ((Below.refl _ _).drew) ?_
    try simp only [Act.put, List.setIfInBounds_toArray, List.set_cons_zero, List.set_cons_succ]
    refine WpT.take (i := 4) rfl (by kernel_rfl) (fun _ _ _ h => h) (yields_load rfl rfl rfl (by kernel_rfl) c16) ((Below.refl _ _).drew) ?_
    try simp only [Act.put, List.setIfInBounds_toArray, List.set_cons_zero, List.set_cons_succ]
    refine WpT.take (i := 5) rfl (by kernel_rfl) (fun _ _ _ h => h) (.inl ⟨by rfl, fun w hSw => by clear hSw; go_simp; (try go_bits); (try rw [if_pos (by omega)]); (try with_reducible rfl)⟩) ((Below.refl _ _).drew) ?_
    try simp only [Act.put, List.setIfInBounds_toArray, List.set_cons_zero, List.set_cons_succ]
    refine WpT.take (i := 6) rfl (by kernel_rfl) (fun _ _ _ h => h) (.inl ⟨by rfl, fun w hSw => by clear hSw; go_simp; (try go_bits); (try rw [if_pos (by omega)]); (try with_reducible rfl)⟩) ((Below.refl _ _).drew) ?_
    try simp only [Act.put, List.setIfInBounds_toArray, List.set_cons_zero, List.set_cons_succ]
    refine WpT.take (i := 7) rfl (by kernel_rfl) (fun _ _ _ h => h) (.inl ⟨by rfl, fun w hSw => by clear hSw; go_simp; (try go_bits); (try rw [if_pos (by omega)]); (try with_reducible rfl)⟩) ((Below.refl _ _).drew) ?_
    try simp only [Act.put, List.setIfInBounds_toArray, List.set_cons_zero, List.set_cons_succ]
    refine WpT.take (i := 8) rfl (by kernel_rfl) (fun _ _ _ h => h) (yields_load rfl rfl rfl (by kernel_rfl) c5) ((Below.refl _ _).drew) ?_
    try simp only [Act.put, List.setIfInBounds_toArray, List.set_cons_zero, List.set_cons_succ]
    refine WpT.take (i := 9) rfl (by kernel_rfl) (fun _ _ _ h => h) (.inl ⟨by rfl, fun w hSw => by clear hSw; go_simp; (try go_bits); (try rw [if_pos (by omega)]); (try with_reducible rfl)⟩) ((Below.refl _ _).drew) ?_
    try simp only [Act.put, List.setIfInBounds_toArray, List.set_cons_zero, List.set_cons_succ]
    refine WpT.take (i := 10) rfl (by kernel_rfl) (fun _ _ _ h => h) (yields_load rfl rfl rfl (by kernel_rfl) c16) ((Below.refl _ _).drew) ?_
    try simp only [Act.put, List.setIfInBounds_toArray, List.set_cons_zero, List.set_cons_succ]
    refine WpT.take (i := 11) rfl (by kernel_rfl) (fun _ _ _ h => h) (.inl ⟨by rfl, fun w hSw => by clear hSw; go_simp; (try go_bits); (try rw [if_pos (by omega)]); (try with_reducible rfl)⟩) ((Below.refl _ _).drew) ?_
    try simp only [Act.put, List.setIfInBounds_toArray, List.set_cons_zero, List.set_cons_succ]
    refine WpT.take (i := 12) rfl (by kernel_rfl) (fun _ _ _ h => h) (.inl ⟨by rfl, fun w hSw => by clear hSw; go_simp; (try go_bits); (try rw [if_pos (by omega)]); (try with_reducible rfl)⟩) ((Below.refl _ _).drew) ?_
    try simp only [Act.put, List.setIfInBounds_toArray, List.set_cons_zero, List.set_cons_succ]
    refine WpT.take (i := 13) rfl (by kernel_rfl) (fun _ _ _ h => h) (.inl ⟨by rfl, fun w hSw => by clear hSw; go_simp; rw [HOR.out]⟩) ((Below.refl _ _).drew) ?_
    try simp only [Act.put, List.setIfInBounds_toArray, List.set_cons_zero, List.set_cons_succ]
    refine WpT.take (i := 14) rfl (by kernel_rfl) (fun _ _ _ h => h) (.inl ⟨by rfl, fun w hSw => by clear hSw; go_simp; (try go_bits); (try rw [if_pos (by omega)]); (try with_reducible rfl)⟩) ((Below.refl _ _).drew) ?_
    try simp only [Act.put, List.setIfInBounds_toArray, List.set_cons_zero, List.set_cons_succ]
    refine WpT.tail (i := 15) rfl (by kernel_rfl) (by kernel_rfl) (fun K hK => ?_)
    go_simp; rw [if_pos (by omega)]; go_simp
    refine hK _ _ ?_; clear hK K; try simp only [Act.put, List.setIfInBounds_toArray, List.set_cons_zero, List.set_cons_succ]
    refine WpT.tail (i := 16) rfl (by kernel_rfl) (by kernel_rfl) (fun K hK => ?_)
    refine wp_set (g := g4) (j := len / 8) (v := .int .u8 (u.toNat : Nat)) rfl (by kernel_rfl) rfl rfl rfl q4.drew (by rw [pxC_size]; omega) HSET.out ?_; intro w6 ht6 b6
    refine hK _ _ ?_; clear hK K; try simp only [Act.put, List.setIfInBounds_toArray, List.set_cons_zero, List.set_cons_succ]
    refine WpT.done (by kernel_rfl) ?_ _
    skip
    replace q1 := ht6.blk q1.drew (by omega)
    replace hbe := (hbe.drew).trans (ht6.below _ (by omega))
    clear q0 q4 c5 c16 ht6
    go_wp2_with first
      | ((with_reducible show wpList _ _ _ ({ dst := some 29, op := _, type := _, pos := _, after := _, guard := _ } :: _) _ _); refine wpList_loadRow rfl rfl rfl b6 aggPx (by rw [sizePx, pxC_size]) ?_)
      | ((with_reducible show wpList _ _ _ ({ dst := none, op := _, type := _, pos := _, after := _, guard := _ } :: _) _ _); refine wpList_put (vs := pxC (v + 2 ^ (127 - len)) ((len + 1 : Nat) : Int)) rfl rfl rfl rfl q1 (by rw [pxC_size, hZs]) (by rw [sizePx, pxC_size]) (one_pxC _ _) ?_; intro w7 ht7 b7)
    exact ret_blk rfl rfl rfl b7 aggPx (by rw [sizePx, pxC_size]) ⟨by rw [← HV3.out]; try first | rfl | (push_cast; rfl), hbe.trans (ht7.below _ (by omega))⟩
end Go.Proofs.YtieamjjnofelcaaDoor
namespace Go.Proofs.YtieamjjnofelcaaDoor
set_option linter.unusedSimpArgs false
set_option linter.unusedVariables false
open Go.RowKit Exch
/-- The cells of a parcel in a row. -/
structure PaCells (W : World) (x : Addr) (P : Pa) (A : Option Addr) (n c : Nat) : Prop where
  k : W.cell? x = some (.int .i64 P.kind)
  p : ∀ j u, (pxL P.v P.len)[j]? = some u → W.cell? ((⟨x.block, x.off + 1, none⟩ : Addr).add j) = some u
  d : ∀ j u, (bv (dg P.sum))[j]? = some u → W.cell? ((⟨x.block, x.off + 18, none⟩ : Addr).add j) = some u
  cn : W.cell? ⟨x.block, x.off + 34, none⟩ = some (.int .i64 P.count)
  s : W.cell? ⟨x.block, x.off + 35, none⟩ = some (.slice A n c)
  t : W.cell? ⟨x.block, x.off + 36, none⟩ = some (.string P.text)
theorem add_pos (x : Addr) {k : Nat} (hk : 0 < k) : x.add k = ⟨x.block, x.off + k, none⟩ := by
  unfold Addr.add
  rw [if_neg (by omega)]
theorem PaCells.of {W : World} {x : Addr} {P : Pa} {A : Option Addr} {n c : Nat} (h : ∀ j u, (paL P A n c)[j]? = some u → W.cell? (x.add j) = some u) : PaCells W x P A n c := by
  refine ⟨?_, fun j u hj => ?_, fun j u hj => ?_, ?_, ?_, ?_⟩
  · exact h 0 _ rfl
  · have hl := (List.getElem?_eq_some_iff.1 hj).1
    rw [← add_pos x (k := 1) (by omega), add_of_add]
    refine h _ _ ?_
    unfold paL
    rw [List.append_assoc, List.append_assoc, List.getElem?_append_right (by simp), List.getElem?_append_left (by simpa using hl)]
    simpa using hj
  · have hl := (List.getElem?_eq_some_iff.1 hj).1
    rw [← add_pos x (k := 18) (by omega), add_of_add]
    refine h _ _ ?_
    unfold paL
    have h18 : ([Value.int .i64 P.kind] ++ pxL P.v P.len).length = 18 := by simp [pxL, dg_len]
    rw [List.append_assoc, List.getElem?_append_right (by omega), h18, Nat.add_sub_cancel_left, List.getElem?_append_left hl]
    exact hj
  · rw [← add_pos x (k := 34) (by omega)]
    exact h 34 _ (by rw [paL_tail P A n c 0]; rfl)
  · rw [← add_pos x (k := 35) (by omega)]
    exact h 35 _ (paL_names P A n c)
  · rw [← add_pos x (k := 36) (by omega)]
    exact h 36 _ (paL_text P A n c)
theorem paRs_elem {W : World} {A : Option Addr} {rs : List PaR} (h : Rd W A (rs.length * 37) (paRs rs)) {i : Nat} (hi : i < rs.length) : ∃ ad, A = some ad ∧ PaCells W (ad.add (i * 37)) rs[i].p rs[i].A rs[i].n rs[i].c := by
  have e : paRs rs = rs.flatMap PaR.cells := by simp only [paRs, List.flatMap_def]
  rw [e] at h
  obtain ⟨ad, e1, h1⟩ := Rd.elem (f := PaR.cells) (k := 37) (fun r => paL_len r.p r.A r.n r.c) (by omega) h hi
  exact ⟨ad, e1, PaCells.of h1⟩
set_option maxRecDepth 20000 in
set_option maxHeartbeats 4000000 in
theorem sameParcels_any (a b : List PaR) (A : Option Addr) (n c : Nat) (B : Option Addr) (m d : Nat) (w : World) (hla : a.length = n) (ha : Rd w A (n * 37) (paRs a)) (hlb : b.length = m) (hb : Rd w B (m * 37) (paRs b)) (hn : n ≤ 3000) (he : a.map (·.p) = b.map (·.p))
    (hna : ∀ r ∈ a, RdD w r.A r.n r.p.names) (hnb : ∀ r ∈ b, RdD w r.A r.n r.p.names) (hok : ∀ r ∈ a, PaOk r.p) :
    Calls Tryd.prog 28 #[.slice A n c, .slice B m d] w fun e w' => e = .returned (.bool true) ∧ Below w.heap.size w w' := by
  have hnm : n = m := by have := congrArg List.length he; simp at this; omega
  subst hnm
  have HA := Lib.hid ha
  have HB := Lib.hid hb
  have HLA := Lib.hid hla
  have HLB := Lib.hid hlb
  have HE := Lib.hid he
  have HNA := Lib.hid hna
  have HNB := Lib.hid hnb
  have HOK := Lib.hid hok
  clear ha hb hla hlb he hna hnb hok
  have dn : ((n : Int) != n) = false := by simp
  go_enter Tryd.func28, Tryd.ntmps28
  go_wp2_with fail
  go_loopw [5] (fun vk wr => ∃ k : Nat, k ≤ n ∧ vk = .int .i64 k ∧ Below w.heap.size w wr) (fun vk _ => n - (intOf vk).toNat)
  case atStart => exact ⟨0, Nat.zero_le _, rfl, Below.refl _ _⟩
  case round =>
    obtain ⟨k, hk, rfl, hbw⟩ := hrel
    by_cases hlt : k < n
    · have hka : k < a.length := by have := HLA.out; omega
      have hkb : k < b.length := by have := HLB.out; omega
      obtain ⟨ad, rfl, hca⟩ := paRs_elem (W := wr) (rs := a) (by rw [HLA.out]; exact HA.out.below hbw) hka
      obtain ⟨bd, rfl, hcb⟩ := paRs_elem (W := wr) (rs := b) (by rw [HLB.out]; exact HB.out.below hbw) hkb
      have hpe : a[k].p = b[k].p := by
        have h := HE.out
        have h1 : (a.map (·.p))[k]? = (b.map (·.p))[k]? := by rw [h]
        simpa [List.getElem?_eq_getElem hka, List.getElem?_eq_getElem hkb] using h1
      have hra := (HNA.out _ (List.getElem_mem hka)).below hbw
      have hrb := (HNB.out _ (List.getElem_mem hkb)).below hbw
      have hok := HOK.out _ (List.getElem_mem hka)
      rw [← hpe] at hcb hrb
      clear hpe
      generalize a[k] = xa at *
      generalize b[k] = xb at *
      obtain ⟨P, An, na, ca⟩ := xa
      obtain ⟨Q, Bn, nb, cb⟩ := xb
      dsimp only at hca hcb hra hrb hok
      have HSN := Lib.hid (fun W (hW : Below wr.heap.size wr W) => sameNames_any P.names P.names An na ca Bn nb cb W (hra.below hW) (hrb.below hW) (by have := hra.len; have := hok.len; omega) (by have := hrb.len; have := hok.len; omega) hok.lt hok.lt)
      have hneP : ∀ W, (binOp .neq 28 (pxV P.v P.len) (pxV P.v P.len)).run Tryd.prog W = .ok (.bool false) W := fun W => by rw [neq_Px hok.v hok.v, (eqP_iff (v := P.v) (n := P.len)).2 ⟨rfl, rfl⟩]; rfl
      have hneD : ∀ W, (binOp .neq 26 (dgV P.sum) (dgV P.sum)).run Tryd.prog W = .ok (.bool false) W := fun W => by rw [neq_Dg hok.sum hok.sum]; simp
      obtain ⟨ak, ap, ad2, an, as_, at_⟩ := hca
      obtain ⟨bk, bp, bd2, bn, bs, bt⟩ := hcb
      clear hra hrb hok
      have hS : Below wr.heap.size wr wr.drew := (Below.refl _ _).drew
      go_upto_region 6 with fail
      refine wp_region_TB (S := Below (wr).heap.size (wr)) 77 (by kernel_rfl) ?_
      -- region 6: 77 operations, tail from 77
      refine WpT.take (i := 0) rfl (by kernel_rfl) (fun _ _ _ h => h) (.inl ⟨by rfl, fun w hSw => by clear hSw; go_simp; (try go_bits); (try rw [if_pos (by omega)]); (try with_reducible rfl)⟩) (hS) ?_
      try simp only [Act.put, List.setIfInBounds_toArray, List.set_cons_zero, List.set_cons_succ]
      refine WpT.take (i := 1) rfl (by kernel_rfl) (fun _ _ _ h => h) (.inl ⟨by rfl, fun w hSw => by clear hSw; go_simp; (try go_bits); (try rw [if_pos (by omega)]); (try with_reducible rfl)⟩) (hS) ?_
      try simp only [Act.put, List.setIfInBounds_toArray, List.set_cons_zero, List.set_cons_succ]
      refine WpT.take (i := 2) rfl (by kernel_rfl) (fun _ _ _ h => h) (.inl ⟨by rfl, fun w hSw => by clear hSw; go_simp; (try go_bits); (try rw [if_pos (by omega)]); (try with_reducible rfl)⟩) (hS) ?_
      try simp only [Act.put, List.setIfInBounds_toArray, List.set_cons_zero, List.set_cons_succ]
      refine WpT.take (i := 3) rfl (by kernel_rfl) (fun _ _ _ h => h) (.inl ⟨by rfl, fun w hSw => by clear hSw; go_simp; (try go_bits); (try rw [if_pos (by omega)]); (try with_reducible rfl)⟩) (hS) ?_
      try simp only [Act.put, List.setIfInBounds_toArray, List.set_cons_zero, List.set_cons_succ]
      refine WpT.take (i := 4) rfl (by kernel_rfl) (fun _ _ _ h => h) (yields_load rfl rfl rfl (by kernel_rfl) ak) (hS) ?_
      try simp only [Act.put, List.setIfInBounds_toArray, List.set_cons_zero, List.set_cons_succ]
      refine WpT.take (i := 5) rfl (by kernel_rfl) (fun _ _ _ h => h) (.inl ⟨by rfl, fun w hSw => by clear hSw; go_simp; (try go_bits); (try rw [if_pos (by omega)]); (try with_reducible rfl)⟩) (hS) ?_
      try simp only [Act.put, List.setIfInBounds_toArray, List.set_cons_zero, List.set_cons_succ]
      refine WpT.take (i := 6) rfl (by kernel_rfl) (fun _ _ _ h => h) (.inl ⟨by rfl, fun w hSw => by clear hSw; go_simp; (try go_bits); (try rw [if_pos (by omega)]); (try with_reducible rfl)⟩) (hS) ?_
      try simp only [Act.put, List.setIfInBounds_toArray, List.set_cons_zero, List.set_cons_succ]
      refine WpT.take (i := 7) rfl (by kernel_rfl) (fun _ _ _ h => h) (.inl ⟨by rfl, fun w hSw => by clear hSw; go_simp; (try go_bits); (try rw [if_pos (by omega)]); (try with_reducible rfl)⟩) (hS) ?_
      try simp only [Act.put, List.setIfInBounds_toArray, List.set_cons_zero, List.set_cons_succ]
      refine WpT.take (i := 8) rfl (by kernel_rfl) (fun _ _ _ h => h) (.inl ⟨by rfl, fun w hSw => by clear hSw; go_simp; (try go_bits); (try rw [if_pos (by omega)]); (try with_reducible rfl)⟩) (hS) ?_
      try simp only [Act.put, List.setIfInBounds_toArray, List.set_cons_zero, List.set_cons_succ]
      refine WpT.take (i := 9) rfl (by kernel_rfl) (fun _ _ _ h => h) (yields_load rfl rfl rfl (by kernel_rfl) bk) (hS) ?_
      try simp only [Act.put, List.setIfInBounds_toArray, List.set_cons_zero, List.set_cons_succ]
      refine WpT.take (i := 10) rfl (by kernel_rfl) (fun _ _ _ h => h) (.inl ⟨by rfl, fun w hSw => by clear hSw; go_simp; (try go_bits); (try rw [if_pos (by omega)]); (try with_reducible rfl)⟩) (hS) ?_
      try simp only [Act.put, List.setIfInBounds_toArray, List.set_cons_zero, List.set_cons_succ]
      refine WpT.take (i := 11) rfl (by kernel_rfl) (fun _ _ _ h => h) (.inl ⟨by rfl, fun w hSw => by clear hSw; go_simp; (try go_bits); (try rw [if_pos (by omega)]); (try with_reducible rfl)⟩) (hS) ?_
      try simp only [Act.put, List.setIfInBounds_toArray, List.set_cons_zero, List.set_cons_succ]
      refine WpT.take (i := 12) rfl (by kernel_rfl) (fun _ _ _ h => h) (.inl ⟨by rfl, fun w hSw => by clear hSw; go_simp; (try go_bits); (try rw [if_pos (by omega)]); (try with_reducible rfl)⟩) (hS) ?_
      try simp only [Act.put, List.setIfInBounds_toArray, List.set_cons_zero, List.set_cons_succ]
      refine WpT.take (i := 13) rfl (by kernel_rfl) (fun _ _ _ h => h) (.inl ⟨by rfl, fun w hSw => by clear hSw; go_simp; (try go_bits); (try rw [if_pos (by omega)]); (try with_reducible rfl)⟩) (hS) ?_
      try simp only [Act.put, List.setIfInBounds_toArray, List.set_cons_zero, List.set_cons_succ]
      refine WpT.take (i := 14) rfl (by kernel_rfl) (fun _ _ _ h => h) (.inl ⟨by rfl, fun w hSw => by clear hSw; go_simp; (try go_bits); (try rw [if_pos (by omega)]); (try with_reducible rfl)⟩) (hS) ?_
      try simp only [Act.put, List.setIfInBounds_toArray, List.set_cons_zero, List.set_cons_succ]
      refine WpT.take (i := 15) rfl (by kernel_rfl) (fun _ _ _ h => h) (.inl ⟨by rfl, fun w hSw => by clear hSw; go_simp; (try go_bits); (try rw [if_pos (by omega)]); (try with_reducible rfl)⟩) (hS) ?_
      try simp only [Act.put, List.setIfInBounds_toArray, List.set_cons_zero, List.set_cons_succ]
      refine WpT.take (i := 16) rfl (by kernel_rfl) (fun _ _ _ h => h) (yields_loadKW (us := pxL P.v P.len) (by rfl) rfl rfl aggPx (by rw [sizePx, pxL_len]) ap) (hS) ?_
      try simp only [Act.put, List.setIfInBounds_toArray, List.set_cons_zero, List.set_cons_succ]
      refine WpT.take (i := 17) rfl (by kernel_rfl) (fun _ _ _ h => h) (.inl ⟨by rfl, fun w hSw => by clear hSw; go_simp; (try go_bits); (try rw [if_pos (by omega)]); (try with_reducible rfl)⟩) (hS) ?_
      try simp only [Act.put, List.setIfInBounds_toArray, List.set_cons_zero, List.set_cons_succ]
      refine WpT.take (i := 18) rfl (by kernel_rfl) (fun _ _ _ h => h) (.inl ⟨by rfl, fun w hSw => by clear hSw; go_simp; (try go_bits); (try rw [if_pos (by omega)]); (try with_reducible rfl)⟩) (hS) ?_
      try simp only [Act.put, List.setIfInBounds_toArray, List.set_cons_zero, List.set_cons_succ]
      refine WpT.take (i := 19) rfl (by kernel_rfl) (fun _ _ _ h => h) (.inl ⟨by rfl, fun w hSw => by clear hSw; go_simp; (try go_bits); (try rw [if_pos (by omega)]); (try with_reducible rfl)⟩) (hS) ?_
      try simp only [Act.put, List.setIfInBounds_toArray, List.set_cons_zero, List.set_cons_succ]
      refine WpT.take (i := 20) rfl (by kernel_rfl) (fun _ _ _ h => h) (.inl ⟨by rfl, fun w hSw => by clear hSw; go_simp; (try go_bits); (try rw [if_pos (by omega)]); (try with_reducible rfl)⟩) (hS) ?_
      try simp only [Act.put, List.setIfInBounds_toArray, List.set_cons_zero, List.set_cons_succ]
      refine WpT.take (i := 21) rfl (by kernel_rfl) (fun _ _ _ h => h) (yields_loadKW (us := pxL P.v P.len) (by rfl) rfl rfl aggPx (by rw [sizePx, pxL_len]) bp) (hS) ?_
      try simp only [Act.put, List.setIfInBounds_toArray, List.set_cons_zero, List.set_cons_succ]
      refine WpT.take (i := 22) rfl (by kernel_rfl) (fun _ _ _ h => h) (.inl ⟨by rfl, fun w hSw => by clear hSw; go_simp; (try go_bits); (try rw [if_pos (by omega)]); (try with_reducible rfl)⟩) (hS) ?_
      try simp only [Act.put, List.setIfInBounds_toArray, List.set_cons_zero, List.set_cons_succ]
      refine WpT.take (i := 23) rfl (by kernel_rfl) (fun _ _ _ h => h) (.inl ⟨by rfl, fun w hSw => by clear hSw; go_simp; (try go_bits); (try rw [if_pos (by omega)]); (try with_reducible rfl)⟩) (hS) ?_
      try simp only [Act.put, List.setIfInBounds_toArray, List.set_cons_zero, List.set_cons_succ]
      refine WpT.take (i := 24) rfl (by kernel_rfl) (fun _ _ _ h => h) (.inl ⟨by rfl, fun w hSw => by clear hSw; go_simp; (try go_bits); (try rw [if_pos (by omega)]); (try with_reducible rfl)⟩) (hS) ?_
      try simp only [Act.put, List.setIfInBounds_toArray, List.set_cons_zero, List.set_cons_succ]
      refine WpT.take (i := 25) rfl (by kernel_rfl) (fun _ _ _ h => h) (.inl ⟨by rfl, fun w hSw => by clear hSw; go_simp; (try go_bits); (try rw [if_pos (by omega)]); (try with_reducible rfl)⟩) (hS) ?_
      try simp only [Act.put, List.setIfInBounds_toArray, List.set_cons_zero, List.set_cons_succ]
      refine WpT.take (i := 26) rfl (by kernel_rfl) (fun _ _ _ h => h) (.inl ⟨by rfl, fun w hSw => by clear hSw; go_simp; (try go_bits); (try rw [if_pos (by omega)]); (try with_reducible rfl)⟩) (hS) ?_
      try simp only [Act.put, List.setIfInBounds_toArray, List.set_cons_zero, List.set_cons_succ]
      refine WpT.take (i := 27) rfl (by kernel_rfl) (fun _ _ _ h => h) (.inl ⟨by rfl, fun w hSw => by clear hSw; go_simp; (try go_bits); (try rw [if_pos (by omega)]); (try with_reducible rfl)⟩) (hS) ?_
      try simp only [Act.put, List.setIfInBounds_toArray, List.set_cons_zero, List.set_cons_succ]
      refine WpT.take (i := 28) rfl (by kernel_rfl) (fun _ _ _ h => h) (.inl ⟨by rfl, fun w hSw => by clear hSw; go_simp; (try go_bits); (try rw [if_pos (by omega)]); (try with_reducible rfl)⟩) (hS) ?_
      try simp only [Act.put, List.setIfInBounds_toArray, List.set_cons_zero, List.set_cons_succ]
      refine WpT.take (i := 29) rfl (by kernel_rfl) (fun _ _ _ h => h) (yields_loadKW (us := bv (dg P.sum)) (by rfl) rfl rfl aggDg (by rw [sizeDg, bv_dg_len]) ad2) (hS) ?_
      try simp only [Act.put, List.setIfInBounds_toArray, List.set_cons_zero, List.set_cons_succ]
      refine WpT.take (i := 30) rfl (by kernel_rfl) (fun _ _ _ h => h) (.inl ⟨by rfl, fun w hSw => by clear hSw; go_simp; (try go_bits); (try rw [if_pos (by omega)]); (try with_reducible rfl)⟩) (hS) ?_
      try simp only [Act.put, List.setIfInBounds_toArray, List.set_cons_zero, List.set_cons_succ]
      refine WpT.take (i := 31) rfl (by kernel_rfl) (fun _ _ _ h => h) (.inl ⟨by rfl, fun w hSw => by clear hSw; go_simp; (try go_bits); (try rw [if_pos (by omega)]); (try with_reducible rfl)⟩) (hS) ?_
      try simp only [Act.put, List.setIfInBounds_toArray, List.set_cons_zero, List.set_cons_succ]
      refine WpT.take (i := 32) rfl (by kernel_rfl) (fun _ _ _ h => h) (.inl ⟨by rfl, fun w hSw => by clear hSw; go_simp; (try go_bits); (try rw [if_pos (by omega)]); (try with_reducible rfl)⟩) (hS) ?_
      try simp only [Act.put, List.setIfInBounds_toArray, List.set_cons_zero, List.set_cons_succ]
      refine WpT.take (i := 33) rfl (by kernel_rfl) (fun _ _ _ h => h) (.inl ⟨by rfl, fun w hSw => by clear hSw; go_simp; (try go_bits); (try rw [if_pos (by omega)]); (try with_reducible rfl)⟩) (hS) ?_
      try simp only [Act.put, List.setIfInBounds_toArray, List.set_cons_zero, List.set_cons_succ]
      refine WpT.take (i := 34) rfl (by kernel_rfl) (fun _ _ _ h => h) (yields_loadKW (us := bv (dg P.sum)) (by rfl) rfl rfl aggDg (by rw [sizeDg, bv_dg_len]) bd2) (hS) ?_
      try simp only [Act.put, List.setIfInBounds_toArray, List.set_cons_zero, List.set_cons_succ]
      refine WpT.take (i := 35) rfl (by kernel_rfl) (fun _ _ _ h => h) (.inl ⟨by rfl, fun w hSw => by clear hSw; go_simp; (try go_bits); (try rw [if_pos (by omega)]); (try with_reducible rfl)⟩) (hS) ?_
      try simp only [Act.put, List.setIfInBounds_toArray, List.set_cons_zero, List.set_cons_succ]
      refine WpT.take (i := 36) rfl (by kernel_rfl) (fun _ _ _ h => h) (.inl ⟨by rfl, fun w hSw => by clear hSw; go_simp; (try go_bits); (try rw [if_pos (by omega)]); (try with_reducible rfl)⟩) (hS) ?_
      try simp only [Act.put, List.setIfInBounds_toArray, List.set_cons_zero, List.set_cons_succ]
      refine WpT.take (i := 37) rfl (by kernel_rfl) (fun _ _ _ h => h) (.inl ⟨by rfl, fun w hSw => by clear hSw; go_simp; (try go_bits); (try rw [if_pos (by omega)]); (try with_reducible rfl)⟩) (hS) ?_
      try simp only [Act.put, List.setIfInBounds_toArray, List.set_cons_zero, List.set_cons_succ]
      refine WpT.take (i := 38) rfl (by kernel_rfl) (fun _ _ _ h => h) (.inl ⟨by rfl, fun w hSw => by clear hSw; go_simp; (try go_bits); (try rw [if_pos (by omega)]); (try with_reducible rfl)⟩) (hS) ?_
      try simp only [Act.put, List.setIfInBounds_toArray, List.set_cons_zero, List.set_cons_succ]
      refine WpT.take (i := 39) rfl (by kernel_rfl) (fun _ _ _ h => h) (.inl ⟨by rfl, fun w hSw => by clear hSw; go_simp; (try go_bits); (try rw [if_pos (by omega)]); (try with_reducible rfl)⟩) (hS) ?_
      try simp only [Act.put, List.setIfInBounds_toArray, List.set_cons_zero, List.set_cons_succ]
      refine WpT.take (i := 40) rfl (by kernel_rfl) (fun _ _ _ h => h) (.inl ⟨by rfl, fun w hSw => by clear hSw; go_simp; (try go_bits); (try rw [if_pos (by omega)]); (try with_reducible rfl)⟩) (hS) ?_
      try simp only [Act.put, List.setIfInBounds_toArray, List.set_cons_zero, List.set_cons_succ]
      refine WpT.take (i := 41) rfl (by kernel_rfl) (fun _ _ _ h => h) (.inl ⟨by rfl, fun w hSw => by clear hSw; go_simp; (try go_bits); (try rw [if_pos (by omega)]); (try with_reducible rfl)⟩) (hS) ?_
      try simp only [Act.put, List.setIfInBounds_toArray, List.set_cons_zero, List.set_cons_succ]
      refine WpT.take (i := 42) rfl (by kernel_rfl) (fun _ _ _ h => h) (yields_loadW (by rfl) rfl rfl (by kernel_rfl) an) (hS) ?_
      try simp only [Act.put, List.setIfInBounds_toArray, List.set_cons_zero, List.set_cons_succ]
      refine WpT.take (i := 43) rfl (by kernel_rfl) (fun _ _ _ h => h) (.inl ⟨by rfl, fun w hSw => by clear hSw; go_simp; (try go_bits); (try rw [if_pos (by omega)]); (try with_reducible rfl)⟩) (hS) ?_
      try simp only [Act.put, List.setIfInBounds_toArray, List.set_cons_zero, List.set_cons_succ]
      refine WpT.take (i := 44) rfl (by kernel_rfl) (fun _ _ _ h => h) (.inl ⟨by rfl, fun w hSw => by clear hSw; go_simp; (try go_bits); (try rw [if_pos (by omega)]); (try with_reducible rfl)⟩) (hS) ?_
      try simp only [Act.put, List.setIfInBounds_toArray, List.set_cons_zero, List.set_cons_succ]
      refine WpT.take (i := 45) rfl (by kernel_rfl) (fun _ _ _ h => h) (.inl ⟨by rfl, fun w hSw => by clear hSw; go_simp; (try go_bits); (try rw [if_pos (by omega)]); (try with_reducible rfl)⟩) (hS) ?_
      try simp only [Act.put, List.setIfInBounds_toArray, List.set_cons_zero, List.set_cons_succ]
      refine WpT.take (i := 46) rfl (by kernel_rfl) (fun _ _ _ h => h) (.inl ⟨by rfl, fun w hSw => by clear hSw; go_simp; (try go_bits); (try rw [if_pos (by omega)]); (try with_reducible rfl)⟩) (hS) ?_
      try simp only [Act.put, List.setIfInBounds_toArray, List.set_cons_zero, List.set_cons_succ]
      refine WpT.take (i := 47) rfl (by kernel_rfl) (fun _ _ _ h => h) (yields_loadW (by rfl) rfl rfl (by kernel_rfl) bn) (hS) ?_
      try simp only [Act.put, List.setIfInBounds_toArray, List.set_cons_zero, List.set_cons_succ]
      refine WpT.take (i := 48) rfl (by kernel_rfl) (fun _ _ _ h => h) (.inl ⟨by rfl, fun w hSw => by clear hSw; go_simp; (try go_bits); (try rw [if_pos (by omega)]); (try with_reducible rfl)⟩) (hS) ?_
      try simp only [Act.put, List.setIfInBounds_toArray, List.set_cons_zero, List.set_cons_succ]
      refine WpT.take (i := 49) rfl (by kernel_rfl) (fun _ _ _ h => h) (.inl ⟨by rfl, fun w hSw => by clear hSw; go_simp; (try go_bits); (try rw [if_pos (by omega)]); (try with_reducible rfl)⟩) (hS) ?_
      try simp only [Act.put, List.setIfInBounds_toArray, List.set_cons_zero, List.set_cons_succ]
      refine WpT.take (i := 50) rfl (by kernel_rfl) (fun _ _ _ h => h) (.inl ⟨by rfl, fun w hSw => by clear hSw; go_simp; (try go_bits); (try rw [if_pos (by omega)]); (try with_reducible rfl)⟩) (hS) ?_
      try simp only [Act.put, List.setIfInBounds_toArray, List.set_cons_zero, List.set_cons_succ]
      refine WpT.take (i := 51) rfl (by kernel_rfl) (fun _ _ _ h => h) (.inl ⟨by rfl, fun w hSw => by clear hSw; go_simp; (try go_bits); (try rw [if_pos (by omega)]); (try with_reducible rfl)⟩) (hS) ?_
      try simp only [Act.put, List.setIfInBounds_toArray, List.set_cons_zero, List.set_cons_succ]
      refine WpT.take (i := 52) rfl (by kernel_rfl) (fun _ _ _ h => h) (.inl ⟨by rfl, fun w hSw => by clear hSw; go_simp; (try go_bits); (try rw [if_pos (by omega)]); (try with_reducible rfl)⟩) (hS) ?_
      try simp only [Act.put, List.setIfInBounds_toArray, List.set_cons_zero, List.set_cons_succ]
      refine WpT.take (i := 53) rfl (by kernel_rfl) (fun _ _ _ h => h) (.inl ⟨by rfl, fun w hSw => by clear hSw; go_simp; (try go_bits); (try rw [if_pos (by omega)]); (try with_reducible rfl)⟩) (hS) ?_
      try simp only [Act.put, List.setIfInBounds_toArray, List.set_cons_zero, List.set_cons_succ]
      refine WpT.take (i := 54) rfl (by kernel_rfl) (fun _ _ _ h => h) (.inl ⟨by rfl, fun w hSw => by clear hSw; go_simp; (try go_bits); (try rw [if_pos (by omega)]); (try with_reducible rfl)⟩) (hS) ?_
      try simp only [Act.put, List.setIfInBounds_toArray, List.set_cons_zero, List.set_cons_succ]
      refine WpT.take (i := 55) rfl (by kernel_rfl) (fun _ _ _ h => h) (yields_loadW (by rfl) rfl rfl (by kernel_rfl) at_) (hS) ?_
      try simp only [Act.put, List.setIfInBounds_toArray, List.set_cons_zero, List.set_cons_succ]
      refine WpT.take (i := 56) rfl (by kernel_rfl) (fun _ _ _ h => h) (.inl ⟨by rfl, fun w hSw => by clear hSw; go_simp; (try go_bits); (try rw [if_pos (by omega)]); (try with_reducible rfl)⟩) (hS) ?_
      try simp only [Act.put, List.setIfInBounds_toArray, List.set_cons_zero, List.set_cons_succ]
      refine WpT.take (i := 57) rfl (by kernel_rfl) (fun _ _ _ h => h) (.inl ⟨by rfl, fun w hSw => by clear hSw; go_simp; (try go_bits); (try rw [if_pos (by omega)]); (try with_reducible rfl)⟩) (hS) ?_
      try simp only [Act.put, List.setIfInBounds_toArray, List.set_cons_zero, List.set_cons_succ]
      refine WpT.take (i := 58) rfl (by kernel_rfl) (fun _ _ _ h => h) (.inl ⟨by rfl, fun w hSw => by clear hSw; go_simp; (try go_bits); (try rw [if_pos (by omega)]); (try with_reducible rfl)⟩) (hS) ?_
      try simp only [Act.put, List.setIfInBounds_toArray, List.set_cons_zero, List.set_cons_succ]
      refine WpT.take (i := 59) rfl (by kernel_rfl) (fun _ _ _ h => h) (.inl ⟨by rfl, fun w hSw => by clear hSw; go_simp; (try go_bits); (try rw [if_pos (by omega)]); (try with_reducible rfl)⟩) (hS) ?_
      try simp only [Act.put, List.setIfInBounds_toArray, List.set_cons_zero, List.set_cons_succ]
      refine WpT.take (i := 60) rfl (by kernel_rfl) (fun _ _ _ h => h) (yields_loadW (by rfl) rfl rfl (by kernel_rfl) bt) (hS) ?_
      try simp only [Act.put, List.setIfInBounds_toArray, List.set_cons_zero, List.set_cons_succ]
      refine WpT.take (i := 61) rfl (by kernel_rfl) (fun _ _ _ h => h) (.inl ⟨by rfl, fun w hSw => by clear hSw; go_simp; (try go_bits); (try rw [if_pos (by omega)]); (try with_reducible rfl)⟩) (hS) ?_
      try simp only [Act.put, List.setIfInBounds_toArray, List.set_cons_zero, List.set_cons_succ]
      refine WpT.take (i := 62) rfl (by kernel_rfl) (fun _ _ _ h => h) (.inl ⟨by rfl, fun w hSw => by clear hSw; go_simp; (try go_bits); (try rw [if_pos (by omega)]); (try with_reducible rfl)⟩) (hS) ?_
      try simp only [Act.put, List.setIfInBounds_toArray, List.set_cons_zero, List.set_cons_succ]
      refine WpT.take (i := 63) rfl (by kernel_rfl) (fun _ _ _ h => h) (.inl ⟨by rfl, fun w hSw => by clear hSw; go_simp; (try go_bits); (try rw [if_pos (by omega)]); (try with_reducible rfl)⟩) (hS) ?_
      try simp only [Act.put, List.setIfInBounds_toArray, List.set_cons_zero, List.set_cons_succ]
      refine WpT.take (i := 64) rfl (by kernel_rfl) (fun _ _ _ h => h) (.inl ⟨by rfl, fun w hSw => by clear hSw; go_simp; (try go_bits); (try rw [if_pos (by omega)]); (try with_reducible rfl)⟩) (hS) ?_
      try simp only [Act.put, List.setIfInBounds_toArray, List.set_cons_zero, List.set_cons_succ]
      refine WpT.take (i := 65) rfl (by kernel_rfl) (fun _ _ _ h => h) (.inl ⟨by rfl, fun w hSw => by clear hSw; go_simp; (try go_bits); (try rw [if_pos (by omega)]); (try with_reducible rfl)⟩) (hS) ?_
      try simp only [Act.put, List.setIfInBounds_toArray, List.set_cons_zero, List.set_cons_succ]
      refine WpT.take (i := 66) rfl (by kernel_rfl) (fun _ _ _ h => h) (.inl ⟨by rfl, fun w hSw => by clear hSw; go_simp; (try go_bits); (try rw [if_pos (by omega)]); (try with_reducible rfl)⟩) (hS) ?_
      try simp only [Act.put, List.setIfInBounds_toArray, List.set_cons_zero, List.set_cons_succ]
      refine WpT.take (i := 67) rfl (by kernel_rfl) (fun _ _ _ h => h) (.inl ⟨by rfl, fun w hSw => by clear hSw; go_simp; (try go_bits); (try rw [if_pos (by omega)]); (try with_reducible rfl)⟩) (hS) ?_
      try simp only [Act.put, List.setIfInBounds_toArray, List.set_cons_zero, List.set_cons_succ]
      refine WpT.take (i := 68) rfl (by kernel_rfl) (fun _ _ _ h => h) (yields_loadW (by rfl) rfl rfl (by kernel_rfl) as_) (hS) ?_
      try simp only [Act.put, List.setIfInBounds_toArray, List.set_cons_zero, List.set_cons_succ]
      refine WpT.take (i := 69) rfl (by kernel_rfl) (fun _ _ _ h => h) (.inl ⟨by rfl, fun w hSw => by clear hSw; go_simp; (try go_bits); (try rw [if_pos (by omega)]); (try with_reducible rfl)⟩) (hS) ?_
      try simp only [Act.put, List.setIfInBounds_toArray, List.set_cons_zero, List.set_cons_succ]
      refine WpT.take (i := 70) rfl (by kernel_rfl) (fun _ _ _ h => h) (.inl ⟨by rfl, fun w hSw => by clear hSw; go_simp; (try go_bits); (try rw [if_pos (by omega)]); (try with_reducible rfl)⟩) (hS) ?_
      try simp only [Act.put, List.setIfInBounds_toArray, List.set_cons_zero, List.set_cons_succ]
      refine WpT.take (i := 71) rfl (by kernel_rfl) (fun _ _ _ h => h) (.inl ⟨by rfl, fun w hSw => by clear hSw; go_simp; (try go_bits); (try rw [if_pos (by omega)]); (try with_reducible rfl)⟩) (hS) ?_
      try simp only [Act.put, List.setIfInBounds_toArray, List.set_cons_zero, List.set_cons_succ]
      refine WpT.take (i := 72) rfl (by kernel_rfl) (fun _ _ _ h => h) (.inl ⟨by rfl, fun w hSw => by clear hSw; go_simp; (try go_bits); (try rw [if_pos (by omega)]); (try with_reducible rfl)⟩) (hS) ?_
      try simp only [Act.put, List.setIfInBounds_toArray, List.set_cons_zero, List.set_cons_succ]
      refine WpT.take (i := 73) rfl (by kernel_rfl) (fun _ _ _ h => h) (yields_loadW (by rfl) rfl rfl (by kernel_rfl) bs) (hS) ?_
      try simp only [Act.put, List.setIfInBounds_toArray, List.set_cons_zero, List.set_cons_succ]
      refine WpT.one (i := 74) rfl (by kernel_rfl) (fun K hK => ?_)
      go_simp; refine (HSN.out _ hS).mono ?_; rintro e w3 ⟨rfl, hb3⟩; rw [decide_eq_true (Eq.refl P.names)]; replace hS := bstep hS hb3
      refine hK _ _ (hS) ?_; clear hK K; try simp only [Act.put, List.setIfInBounds_toArray, List.set_cons_zero, List.set_cons_succ]
      refine WpT.take (i := 75) rfl (by kernel_rfl) (fun _ _ _ h => h) (.inl ⟨by rfl, fun w hSw => by clear hSw; go_simp; (try go_bits); (try rw [if_pos (by omega)]); (try with_reducible rfl)⟩) (hS) ?_
      try simp only [Act.put, List.setIfInBounds_toArray, List.set_cons_zero, List.set_cons_succ]
      refine WpT.take (i := 76) rfl (by kernel_rfl) (fun _ _ _ h => h) (.inl ⟨by rfl, fun w hSw => by clear hSw; go_simp; (try go_bits); (try rw [if_pos (by omega)]); (try with_reducible rfl)⟩) (hS) ?_
      try simp only [Act.put, List.setIfInBounds_toArray, List.set_cons_zero, List.set_cons_succ]
      refine WpT.done (by kernel_rfl) ?_ _
      skip
      have hbn := bstep hbw hS
      go_wp2_with fail
      exact ⟨⟨k + 1, by omega, by go_num, hbn⟩, by simp [intOf]; omega⟩
    · obtain rfl : k = n := by omega
      go_wp2_with fail
      go_ret
      exact ⟨rfl, hbw⟩
end Go.Proofs.YtieamjjnofelcaaDoor
namespace Go.Proofs.YtieamjjnofelcaaDoor
set_option linter.unusedSimpArgs false
set_option linter.unusedVariables false
open Go.RowKit Exch
theorem place_false {l : List It} {z : Nat} (hs : SortedN (nms l)) (h : knownN z (nms l) = false) : place l z = -1 := by
  have hn := (known_false hs).1 h
  unfold place
  rw [List.findIdx?_eq_none_iff.2 (fun x hx => by simp only [decide_eq_false_iff_not]; exact fun e => hn (e ▸ List.mem_map_of_mem hx))]
theorem place_true {l : List It} {z : Nat} (hs : SortedN (nms l)) (h : knownN z (nms l) = true) : 0 ≤ place l z := by
  obtain ⟨x, hx, e⟩ := List.mem_map.1 ((known_mem hs).1 h)
  unfold place
  cases hf : l.findIdx? (fun x => decide (x.nm = z)) with
  | none =>
    have := List.findIdx?_eq_none_iff.1 hf x hx
    simp at this
    exact absurd e this
  | some k => exact Int.natCast_nonneg k
abbrev didC (A : Option Addr) (n c : Nat) (vo : Value) (e : Int) : Array Value := #[.slice A n c, vo, .int .i64 e]
theorem aggDid : (Tryd.prog.underlying 41).map isAggDesc = some true := by kernel_rfl
theorem sizeDid : (Tryd.prog.info? 41).map (·.size) = some 3 := by kernel_rfl
theorem zeroDid (W : World) : (zeroValue 41).run Tryd.prog W = .ok (.agg (didC none 0 0 (.slice none 0 0) 0)) W := by kernel_rfl
theorem build_did02 (A : Option Addr) (n c : Nat) (e : Int) (W : World) : (Instr.build 41 #[(0, stV A n c), (2, .int .i64 e)]).run Tryd.prog W = .ok (.agg (didC A n c (.slice none 0 0) e)) W := by kernel_rfl
theorem build_did0 (A : Option Addr) (n c : Nat) (W : World) : (Instr.build 41 #[(0, stV A n c)]).run Tryd.prog W = .ok (.agg (didC A n c (.slice none 0 0) 0)) W := by kernel_rfl
theorem one_didC0 (A : Option Addr) (n c : Nat) (e : Int) : (didC A n c (.slice none 0 0) e).all (·.oneCell') = true := by simp [Value.oneCell']
theorem own_one {w : World} {B : Nat} {e : TypeId} {k n : Nat} {v : Value} {xs : List Value} (h : w.ownsRow B e k v n xs) : v.oneCell' = true := by
  rcases h.2 with ⟨rfl, _⟩ | ⟨_, _, _, rfl, _⟩ <;> rfl
theorem blk_rdL {w : World} {g : Nat} {t : TypeId} {xs : List Value} (h : Blk w g t xs.toArray) : Rd w (some ⟨g, 0, none⟩) xs.length xs := ⟨rfl, fun k u hk => ⟨_, rfl, blk_cells h k u hk⟩⟩
theorem OwnTs.below {w w' : World} {B : Nat} {v : Value} {l : List It} (h : OwnTs w B v l) (hb : Below w.heap.size w w') : OwnTs w' B v l := ownsRow_below h hb
/-- What stands while the list is built: all older blocks, and the variable. -/
structure OutS (g : Nat) (w0 : World) (v : Value) (W : World) : Prop where
  old : Below g w0 W
  blk : Blk W g 24 #[v]
theorem OutS.below {g : Nat} {w0 W W' : World} {v : Value} (h : OutS g w0 v W) (hb : Below W.heap.size W W') : OutS g w0 v W' := ⟨h.old.trans (hb.mono (Nat.le_of_lt h.blk.lt)), h.blk.below hb⟩
/-- What the reference's Add returns. -/
def RAddIs (r : List It × Int) (A0 : Option Addr) (w : World) (e : Ending) (w' : World) : Prop := ∃ A n c, e = .returned (.agg (didC A n c (.slice none 0 0) r.2)) ∧ RdT w' A n r.1 ∧ n ≤ c ∧ c ≤ maxLen ∧ Below w.heap.size w w'
theorem wpList_lit1T {w : World} {ops : Array Oper} {rest : List Oper} {o : Oper} {a : Act} {Q : Exit → Act → World → Prop} (hgd : o.guard = none) {y : Operand} {x : It} (ho : o.op = .buildSlice 22 1 #[(0, y)]) (hy : a.eval y = itV x)
    (h : ∀ w' g, g = w.heap.size → Blk w' g 50 (itC x) → Below w.heap.size w w' → g < w'.heap.size → wpList Tryd.prog ops Q rest (a.put o.dst (.slice (some ⟨g, 0, none⟩) 1 1)) w') : wpList Tryd.prog ops Q (o :: rest) a w :=
  wpList_plain hgd fun _ hK => wp_lit1T ho hy fun w' g h1 h2 h3 h4 => hK _ _ (h w' g h1 h2 h3 h4)
/-- The list that has been built when k items have been gone through. -/
def outK (l : List It) (x : It) (L k : Nat) : List It := if L < k then l.take L ++ [x] ++ (l.take k).drop L else l.take k
theorem yields_loadKSW {P : Program} {ops : Array Oper} {S : World → Prop} {o : Oper} {a : Act} {t : TypeId} {x : Operand} {p : Addr} {us : List Value} (hw : Region.wanted o (yielded ops a.tmps) = true) (ho : o.op = .load t x) (ha : a.eval x = .pointer (some p))
    (hu : (P.underlying t).map isAggDesc = some true) (hi : (P.info? t).map (·.size) = some us.length) (hc : ∀ W, S W → ∀ j u, us[j]? = some u → W.cell? (p.add j) = some u) : YieldsIf P ops S o (.agg us.toArray) a := by
  refine .inl ⟨hw, fun w hS => ?_⟩
  unfold execOp
  simp only [ho, ha, Instr.loadAt, Instr.sureAddr, Sem.run_bind, Sem.run_pure, Result.andThen_ok, run_loadK (w := w) hu hi (hc w hS)]
theorem yields_load1SW {P : Program} {ops : Array Oper} {S : World → Prop} {o : Oper} {a : Act} {t : TypeId} {x : Operand} {p : Addr} {v : Value} (hw : Region.wanted o (yielded ops a.tmps) = true) (ho : o.op = .load t x) (ha : a.eval x = .pointer (some p))
    (hu : (P.underlying t).map isAggDesc = some false) (hc : ∀ W, S W → W.cell? p = some v) : YieldsIf P ops S o v a := by
  refine .inl ⟨hw, fun w hS => ?_⟩
  unfold execOp
  simp only [ho, ha, Instr.loadAt, Instr.sureAddr, Sem.run_bind, Sem.run_pure, Result.andThen_ok, run_loadVar_one w p t v hu (hc w hS)]
theorem outK_low (l : List It) (x : It) (L k : Nat) (h : k < l.length) (hk : k ≠ L) : outK l x L (k + 1) = outK l x L k ++ [l[k]] := by
  unfold outK
  rw [List.take_succ_eq_append_getElem h]
  by_cases h1 : L < k
  · rw [if_pos (by omega), if_pos h1, List.drop_append_of_le_length (by rw [List.length_take]; omega)]
    simp only [List.append_assoc]
  · rw [if_neg (by omega), if_neg h1]
theorem outK_at (l : List It) (x : It) (k : Nat) (h : k < l.length) : outK l x k (k + 1) = outK l x k k ++ [x] ++ [l[k]] := by
  unfold outK
  rw [if_pos (by omega), if_neg (by omega), List.take_succ_eq_append_getElem h, List.drop_append_of_le_length (by rw [List.length_take]; omega), List.drop_of_length_le (by rw [List.length_take]; omega)]
  simp
theorem outK_len (l : List It) (x : It) (L k : Nat) (h : k ≤ l.length) : (outK l x L k).length ≤ k + 1 := by
  unfold outK
  split
  · simp only [List.length_append, List.length_take, List.length_drop, List.length_singleton]; omega
  · rw [List.length_take]; omega
theorem outK_end (l : List It) (x : It) (h : lowN x.nm (nms l) < l.length) : outK l x (lowN x.nm (nms l)) l.length = insT l x := by
  unfold outK insT
  rw [if_pos h, List.take_length]
theorem outK_end2 (l : List It) (x : It) (h : lowN x.nm (nms l) = l.length) : outK l x (lowN x.nm (nms l)) l.length ++ [x] = insT l x := by
  unfold outK insT
  rw [if_neg (by omega), h, List.take_length, List.drop_length, List.append_nil]
theorem lowN_lt : ∀ {l : List Nat} {z k : Nat} (hk : k < l.length), k < lowN z l → l[k] < z
  | [], z, k, hk, _ => by cases hk
  | x :: l, z, k, hk, h => by
    simp only [lowN] at h
    split at h
    · rename_i hx
      cases k with
      | zero => exact hx
      | succ k => exact lowN_lt (l := l) (by simpa using hk) (by omega)
    · omega
theorem lowN_ge {l : List Nat} {z : Nat} (hs : SortedN l) (hn : z ∉ l) (hk : lowN z l < l.length) : z < l[lowN z l] := by
  induction l with
  | nil => cases hk
  | cons x l ih =>
    obtain ⟨h1, h2⟩ := List.pairwise_cons.1 hs
    simp only [List.mem_cons, not_or] at hn
    by_cases hx : x < z
    · have e : lowN z (x :: l) = lowN z l + 1 := by simp [lowN, hx]
      have h3 : lowN z l < l.length := by rw [e] at hk; simpa using hk
      have := ih h2 hn.2 h3
      simp only [e, List.getElem_cons_succ]
      exact this
    · have e : lowN z (x :: l) = 0 := by simp [lowN, hx]
      simp only [e, List.getElem_cons_zero]
      have := hn.1
      omega
set_option maxRecDepth 20000 in
set_option maxHeartbeats 4000000 in
theorem refAdd_any (l : List It) (A : Option Addr) (m c : Nat) (t : ByteArray) (w : World) (hm : m ≤ 1000) (hr : RdT w A m l) (hnc : m ≤ c) (hcm : c ≤ maxLen) (hl : ∀ x ∈ l, WfT x) (hs : SortedN (nms l)) (hAu : Under A w.heap.size) (ht : t.size ≤ 400) (hg : RCon w) :
    Calls Tryd.prog 19 #[stV A m c, .string t] w (RAddIs (addS l t) A w) := by
  obtain ⟨wa, hwa, hb0, q0, q1⟩ : ∃ wa : World, wa = (w.alloc (.cells (stC A m c) 24)).alloc (.cells (didC none 0 0 (.slice none 0 0) 0) 41) ∧ Below w.heap.size w wa ∧ Blk wa w.heap.size 24 (stC A m c) ∧ Blk wa (w.heap.size + 1) 41 (didC none 0 0 (.slice none 0 0) 0) :=
    ⟨_, rfl, ((Below.refl w.heap.size w).alloc (Nat.le_refl _) _).alloc (by simp) _, (Blk.new _ _ _).alloc _, Blk.new2 _ _ _ _⟩
  have HWA := Lib.hid hwa
  clear hwa
  have d1 : decide ((1048576 : Int) < t.size) = false := by rw [decide_eq_false_iff_not]; omega
  have hsz : t.size ≤ 9223372036854775807 := by omega
  have HN := Lib.hid (refName_any t wa ht (hg.below hb0))
  have HPL := Lib.hid (fun W (h : RdT W A m l) => place_any l A m c (nameOf t) W (by omega) h hl (nameOf_lt t))
  have HR := Lib.hid (hr.below hb0)
  have HRW := Lib.hid hr
  have HL := Lib.hid hr.len
  have HAU := Lib.hid hAu
  have HNC := Lib.hid hnc
  have HCM := Lib.hid hcm
  have HWF := Lib.hid hl
  have HSO := Lib.hid hs
  have hMlt := nameOf_lt t
  unfold addS
  generalize nameOf t = M at *
  have HBI := Lib.hid (build_it M t)
  cases hK : knownN M (nms l)
  · have hpl := place_false hs hK
    have hnk := (known_false hs).1 hK
    rw [hpl] at HPL
    simp only [Bool.false_eq_true, if_false]
    obtain ⟨L, hLL⟩ : ∃ L, lowN M (nms l) = L := ⟨_, rfl⟩
    have hLe : L ≤ m := by have := lowN_le M (nms l); have := hr.len; rw [hLL] at *; simp at *; omega
    have HLT : Hid (∀ k (hk : k < l.length), k < L → l[k].nm < M) := Lib.hid (fun k hk h => by
      have h2 := lowN_lt (l := nms l) (z := M) (k := k) (by simpa using hk) (by rw [hLL]; exact h)
      simpa using h2)
    have HGE : Hid (∀ (hk : L < l.length), M < l[L].nm) := Lib.hid (fun hk => by
      have h2 := lowN_ge (l := nms l) (z := M) hs hnk (by rw [hLL]; simpa using hk)
      simp only [hLL] at h2
      simpa using h2)
    have HE1 : Hid (L < l.length → outK l ⟨M, t⟩ L l.length = insT l ⟨M, t⟩) := Lib.hid (fun h => by
      have h2 := outK_end l ⟨M, t⟩ (by show lowN M (nms l) < l.length; omega)
      simp only [hLL] at h2
      exact h2)
    have HE2 : Hid (L = l.length → outK l ⟨M, t⟩ L l.length ++ [⟨M, t⟩] = insT l ⟨M, t⟩) := Lib.hid (fun h => by
      have h2 := outK_end2 l ⟨M, t⟩ (by show lowN M (nms l) = l.length; omega)
      simp only [hLL] at h2
      exact h2)
    have dm : decide ((65536 : Int) ≤ m) = false := by rw [decide_eq_false_iff_not]; omega
    generalize insT l ⟨M, t⟩ = R at *
    clear hr hl hs hg hK hnk hnc hcm hpl hLL
    go_enter Tryd.func19, Tryd.ntmps19
    go_upto_region 1 with (fail)
    change Code.wp _ _ _ _ ((w.alloc (.cells (stC A m c) 24)).alloc (.cells (didC none 0 0 (.slice none 0 0) 0) 41))
    rw [← HWA.out]
    go_wp2_with fail
    refine HN.out.mono ?_
    rintro e w1 ⟨rfl, hb1⟩
    go_upto_region 4 with first
      | ((with_reducible show wpList _ _ _ ({ dst := some 5, op := _, type := _, pos := _, after := _, guard := _ } :: _) _ _); refine wpList_new (cs := dgC 0) rfl rfl zeroDg ?_; intro w2 g5 hg5 q5 hb2 lt5; have HG5 := Lib.hid hg5; clear hg5)
      | ((with_reducible show wpList _ _ _ ({ dst := none, op := _, type := _, pos := _, after := _, guard := _ } :: _) _ _); refine wpList_put (vs := dgC M) rfl rfl rfl rfl q5 (by rw [dgC_size, dgC_size]) (by rw [sizeDg, dgC_size]) (one_dgC _) ?_; intro w3 ht3 b5)
    have hb := bstep hb1 (hb2.trans (ht3.below _ (by have := HG5.out; omega)))
    replace q0 := q0.below hb
    replace q1 := q1.below hb
    replace hb0 := bstep hb0 hb
    have HR3 := Lib.hid (HR.out.below hb)
    clear hb hb1 hb2 ht3 q5 HG5 lt5 HR HN
    go_wp2_with first
      | ((with_reducible show wpList _ _ _ ({ dst := some 16, op := _, type := _, pos := _, after := _, guard := _ } :: _) _ _); refine wpList_loadRow rfl rfl rfl q0 aggSt (by rw [sizeSt]; rfl) ?_)
      | ((with_reducible show wpList _ _ _ ({ dst := some 17, op := _, type := _, pos := _, after := _, guard := _ } :: _) _ _); refine wpList_loadRow rfl rfl rfl b5 aggDg (by rw [sizeDg, dgC_size]) ?_)
    refine (HPL.out _ HR3.out).mono ?_
    rintro e w4 ⟨rfl, hb4⟩
    replace q0 := q0.below hb4
    replace q1 := q1.below hb4
    replace b5 := b5.below hb4
    replace hb0 := bstep hb0 hb4
    have HR4 := Lib.hid (HR3.out.below hb4)
    have c0 := q0.cell 0
    simp only [List.getElem?_toArray, List.getElem?_cons_zero] at c0
    clear hb4 HPL HR3
    have lt1 := q1.lt
    have lt5 := b5.lt
    go_upto_region 9 with ((with_reducible show wpList _ _ _ ({ dst := some 6, op := _, type := _, pos := _, after := _, guard := _ } :: _) _ _); refine wpList_new rfl rfl zeroSt ?_; intro w5 g6 hg6 b6 hb5 lt6; have HG6 := Lib.hid hg6; clear hg6)
    replace q0 := q0.below hb5
    replace q1 := q1.below hb5
    replace b5 := b5.below hb5
    replace hb0 := bstep hb0 hb5
    have HR5 := Lib.hid (HR4.out.below hb5)
    have hg6w : w.heap.size + 1 < g6 := by have := HG6.out; omega
    have hg56 : g5 < g6 := by have := HG6.out; omega
    clear lt1 lt5
    clear hb5 HR4 c0
    have HBX : Hid (∀ W, Below g6 w5 W → Below w.heap.size w W) := Lib.hid (fun W h => hb0.trans (h.mono (by omega)))
    have HC0 : Hid (∀ W, Below g6 w5 W → W.cell? ⟨w.heap.size, 0, none⟩ = some (.slice A m c)) := Lib.hid (fun W h => by
      have h2 : Blk W w.heap.size 24 (stC A m c) := (h.block _ (by omega)).trans q0
      have h3 := h2.cell 0
      simpa only [List.getElem?_toArray, List.getElem?_cons_zero] using h3)
    have HC5 : Hid (∀ W, Below g6 w5 W → Blk W g5 26 (dgC M)) := Lib.hid (fun W h => (h.block _ hg56).trans b5)
    have HQ1 : Hid (∀ W, Below g6 w5 W → Blk W (w.heap.size + 1) 41 (didC none 0 0 (.slice none 0 0) 0)) := Lib.hid (fun W h => (h.block _ (by omega)).trans q1)
    have HLS := Lib.hid (fun a W (ha : a < 2 ^ 128) => refLess_any M a W hMlt ha)
    clear q0 q1 b5
    have h0 : OwnTs w5 w5.heap.size (.slice none 0 0) (outK l ⟨M, t⟩ L 0) := by
      have e : outK l ⟨M, t⟩ L 0 = [] := by unfold outK; rw [if_neg (by omega)]; rfl
      rw [e]
      exact World.ownsRow_nil w5 _ _ 17
    go_wp2_with fail
    go_loopw [7, 8] (fun v7 vk wr => ∃ (k : Nat) (v : Value) (b : Bool), k ≤ m ∧ vk = .int .i64 k ∧ v7 = .bool b ∧ Hid (b = decide (L < k)) ∧ OutS g6 w5 v wr ∧ OwnTs wr w5.heap.size v (outK l ⟨M, t⟩ L k) ∧ w5.heap.size ≤ wr.heap.size) (fun _ vk _ => m - (intOf vk).toNat)
    case atStart => exact ⟨0, _, false, Nat.zero_le _, rfl, rfl, Lib.hid (by simp), ⟨Below.refl _ _, b6⟩, h0, Nat.le_refl _⟩
    case round =>
      clear h0 b6
      obtain ⟨k, v, b, hk, rfl, rfl, HB, hS0, hown, hsz⟩ := hrel
      have c0w := HC0.out _ hS0.old
      have hg6lt : g6 < w5.heap.size := lt6
      have hg6le : g6 ≤ w5.heap.size := Nat.le_of_lt lt6
      by_cases hlt : k < m
      · have hkl : k < l.length := by have := HL.out; omega
        obtain ⟨ad, had, _⟩ := (HRW.out.below (HBX.out _ hS0.old)).elem hkl
        have HC : Hid (∀ W, Below g6 w5 W → ∀ j u, (itL l[k])[j]? = some u → W.cell? ((ad.add (k * 17)).add j) = some u) := Lib.hid (fun W h j u hj => by
          obtain ⟨ad', e', hc⟩ := (HRW.out.below (HBX.out _ h)).elem hkl
          rw [had] at e'
          obtain rfl := Option.some.inj e'
          exact hc j u hj)
        subst had
        have hxw := (HWF.out _ (List.getElem_mem hkl)).nm
        have hol := outK_len l ⟨M, t⟩ L k (by omega)
        have HLT1 := Lib.hid (HLT.out k hkl)
        have HGE1 : Hid (k = L → M < l[k].nm) := Lib.hid (fun e => by subst e; exact HGE.out hkl)
        have HLOW := Lib.hid (outK_low l ⟨M, t⟩ L k hkl)
        have HAT : Hid (k = L → outK l ⟨M, t⟩ L (k + 1) = outK l ⟨M, t⟩ L k ++ [⟨M, t⟩] ++ [l[k]]) := Lib.hid (fun e => by subst e; exact outK_at l ⟨M, t⟩ k hkl)
        generalize l[k] = x at *
        have HLX := Lib.hid (fun W => HLS.out x.nm W hxw)
        cases b
        · have hLk : ¬ L < k := by have := HB.out; simpa using this.symm
          by_cases hkL : k = L
          · have hd := HGE1.out hkL
            rw [decide_eq_true hd] at HLX
            have hx1 := HAT.out hkL
            have HX1 := Lib.hid hx1
            have HKL := Lib.hid hkL
            clear hx1 hkL hd HLT1 HGE1 HLOW HAT HB hLk
            obtain ⟨X0, hX0⟩ : ∃ X, outK l ⟨M, t⟩ L k = X := ⟨_, rfl⟩
            rw [hX0] at hown hol HX1
            clear hX0
            go_upto_region 13 with fail
            have hS : OutS g6 w5 v wr.drew := hS0.below (Below.refl _ _).drew
            refine wp_region_TS (S := OutS g6 w5 v) 12 (by kernel_rfl) ?_
            -- region 13: 12 operations, tail from 12
            refine WpT.take (i := 0) rfl (by kernel_rfl) (fun _ _ _ h => h) (.inl ⟨by rfl, fun w hSw => by clear hSw; go_simp; (try go_bits); (try rw [if_pos (by omega)]); (try with_reducible rfl)⟩) (hS) ?_
            try simp only [Act.put, List.setIfInBounds_toArray, List.set_cons_zero, List.set_cons_succ]
            refine WpT.take (i := 1) rfl (by kernel_rfl) (fun _ _ _ h => h) (.inl ⟨by rfl, fun w hSw => by clear hSw; go_simp; (try go_bits); (try rw [if_pos (by omega)]); (try with_reducible rfl)⟩) (hS) ?_
            try simp only [Act.put, List.setIfInBounds_toArray, List.set_cons_zero, List.set_cons_succ]
            refine WpT.take (i := 2) rfl (by kernel_rfl) (fun _ _ _ h => h) (.inl ⟨by rfl, fun w hSw => by clear hSw; go_simp; (try go_bits); (try rw [if_pos (by omega)]); (try with_reducible rfl)⟩) (hS) ?_
            try simp only [Act.put, List.setIfInBounds_toArray, List.set_cons_zero, List.set_cons_succ]
            refine WpT.take (i := 3) rfl (by kernel_rfl) (fun _ _ _ h => h) (yields_loadKSW (us := bv (dg M)) (by rfl) rfl rfl aggDg (by rw [sizeDg, bv_dg_len]) (fun W h => blk_cells (HC5.out W h.old))) (hS) ?_
            try simp only [Act.put, List.setIfInBounds_toArray, List.set_cons_zero, List.set_cons_succ]
            refine WpT.take (i := 4) rfl (by kernel_rfl) (fun _ _ _ h => h) (.inl ⟨by rfl, fun w hSw => by clear hSw; go_simp; (try go_bits); (try rw [if_pos (by omega)]); (try with_reducible rfl)⟩) (hS) ?_
            try simp only [Act.put, List.setIfInBounds_toArray, List.set_cons_zero, List.set_cons_succ]
            refine WpT.take (i := 5) rfl (by kernel_rfl) (fun _ _ _ h => h) (yields_load1SW (by rfl) rfl rfl (by kernel_rfl) (fun W h => HC0.out W h.old)) (hS) ?_
            try simp only [Act.put, List.setIfInBounds_toArray, List.set_cons_zero, List.set_cons_succ]
            refine WpT.take (i := 6) rfl (by kernel_rfl) (fun _ _ _ h => h) (.inl ⟨by rfl, fun w hSw => by clear hSw; go_simp; (try go_bits); (try rw [if_pos (by omega)]); (try with_reducible rfl)⟩) (hS) ?_
            try simp only [Act.put, List.setIfInBounds_toArray, List.set_cons_zero, List.set_cons_succ]
            refine WpT.take (i := 7) rfl (by kernel_rfl) (fun _ _ _ h => h) (.inl ⟨by rfl, fun w hSw => by clear hSw; go_simp; (try go_bits); (try rw [if_pos (by omega)]); (try with_reducible rfl)⟩) (hS) ?_
            try simp only [Act.put, List.setIfInBounds_toArray, List.set_cons_zero, List.set_cons_succ]
            refine WpT.take (i := 8) rfl (by kernel_rfl) (fun _ _ _ h => h) (.inl ⟨by rfl, fun w hSw => by clear hSw; go_simp; (try go_bits); (try rw [if_pos (by omega)]); (try with_reducible rfl)⟩) (hS) ?_
            try simp only [Act.put, List.setIfInBounds_toArray, List.set_cons_zero, List.set_cons_succ]
            refine WpT.take (i := 9) rfl (by kernel_rfl) (fun _ _ _ h => h) (yields_loadKSW (us := bv (dg x.nm)) (by rfl) rfl rfl aggDg (by rw [sizeDg, bv_dg_len]) (fun W h => it_name (HC.out W h.old))) (hS) ?_
            try simp only [Act.put, List.setIfInBounds_toArray, List.set_cons_zero, List.set_cons_succ]
            refine WpT.one (i := 10) rfl (by kernel_rfl) (fun K hK => ?_)
            go_simp; refine (HLX.out _).mono ?_; rintro e w6 ⟨rfl, hb6⟩; replace hS := hS.below hb6
            refine hK _ _ (hS) ?_; clear hK K; try simp only [Act.put, List.setIfInBounds_toArray, List.set_cons_zero, List.set_cons_succ]
            refine WpT.take (i := 11) rfl (by kernel_rfl) (fun _ _ _ h => h) (.inl ⟨by rfl, fun w hSw => by clear hSw; go_simp; (try go_bits); (try rw [if_pos (by omega)]); (try with_reducible rfl)⟩) (hS) ?_
            try simp only [Act.put, List.setIfInBounds_toArray, List.set_cons_zero, List.set_cons_succ]
            refine WpT.done (by kernel_rfl) ?_ _
            skip
            replace hown := hown.below (bstep (Below.refl _ _).drew hb6)
            have HSZ : Hid (w5.heap.size ≤ w6.heap.size) := Lib.hid (by have := hb6.size; simp at this; omega)
            have b5 := HC5.out _ hS.old
            have c6 := hS.blk.cell 0
            simp only [List.getElem?_toArray, List.getElem?_cons_zero] at c6
            have hbi := HBI.out
            have hS1 := hS
            clear hS hb6 hS0
            have hown1 := hown
            unfold OwnTs at hown1
            go_upto_region 15 with first
              | ((with_reducible show wpList _ _ _ ({ dst := some 49, op := _, type := _, pos := _, after := _, guard := _ } :: _) _ _); refine wpList_loadRow rfl rfl rfl b5 aggDg (by rw [sizeDg, dgC_size]) ?_)
              | ((with_reducible show wpList _ _ _ ({ dst := some 51, op := _, type := _, pos := _, after := _, guard := _ } :: _) _ _); refine wpList_build2 (vx := dgV M) (vy := .string t) rfl rfl rfl rfl hbi ?_)
              | ((with_reducible show wpList _ _ _ ({ dst := some 52, op := _, type := _, pos := _, after := _, guard := _ } :: _) _ _); refine wpList_lit1T rfl (x := ⟨M, t⟩) rfl rfl ?_; intro wJ gJ hgJ bJ hbJ ltJ; clear hgJ; have hS2 := hS1.below hbJ; have hown2 := ownsRow_below hown1 hbJ)
              | ((with_reducible show wpList _ _ _ ({ dst := some 53, op := _, type := _, pos := _, after := _, guard := _ } :: _) _ _); refine wpList_appK rfl rfl elemIt rfl hown2 rfl (m := 1) (ys := itsL [⟨M, t⟩]) (by have h := blk_rdL bJ; rw [itL_len] at h; simpa [itsL] using h) (one_itsL _) (by omega) (by have := hbJ.size; have := HSZ.out; omega) ?_; intro v7 w7 hown7 hg7 hb7; have hne7 := own_ge hown2 hg6lt; have hS7 : OutS g6 w5 v w7 := ⟨hS2.old.trans (hb7.mono hg6le), blk_grown hS2.blk hg7 (fun e => hne7 e.symm)⟩)
              | ((with_reducible show wpList _ _ _ ({ dst := none, op := _, type := _, pos := _, after := _, guard := _ } :: _) _ _); refine wpList_set (j := 0) (v := v7) (cs' := #[v7]) rfl rfl (by kernel_rfl) rfl rfl (own_one hown7) hS7.blk (by simp) (by simp) ?_; intro w10 ht10 b10)
            have hS : OutS g6 w5 v7 w10 := ⟨hS7.old.trans (ht10.below _ (Nat.le_refl _)), b10⟩
            have HSZ : Hid (w5.heap.size ≤ w10.heap.size) := Lib.hid (by have := hb7.size; have := hbJ.size; have := HSZ.out; rw [ht10.size]; omega)
            have hown : OwnTs w10 w5.heap.size v7 (X0 ++ [⟨M, t⟩]) := by
              have h := ht10.own hown7 (own_ge hown7 hg6lt)
              unfold OwnTs
              rw [itsL_app, List.length_append]
              exact h
            have hol : (X0 ++ [(⟨M, t⟩ : It)]).length ≤ k + 2 := by rw [List.length_append]; simp; omega
            obtain ⟨X, hX⟩ : ∃ X, X0 ++ [(⟨M, t⟩ : It)] = X := ⟨_, rfl⟩
            rw [hX] at hown hol HX1
            clear hX hown1 hown2 hown7 hS1 hS2 hS7 hg7 hb7 ht10 b10 bJ hbJ b5 c6
            go_upto_region 16 with fail
            have hS : OutS g6 w5 v7 w10.drew := hS.below (Below.refl _ _).drew
            have how : OwnTs w10.drew w5.heap.size v7 X := hown.below (Below.refl _ _).drew
            unfold OwnTs at how
            refine wp_region_TS (S := OutS g6 w5 v7) 10 (by kernel_rfl) ?_
            -- region 16: 11 operations, tail from 10
            refine WpT.take (i := 0) rfl (by kernel_rfl) (fun _ _ _ h => h) (.inl ⟨by rfl, fun w hSw => by clear hSw; go_simp; (try go_bits); (try rw [if_pos (by omega)]); (try with_reducible rfl)⟩) (hS) ?_
            try simp only [Act.put, List.setIfInBounds_toArray, List.set_cons_zero, List.set_cons_succ]
            refine WpT.take (i := 1) rfl (by kernel_rfl) (fun _ _ _ h => h) (yields_load1S rfl rfl rfl (by kernel_rfl) (fun W h => h.blk.cell 0)) (hS) ?_
            try simp only [Act.put, List.setIfInBounds_toArray, List.set_cons_zero, List.set_cons_succ]
            refine WpT.take (i := 2) rfl (by kernel_rfl) (fun _ _ _ h => h) (.inl ⟨by rfl, fun w hSw => by clear hSw; go_simp; (try go_bits); (try rw [if_pos (by omega)]); (try with_reducible rfl)⟩) (hS) ?_
            try simp only [Act.put, List.setIfInBounds_toArray, List.set_cons_zero, List.set_cons_succ]
            refine WpT.take (i := 3) rfl (by kernel_rfl) (fun _ _ _ h => h) (yields_load1S rfl rfl rfl (by kernel_rfl) (fun W h => HC0.out W h.old)) (hS) ?_
            try simp only [Act.put, List.setIfInBounds_toArray, List.set_cons_zero, List.set_cons_succ]
            refine WpT.take (i := 4) rfl (by kernel_rfl) (fun _ _ _ h => h) (.inl ⟨by rfl, fun w hSw => by clear hSw; go_simp; (try go_bits); (try rw [if_pos (by omega)]); (try with_reducible rfl)⟩) (hS) ?_
            try simp only [Act.put, List.setIfInBounds_toArray, List.set_cons_zero, List.set_cons_succ]
            refine WpT.take (i := 5) rfl (by kernel_rfl) (fun _ _ _ h => h) (.inl ⟨by rfl, fun w hSw => by clear hSw; go_simp; (try go_bits); (try rw [if_pos (by omega)]); (try with_reducible rfl)⟩) (hS) ?_
            try simp only [Act.put, List.setIfInBounds_toArray, List.set_cons_zero, List.set_cons_succ]
            refine WpT.take (i := 6) rfl (by kernel_rfl) (fun _ _ _ h => h) (yields_loadS (us := itL x) rfl rfl rfl aggIt (by rw [sizeIt, itL_len]) (fun W h => HC.out W h.old)) (hS) ?_
            try simp only [Act.put, List.setIfInBounds_toArray, List.set_cons_zero, List.set_cons_succ]
            refine WpT.one (i := 7) rfl (by kernel_rfl) (fun K hK => ?_)
            refine wp_lit1T (x := x) rfl (by rfl) ?_; intro wJ gJ hgJ bJ hbJ ltJ; clear hgJ; replace hS := hS.below hbJ; replace how := ownsRow_below how hbJ
            refine hK _ _ (hS) ?_; clear hK K; try simp only [Act.put, List.setIfInBounds_toArray, List.set_cons_zero, List.set_cons_succ]
            refine WpT.one (i := 8) rfl (by kernel_rfl) (fun K hK => ?_)
            refine wp_appK rfl elemIt (by rfl) how (by rfl) (m := 1) (ys := itsL [x]) (by have h := blk_rdL bJ; rw [itL_len] at h; simpa [itsL] using h) (one_itsL _) (by omega) (by have h1 : w10.heap.size ≤ wJ.heap.size := hbJ.size; have := HSZ.out; omega) ?_; intro v8 w8 hown8 hg8 hb8; have hne8 := own_ge how hg6lt; replace hS : OutS g6 w5 v7 w8 := ⟨hS.old.trans (hb8.mono hg6le), blk_grown hS.blk hg8 (fun e => hne8 e.symm)⟩
            refine hK _ _ (hS) ?_; clear hK K; try simp only [Act.put, List.setIfInBounds_toArray, List.set_cons_zero, List.set_cons_succ]
            refine WpT.take (i := 9) rfl (by kernel_rfl) (fun _ _ _ h => h) (.inl ⟨by rfl, fun w hSw => by clear hSw; go_simp; (try go_bits); (try rw [if_pos (by omega)]); (try with_reducible rfl)⟩) (hS) ?_
            try simp only [Act.put, List.setIfInBounds_toArray, List.set_cons_zero, List.set_cons_succ]
            refine WpT.tail (i := 10) rfl (by kernel_rfl) (by kernel_rfl) (fun K hK => ?_)
            refine wp_set (j := 0) (v := v8) (cs' := #[v8]) rfl (by kernel_rfl) (by rfl) (by rfl) (own_one hown8) hS.blk (by simp) (by simp) ?_; intro w9 ht9 b9
            refine hK _ _ ?_; clear hK K; try simp only [Act.put, List.setIfInBounds_toArray, List.set_cons_zero, List.set_cons_succ]
            refine WpT.done (by kernel_rfl) ?_ _
            skip
            have hS9 : OutS g6 w5 v8 w9 := ⟨hS.old.trans (ht9.below _ (Nat.le_refl _)), b9⟩
            have hown9 := ht9.own hown8 (own_ge hown8 hg6lt)
            have hsz9 : w5.heap.size ≤ w9.heap.size := by have := hb8.size; have h1 : w10.heap.size ≤ wJ.heap.size := hbJ.size; have := HSZ.out; rw [ht9.size]; omega
            clear hown8 hg8 hb8 ht9 hbJ bJ how
            have hfin : OwnTs w9 w5.heap.size v8 (outK l ⟨M, t⟩ L (k + 1)) := by
              unfold OwnTs
              rw [HX1.out, itsL_app, List.length_append]
              exact hown9
            clear hown9 hown hS HC HX1
            go_wp2_with fail
            exact ⟨⟨k + 1, v8, true, by omega, by go_num, rfl, Lib.hid (by have := HKL.out; simp; omega), hS9, hfin, hsz9⟩, by simp [intOf]; omega⟩
          · have hd : ¬ M < x.nm := by have := HLT1.out (by omega); omega
            rw [decide_eq_false hd] at HLX
            have HX1 := Lib.hid (HLOW.out hkL)
            clear hd HLT1 HGE1 HLOW HAT HB
            obtain ⟨X, hX⟩ : ∃ X, outK l ⟨M, t⟩ L k = X := ⟨_, rfl⟩
            rw [hX] at hown hol HX1
            clear hX
            go_upto_region 13 with fail
            have hS : OutS g6 w5 v wr.drew := hS0.below (Below.refl _ _).drew
            refine wp_region_TS (S := OutS g6 w5 v) 12 (by kernel_rfl) ?_
            -- region 13: 12 operations, tail from 12
            refine WpT.take (i := 0) rfl (by kernel_rfl) (fun _ _ _ h => h) (.inl ⟨by rfl, fun w hSw => by clear hSw; go_simp; (try go_bits); (try rw [if_pos (by omega)]); (try with_reducible rfl)⟩) (hS) ?_
            try simp only [Act.put, List.setIfInBounds_toArray, List.set_cons_zero, List.set_cons_succ]
            refine WpT.take (i := 1) rfl (by kernel_rfl) (fun _ _ _ h => h) (.inl ⟨by rfl, fun w hSw => by clear hSw; go_simp; (try go_bits); (try rw [if_pos (by omega)]); (try with_reducible rfl)⟩) (hS) ?_
            try simp only [Act.put, List.setIfInBounds_toArray, List.set_cons_zero, List.set_cons_succ]
            refine WpT.take (i := 2) rfl (by kernel_rfl) (fun _ _ _ h => h) (.inl ⟨by rfl, fun w hSw => by clear hSw; go_simp; (try go_bits); (try rw [if_pos (by omega)]); (try with_reducible rfl)⟩) (hS) ?_
            try simp only [Act.put, List.setIfInBounds_toArray, List.set_cons_zero, List.set_cons_succ]
            refine WpT.take (i := 3) rfl (by kernel_rfl) (fun _ _ _ h => h) (yields_loadKSW (us := bv (dg M)) (by rfl) rfl rfl aggDg (by rw [sizeDg, bv_dg_len]) (fun W h => blk_cells (HC5.out W h.old))) (hS) ?_
            try simp only [Act.put, List.setIfInBounds_toArray, List.set_cons_zero, List.set_cons_succ]
            refine WpT.take (i := 4) rfl (by kernel_rfl) (fun _ _ _ h => h) (.inl ⟨by rfl, fun w hSw => by clear hSw; go_simp; (try go_bits); (try rw [if_pos (by omega)]); (try with_reducible rfl)⟩) (hS) ?_
            try simp only [Act.put, List.setIfInBounds_toArray, List.set_cons_zero, List.set_cons_succ]
            refine WpT.take (i := 5) rfl (by kernel_rfl) (fun _ _ _ h => h) (yields_load1SW (by rfl) rfl rfl (by kernel_rfl) (fun W h => HC0.out W h.old)) (hS) ?_
            try simp only [Act.put, List.setIfInBounds_toArray, List.set_cons_zero, List.set_cons_succ]
            refine WpT.take (i := 6) rfl (by kernel_rfl) (fun _ _ _ h => h) (.inl ⟨by rfl, fun w hSw => by clear hSw; go_simp; (try go_bits); (try rw [if_pos (by omega)]); (try with_reducible rfl)⟩) (hS) ?_
            try simp only [Act.put, List.setIfInBounds_toArray, List.set_cons_zero, List.set_cons_succ]
            refine WpT.take (i := 7) rfl (by kernel_rfl) (fun _ _ _ h => h) (.inl ⟨by rfl, fun w hSw => by clear hSw; go_simp; (try go_bits); (try rw [if_pos (by omega)]); (try with_reducible rfl)⟩) (hS) ?_
            try simp only [Act.put, List.setIfInBounds_toArray, List.set_cons_zero, List.set_cons_succ]
            refine WpT.take (i := 8) rfl (by kernel_rfl) (fun _ _ _ h => h) (.inl ⟨by rfl, fun w hSw => by clear hSw; go_simp; (try go_bits); (try rw [if_pos (by omega)]); (try with_reducible rfl)⟩) (hS) ?_
            try simp only [Act.put, List.setIfInBounds_toArray, List.set_cons_zero, List.set_cons_succ]
            refine WpT.take (i := 9) rfl (by kernel_rfl) (fun _ _ _ h => h) (yields_loadKSW (us := bv (dg x.nm)) (by rfl) rfl rfl aggDg (by rw [sizeDg, bv_dg_len]) (fun W h => it_name (HC.out W h.old))) (hS) ?_
            try simp only [Act.put, List.setIfInBounds_toArray, List.set_cons_zero, List.set_cons_succ]
            refine WpT.one (i := 10) rfl (by kernel_rfl) (fun K hK => ?_)
            go_simp; refine (HLX.out _).mono ?_; rintro e w6 ⟨rfl, hb6⟩; replace hS := hS.below hb6
            refine hK _ _ (hS) ?_; clear hK K; try simp only [Act.put, List.setIfInBounds_toArray, List.set_cons_zero, List.set_cons_succ]
            refine WpT.take (i := 11) rfl (by kernel_rfl) (fun _ _ _ h => h) (.inl ⟨by rfl, fun w hSw => by clear hSw; go_simp; (try go_bits); (try rw [if_pos (by omega)]); (try with_reducible rfl)⟩) (hS) ?_
            try simp only [Act.put, List.setIfInBounds_toArray, List.set_cons_zero, List.set_cons_succ]
            refine WpT.done (by kernel_rfl) ?_ _
            skip
            replace hown := hown.below (bstep (Below.refl _ _).drew hb6)
            have HSZ : Hid (w5.heap.size ≤ w6.heap.size) := Lib.hid (by have := hb6.size; simp at this; omega)
            clear hb6 hS0
            go_upto_region 16 with fail
            have hS : OutS g6 w5 v w6.drew := hS.below (Below.refl _ _).drew
            have how : OwnTs w6.drew w5.heap.size v X := hown.below (Below.refl _ _).drew
            unfold OwnTs at how
            refine wp_region_TS (S := OutS g6 w5 v) 10 (by kernel_rfl) ?_
            -- region 16: 11 operations, tail from 10
            refine WpT.take (i := 0) rfl (by kernel_rfl) (fun _ _ _ h => h) (.inl ⟨by rfl, fun w hSw => by clear hSw; go_simp; (try go_bits); (try rw [if_pos (by omega)]); (try with_reducible rfl)⟩) (hS) ?_
            try simp only [Act.put, List.setIfInBounds_toArray, List.set_cons_zero, List.set_cons_succ]
            refine WpT.take (i := 1) rfl (by kernel_rfl) (fun _ _ _ h => h) (yields_load1S rfl rfl rfl (by kernel_rfl) (fun W h => h.blk.cell 0)) (hS) ?_
            try simp only [Act.put, List.setIfInBounds_toArray, List.set_cons_zero, List.set_cons_succ]
            refine WpT.take (i := 2) rfl (by kernel_rfl) (fun _ _ _ h => h) (.inl ⟨by rfl, fun w hSw => by clear hSw; go_simp; (try go_bits); (try rw [if_pos (by omega)]); (try with_reducible rfl)⟩) (hS) ?_
            try simp only [Act.put, List.setIfInBounds_toArray, List.set_cons_zero, List.set_cons_succ]
            refine WpT.take (i := 3) rfl (by kernel_rfl) (fun _ _ _ h => h) (yields_load1S rfl rfl rfl (by kernel_rfl) (fun W h => HC0.out W h.old)) (hS) ?_
            try simp only [Act.put, List.setIfInBounds_toArray, List.set_cons_zero, List.set_cons_succ]
            refine WpT.take (i := 4) rfl (by kernel_rfl) (fun _ _ _ h => h) (.inl ⟨by rfl, fun w hSw => by clear hSw; go_simp; (try go_bits); (try rw [if_pos (by omega)]); (try with_reducible rfl)⟩) (hS) ?_
            try simp only [Act.put, List.setIfInBounds_toArray, List.set_cons_zero, List.set_cons_succ]
            refine WpT.take (i := 5) rfl (by kernel_rfl) (fun _ _ _ h => h) (.inl ⟨by rfl, fun w hSw => by clear hSw; go_simp; (try go_bits); (try rw [if_pos (by omega)]); (try with_reducible rfl)⟩) (hS) ?_
            try simp only [Act.put, List.setIfInBounds_toArray, List.set_cons_zero, List.set_cons_succ]
            refine WpT.take (i := 6) rfl (by kernel_rfl) (fun _ _ _ h => h) (yields_loadS (us := itL x) rfl rfl rfl aggIt (by rw [sizeIt, itL_len]) (fun W h => HC.out W h.old)) (hS) ?_
            try simp only [Act.put, List.setIfInBounds_toArray, List.set_cons_zero, List.set_cons_succ]
            refine WpT.one (i := 7) rfl (by kernel_rfl) (fun K hK => ?_)
            refine wp_lit1T (x := x) rfl (by rfl) ?_; intro wJ gJ hgJ bJ hbJ ltJ; clear hgJ; replace hS := hS.below hbJ; replace how := ownsRow_below how hbJ
            refine hK _ _ (hS) ?_; clear hK K; try simp only [Act.put, List.setIfInBounds_toArray, List.set_cons_zero, List.set_cons_succ]
            refine WpT.one (i := 8) rfl (by kernel_rfl) (fun K hK => ?_)
            refine wp_appK rfl elemIt (by rfl) how (by rfl) (m := 1) (ys := itsL [x]) (by have h := blk_rdL bJ; rw [itL_len] at h; simpa [itsL] using h) (one_itsL _) (by omega) (by have h1 : w6.heap.size ≤ wJ.heap.size := hbJ.size; have := HSZ.out; omega) ?_; intro v8 w8 hown8 hg8 hb8; have hne8 := own_ge how hg6lt; replace hS : OutS g6 w5 v w8 := ⟨hS.old.trans (hb8.mono hg6le), blk_grown hS.blk hg8 (fun e => hne8 e.symm)⟩
            refine hK _ _ (hS) ?_; clear hK K; try simp only [Act.put, List.setIfInBounds_toArray, List.set_cons_zero, List.set_cons_succ]
            refine WpT.take (i := 9) rfl (by kernel_rfl) (fun _ _ _ h => h) (.inl ⟨by rfl, fun w hSw => by clear hSw; go_simp; (try go_bits); (try rw [if_pos (by omega)]); (try with_reducible rfl)⟩) (hS) ?_
            try simp only [Act.put, List.setIfInBounds_toArray, List.set_cons_zero, List.set_cons_succ]
            refine WpT.tail (i := 10) rfl (by kernel_rfl) (by kernel_rfl) (fun K hK => ?_)
            refine wp_set (j := 0) (v := v8) (cs' := #[v8]) rfl (by kernel_rfl) (by rfl) (by rfl) (own_one hown8) hS.blk (by simp) (by simp) ?_; intro w9 ht9 b9
            refine hK _ _ ?_; clear hK K; try simp only [Act.put, List.setIfInBounds_toArray, List.set_cons_zero, List.set_cons_succ]
            refine WpT.done (by kernel_rfl) ?_ _
            skip
            have hS9 : OutS g6 w5 v8 w9 := ⟨hS.old.trans (ht9.below _ (Nat.le_refl _)), b9⟩
            have hown9 := ht9.own hown8 (own_ge hown8 hg6lt)
            have hsz9 : w5.heap.size ≤ w9.heap.size := by have := hb8.size; have h1 : w6.heap.size ≤ wJ.heap.size := hbJ.size; have := HSZ.out; rw [ht9.size]; omega
            clear hown8 hg8 hb8 ht9 hbJ bJ how
            have hfin : OwnTs w9 w5.heap.size v8 (outK l ⟨M, t⟩ L (k + 1)) := by
              unfold OwnTs
              rw [HX1.out, itsL_app, List.length_append]
              exact hown9
            clear hown9 hown hS HC HX1
            go_wp2_with fail
            exact ⟨⟨k + 1, v8, false, by omega, by go_num, rfl, Lib.hid (by simp; omega), hS9, hfin, hsz9⟩, by simp [intOf]; omega⟩
        · have hLk : L < k := by have := HB.out; simpa using this.symm
          have HX1 := Lib.hid (HLOW.out (by omega))
          clear HLT1 HGE1 HLOW HAT HB
          obtain ⟨X, hX⟩ : ∃ X, outK l ⟨M, t⟩ L k = X := ⟨_, rfl⟩
          rw [hX] at hown hol HX1
          clear hX
          go_upto_region 13 with fail
          have hS : OutS g6 w5 v wr.drew := hS0.below (Below.refl _ _).drew
          refine wp_region_TS (S := OutS g6 w5 v) 12 (by kernel_rfl) ?_
          -- region 13: 12 operations, tail from 12
          refine WpT.take (i := 0) rfl (by kernel_rfl) (fun _ _ _ h => h) (.inl ⟨by rfl, fun w hSw => by clear hSw; go_simp; (try go_bits); (try rw [if_pos (by omega)]); (try with_reducible rfl)⟩) (hS) ?_
          try simp only [Act.put, List.setIfInBounds_toArray, List.set_cons_zero, List.set_cons_succ]
          refine WpT.take (i := 1) rfl (by kernel_rfl) (fun _ _ _ h => h) (.inl ⟨by rfl, fun w hSw => by clear hSw; go_simp; (try go_bits); (try rw [if_pos (by omega)]); (try with_reducible rfl)⟩) (hS) ?_
          try simp only [Act.put, List.setIfInBounds_toArray, List.set_cons_zero, List.set_cons_succ]
          refine WpT.take (i := 2) rfl (by kernel_rfl) (fun _ _ _ h => h) (.inl ⟨by rfl, fun w hSw => by clear hSw; go_simp; (try go_bits); (try rw [if_pos (by omega)]); (try with_reducible rfl)⟩) (hS) ?_
          try simp only [Act.put, List.setIfInBounds_toArray, List.set_cons_zero, List.set_cons_succ]
          refine WpT.take (i := 3) rfl (by kernel_rfl) (fun _ _ _ h => h) (.inr ⟨by rfl, rfl⟩) (hS) ?_
          try simp only [Act.put, List.setIfInBounds_toArray, List.set_cons_zero, List.set_cons_succ]
          refine WpT.take (i := 4) rfl (by kernel_rfl) (fun _ _ _ h => h) (.inr ⟨by rfl, rfl⟩) (hS) ?_
          try simp only [Act.put, List.setIfInBounds_toArray, List.set_cons_zero, List.set_cons_succ]
          refine WpT.take (i := 5) rfl (by kernel_rfl) (fun _ _ _ h => h) (.inr ⟨by rfl, rfl⟩) (hS) ?_
          try simp only [Act.put, List.setIfInBounds_toArray, List.set_cons_zero, List.set_cons_succ]
          refine WpT.take (i := 6) rfl (by kernel_rfl) (fun _ _ _ h => h) (.inr ⟨by rfl, rfl⟩) (hS) ?_
          try simp only [Act.put, List.setIfInBounds_toArray, List.set_cons_zero, List.set_cons_succ]
          refine WpT.take (i := 7) rfl (by kernel_rfl) (fun _ _ _ h => h) (.inr ⟨by rfl, rfl⟩) (hS) ?_
          try simp only [Act.put, List.setIfInBounds_toArray, List.set_cons_zero, List.set_cons_succ]
          refine WpT.take (i := 8) rfl (by kernel_rfl) (fun _ _ _ h => h) (.inr ⟨by rfl, rfl⟩) (hS) ?_
          try simp only [Act.put, List.setIfInBounds_toArray, List.set_cons_zero, List.set_cons_succ]
          refine WpT.take (i := 9) rfl (by kernel_rfl) (fun _ _ _ h => h) (.inr ⟨by rfl, rfl⟩) (hS) ?_
          try simp only [Act.put, List.setIfInBounds_toArray, List.set_cons_zero, List.set_cons_succ]
          refine WpT.take (i := 10) rfl (by kernel_rfl) (fun _ _ _ h => h) (.inr ⟨by rfl, rfl⟩) (hS) ?_
          try simp only [Act.put, List.setIfInBounds_toArray, List.set_cons_zero, List.set_cons_succ]
          refine WpT.take (i := 11) rfl (by kernel_rfl) (fun _ _ _ h => h) (.inl ⟨by rfl, fun w hSw => by clear hSw; go_simp; (try go_bits); (try rw [if_pos (by omega)]); (try with_reducible rfl)⟩) (hS) ?_
          try simp only [Act.put, List.setIfInBounds_toArray, List.set_cons_zero, List.set_cons_succ]
          refine WpT.done (by kernel_rfl) ?_ _
          skip
          replace hown := hown.below (Below.refl _ _).drew
          have HSZ : Hid (w5.heap.size ≤ (wr.drew).heap.size) := Lib.hid hsz
          clear hS0
          go_upto_region 16 with fail
          have hS : OutS g6 w5 v (wr.drew).drew := hS.below (Below.refl _ _).drew
          have how : OwnTs (wr.drew).drew w5.heap.size v X := hown.below (Below.refl _ _).drew
          unfold OwnTs at how
          refine wp_region_TS (S := OutS g6 w5 v) 10 (by kernel_rfl) ?_
          -- region 16: 11 operations, tail from 10
          refine WpT.take (i := 0) rfl (by kernel_rfl) (fun _ _ _ h => h) (.inl ⟨by rfl, fun w hSw => by clear hSw; go_simp; (try go_bits); (try rw [if_pos (by omega)]); (try with_reducible rfl)⟩) (hS) ?_
          try simp only [Act.put, List.setIfInBounds_toArray, List.set_cons_zero, List.set_cons_succ]
          refine WpT.take (i := 1) rfl (by kernel_rfl) (fun _ _ _ h => h) (yields_load1S rfl rfl rfl (by kernel_rfl) (fun W h => h.blk.cell 0)) (hS) ?_
          try simp only [Act.put, List.setIfInBounds_toArray, List.set_cons_zero, List.set_cons_succ]
          refine WpT.take (i := 2) rfl (by kernel_rfl) (fun _ _ _ h => h) (.inl ⟨by rfl, fun w hSw => by clear hSw; go_simp; (try go_bits); (try rw [if_pos (by omega)]); (try with_reducible rfl)⟩) (hS) ?_
          try simp only [Act.put, List.setIfInBounds_toArray, List.set_cons_zero, List.set_cons_succ]
          refine WpT.take (i := 3) rfl (by kernel_rfl) (fun _ _ _ h => h) (yields_load1S rfl rfl rfl (by kernel_rfl) (fun W h => HC0.out W h.old)) (hS) ?_
          try simp only [Act.put, List.setIfInBounds_toArray, List.set_cons_zero, List.set_cons_succ]
          refine WpT.take (i := 4) rfl (by kernel_rfl) (fun _ _ _ h => h) (.inl ⟨by rfl, fun w hSw => by clear hSw; go_simp; (try go_bits); (try rw [if_pos (by omega)]); (try with_reducible rfl)⟩) (hS) ?_
          try simp only [Act.put, List.setIfInBounds_toArray, List.set_cons_zero, List.set_cons_succ]
          refine WpT.take (i := 5) rfl (by kernel_rfl) (fun _ _ _ h => h) (.inl ⟨by rfl, fun w hSw => by clear hSw; go_simp; (try go_bits); (try rw [if_pos (by omega)]); (try with_reducible rfl)⟩) (hS) ?_
          try simp only [Act.put, List.setIfInBounds_toArray, List.set_cons_zero, List.set_cons_succ]
          refine WpT.take (i := 6) rfl (by kernel_rfl) (fun _ _ _ h => h) (yields_loadS (us := itL x) rfl rfl rfl aggIt (by rw [sizeIt, itL_len]) (fun W h => HC.out W h.old)) (hS) ?_
          try simp only [Act.put, List.setIfInBounds_toArray, List.set_cons_zero, List.set_cons_succ]
          refine WpT.one (i := 7) rfl (by kernel_rfl) (fun K hK => ?_)
          refine wp_lit1T (x := x) rfl (by rfl) ?_; intro wJ gJ hgJ bJ hbJ ltJ; clear hgJ; replace hS := hS.below hbJ; replace how := ownsRow_below how hbJ
          refine hK _ _ (hS) ?_; clear hK K; try simp only [Act.put, List.setIfInBounds_toArray, List.set_cons_zero, List.set_cons_succ]
          refine WpT.one (i := 8) rfl (by kernel_rfl) (fun K hK => ?_)
          refine wp_appK rfl elemIt (by rfl) how (by rfl) (m := 1) (ys := itsL [x]) (by have h := blk_rdL bJ; rw [itL_len] at h; simpa [itsL] using h) (one_itsL _) (by omega) (by have h1 : (wr.drew).heap.size ≤ wJ.heap.size := hbJ.size; have := HSZ.out; omega) ?_; intro v8 w8 hown8 hg8 hb8; have hne8 := own_ge how hg6lt; replace hS : OutS g6 w5 v w8 := ⟨hS.old.trans (hb8.mono hg6le), blk_grown hS.blk hg8 (fun e => hne8 e.symm)⟩
          refine hK _ _ (hS) ?_; clear hK K; try simp only [Act.put, List.setIfInBounds_toArray, List.set_cons_zero, List.set_cons_succ]
          refine WpT.take (i := 9) rfl (by kernel_rfl) (fun _ _ _ h => h) (.inl ⟨by rfl, fun w hSw => by clear hSw; go_simp; (try go_bits); (try rw [if_pos (by omega)]); (try with_reducible rfl)⟩) (hS) ?_
          try simp only [Act.put, List.setIfInBounds_toArray, List.set_cons_zero, List.set_cons_succ]
          refine WpT.tail (i := 10) rfl (by kernel_rfl) (by kernel_rfl) (fun K hK => ?_)
          refine wp_set (j := 0) (v := v8) (cs' := #[v8]) rfl (by kernel_rfl) (by rfl) (by rfl) (own_one hown8) hS.blk (by simp) (by simp) ?_; intro w9 ht9 b9
          refine hK _ _ ?_; clear hK K; try simp only [Act.put, List.setIfInBounds_toArray, List.set_cons_zero, List.set_cons_succ]
          refine WpT.done (by kernel_rfl) ?_ _
          skip
          have hS9 : OutS g6 w5 v8 w9 := ⟨hS.old.trans (ht9.below _ (Nat.le_refl _)), b9⟩
          have hown9 := ht9.own hown8 (own_ge hown8 hg6lt)
          have hsz9 : w5.heap.size ≤ w9.heap.size := by have := hb8.size; have h1 : (wr.drew).heap.size ≤ wJ.heap.size := hbJ.size; have := HSZ.out; rw [ht9.size]; omega
          clear hown8 hg8 hb8 ht9 hbJ bJ how
          have hfin : OwnTs w9 w5.heap.size v8 (outK l ⟨M, t⟩ L (k + 1)) := by
            unfold OwnTs
            rw [HX1.out, itsL_app, List.length_append]
            exact hown9
          clear hown9 hown hS HC HX1
          go_wp2_with fail
          exact ⟨⟨k + 1, v8, true, by omega, by go_num, rfl, Lib.hid (by simp; omega), hS9, hfin, hsz9⟩, by simp [intOf]; omega⟩
      · obtain rfl : k = m := by omega
        have hlm := HL.out
        have hol := outK_len l ⟨M, t⟩ L k (by omega)
        cases b
        · have hLk : ¬ L < k := by have := HB.out; simpa using this.symm
          have HE : Hid (outK l ⟨M, t⟩ L k ++ [⟨M, t⟩] = R) := Lib.hid (by have h := HE2.out (by omega); rwa [hlm] at h)
          clear HE1 HE2 HLT HGE HLS HB hlm
          obtain ⟨X0, hX0⟩ : ∃ X, outK l ⟨M, t⟩ L k = X := ⟨_, rfl⟩
          rw [hX0] at hown hol HE
          clear hX0
          have b5 := HC5.out _ hS0.old
          have c6 := hS0.blk.cell 0
          simp only [List.getElem?_toArray, List.getElem?_cons_zero] at c6
          have hbi := HBI.out
          have hown1 := hown
          unfold OwnTs at hown1
          go_upto_region 19 with first
            | ((with_reducible show wpList _ _ _ ({ dst := some 69, op := _, type := _, pos := _, after := _, guard := _ } :: _) _ _); refine wpList_loadRow rfl rfl rfl b5 aggDg (by rw [sizeDg, dgC_size]) ?_)
            | ((with_reducible show wpList _ _ _ ({ dst := some 71, op := _, type := _, pos := _, after := _, guard := _ } :: _) _ _); refine wpList_build2 (vx := dgV M) (vy := .string t) rfl rfl rfl rfl hbi ?_)
            | ((with_reducible show wpList _ _ _ ({ dst := some 72, op := _, type := _, pos := _, after := _, guard := _ } :: _) _ _); refine wpList_lit1T rfl (x := ⟨M, t⟩) rfl rfl ?_; intro wJ gJ hgJ bJ hbJ ltJ; clear hgJ; have hS2 := hS0.below hbJ; have hown2 := ownsRow_below hown1 hbJ)
            | ((with_reducible show wpList _ _ _ ({ dst := some 73, op := _, type := _, pos := _, after := _, guard := _ } :: _) _ _); refine wpList_appK rfl rfl elemIt rfl hown2 rfl (m := 1) (ys := itsL [⟨M, t⟩]) (by have h := blk_rdL bJ; rw [itL_len] at h; simpa [itsL] using h) (one_itsL _) (by omega) (by have := hbJ.size; omega) ?_; intro v7 w7 hown7 hg7 hb7; have hne7 := own_ge hown2 hg6lt; have hS7 : OutS g6 w5 v w7 := ⟨hS2.old.trans (hb7.mono hg6le), blk_grown hS2.blk hg7 (fun e => hne7 e.symm)⟩)
            | ((with_reducible show wpList _ _ _ ({ dst := none, op := _, type := _, pos := _, after := _, guard := _ } :: _) _ _); refine wpList_set (j := 0) (v := v7) (cs' := #[v7]) rfl rfl (by kernel_rfl) rfl rfl (own_one hown7) hS7.blk (by simp) (by simp) ?_; intro w10 ht10 b10)
          have hS : OutS g6 w5 v7 w10 := ⟨hS7.old.trans (ht10.below _ (Nat.le_refl _)), b10⟩
          have hown : OwnTs w10 w5.heap.size v7 R := by
            have h := ht10.own hown7 (own_ge hown7 hg6lt)
            rw [← HE.out]
            unfold OwnTs
            rw [itsL_app, List.length_append]
            exact h
          clear hown1 hown2 hown7 hS2 hS7 hg7 hb7 ht10 b10 bJ hbJ b5 c6 hol
          unfold OwnTs at hown
          obtain ⟨A9, c9, rfl, h91, h92, hr9⟩ := ownsRow_form hown
          have q1 := HQ1.out _ hS.old
          have hb := HBX.out _ hS.old
          have ha : Away A9 (w.heap.size + 1) := own_away hown (by omega)
          go_wp2_with first
            | ((with_reducible show wpList _ _ _ ({ dst := some 75, op := _, type := _, pos := _, after := _, guard := _ } :: _) _ _); refine wpList_loadRow rfl rfl rfl hS.blk aggSt (by rw [sizeSt]; rfl) ?_)
            | ((with_reducible show wpList _ _ _ ({ dst := some 76, op := _, type := _, pos := _, after := _, guard := _ } :: _) _ _); refine wpList_build1 rfl rfl rfl (build_did0 A9 R.length c9) ?_)
            | ((with_reducible show wpList _ _ _ ({ dst := none, op := _, type := _, pos := _, after := _, guard := _ } :: _) _ _); refine wpList_put (vs := didC A9 R.length c9 (.slice none 0 0) 0) rfl rfl rfl rfl q1 rfl (by rw [sizeDid]; rfl) (one_didC0 _ _ _ _) ?_; intro w11 ht11 b11)
          exact ret_blk rfl rfl rfl b11 aggDid (by rw [sizeDid]; rfl) ⟨A9, R.length, c9, rfl, ⟨rfl, hr9.turned ht11 ha⟩, h91, h92, hb.trans (ht11.below _ (by omega))⟩
        · have hLk : L < k := by have := HB.out; simpa using this.symm
          have hown : OwnTs wr w5.heap.size v R := by have h := HE1.out (by omega); rw [hlm] at h; rw [← h]; exact hown
          have hS := hS0
          clear HE1 HE2 HLT HGE HLS HB hlm hol
          unfold OwnTs at hown
          obtain ⟨A9, c9, rfl, h91, h92, hr9⟩ := ownsRow_form hown
          have q1 := HQ1.out _ hS.old
          have hb := HBX.out _ hS.old
          have ha : Away A9 (w.heap.size + 1) := own_away hown (by omega)
          go_wp2_with first
            | ((with_reducible show wpList _ _ _ ({ dst := some 75, op := _, type := _, pos := _, after := _, guard := _ } :: _) _ _); refine wpList_loadRow rfl rfl rfl hS.blk aggSt (by rw [sizeSt]; rfl) ?_)
            | ((with_reducible show wpList _ _ _ ({ dst := some 76, op := _, type := _, pos := _, after := _, guard := _ } :: _) _ _); refine wpList_build1 rfl rfl rfl (build_did0 A9 R.length c9) ?_)
            | ((with_reducible show wpList _ _ _ ({ dst := none, op := _, type := _, pos := _, after := _, guard := _ } :: _) _ _); refine wpList_put (vs := didC A9 R.length c9 (.slice none 0 0) 0) rfl rfl rfl rfl q1 rfl (by rw [sizeDid]; rfl) (one_didC0 _ _ _ _) ?_; intro w11 ht11 b11)
          exact ret_blk rfl rfl rfl b11 aggDid (by rw [sizeDid]; rfl) ⟨A9, R.length, c9, rfl, ⟨rfl, hr9.turned ht11 ha⟩, h91, h92, hb.trans (ht11.below _ (by omega))⟩
  · have hpl := place_true hs hK
    simp only [if_true]
    have dpl : decide (0 ≤ place l M) = true := by simpa using hpl
    generalize place l M = PL at *
    clear hr hl hs hg hK hnc hcm hpl
    go_enter Tryd.func19, Tryd.ntmps19
    go_upto_region 1 with (fail)
    change Code.wp _ _ _ _ ((w.alloc (.cells (stC A m c) 24)).alloc (.cells (didC none 0 0 (.slice none 0 0) 0) 41))
    rw [← HWA.out]
    go_wp2_with fail
    refine HN.out.mono ?_
    rintro e w1 ⟨rfl, hb1⟩
    go_upto_region 4 with first
      | ((with_reducible show wpList _ _ _ ({ dst := some 5, op := _, type := _, pos := _, after := _, guard := _ } :: _) _ _); refine wpList_new (cs := dgC 0) rfl rfl zeroDg ?_; intro w2 g5 hg5 q5 hb2 lt5; have HG5 := Lib.hid hg5; clear hg5)
      | ((with_reducible show wpList _ _ _ ({ dst := none, op := _, type := _, pos := _, after := _, guard := _ } :: _) _ _); refine wpList_put (vs := dgC M) rfl rfl rfl rfl q5 (by rw [dgC_size, dgC_size]) (by rw [sizeDg, dgC_size]) (one_dgC _) ?_; intro w3 ht3 b5)
    have hb := bstep hb1 (hb2.trans (ht3.below _ (by have := HG5.out; omega)))
    replace q0 := q0.below hb
    replace q1 := q1.below hb
    replace hb0 := bstep hb0 hb
    have HR3 := Lib.hid (HR.out.below hb)
    clear hb hb1 hb2 ht3 q5 HG5 lt5 HR HN
    go_wp2_with first
      | ((with_reducible show wpList _ _ _ ({ dst := some 16, op := _, type := _, pos := _, after := _, guard := _ } :: _) _ _); refine wpList_loadRow rfl rfl rfl q0 aggSt (by rw [sizeSt]; rfl) ?_)
      | ((with_reducible show wpList _ _ _ ({ dst := some 17, op := _, type := _, pos := _, after := _, guard := _ } :: _) _ _); refine wpList_loadRow rfl rfl rfl b5 aggDg (by rw [sizeDg, dgC_size]) ?_)
    refine (HPL.out _ HR3.out).mono ?_
    rintro e w4 ⟨rfl, hb4⟩
    replace q0 := q0.below hb4
    replace q1 := q1.below hb4
    replace hb0 := bstep hb0 hb4
    clear hb4 HPL HR3 b5
    go_wp2_with first
      | ((with_reducible show wpList _ _ _ ({ dst := some 20, op := _, type := _, pos := _, after := _, guard := _ } :: _) _ _); refine wpList_loadRow rfl rfl rfl q0 aggSt (by rw [sizeSt]; rfl) ?_)
      | ((with_reducible show wpList _ _ _ ({ dst := some 21, op := _, type := _, pos := _, after := _, guard := _ } :: _) _ _); refine wpList_build2 (vx := stV A m c) (vy := .int .i64 6) rfl rfl rfl rfl (build_did02 A m c 6) ?_)
      | ((with_reducible show wpList _ _ _ ({ dst := none, op := _, type := _, pos := _, after := _, guard := _ } :: _) _ _); refine wpList_put (vs := didC A m c (.slice none 0 0) 6) rfl rfl rfl rfl q1 rfl (by rw [sizeDid]; rfl) (one_didC0 _ _ _ _) ?_; intro w11 ht11 b11)
    exact ret_blk rfl rfl rfl b11 aggDid (by rw [sizeDid]; rfl) ⟨A, m, c, rfl, ⟨HL.out, (HRW.out.below hb0).rd.turned ht11 (HAU.out.away (by omega))⟩, HNC.out, HCM.out, hb0.trans (ht11.below _ (by omega))⟩
end Go.Proofs.YtieamjjnofelcaaDoor
namespace Go.Proofs.YtieamjjnofelcaaDoor
set_option linter.unusedSimpArgs false
set_option linter.unusedVariables false
open Go.RowKit Exch
theorem yields_build0W {P : Program} {ops : Array Oper} {S : World → Prop} {o : Oper} {a : Act} {T : TypeId} {v : Value} (hw : Region.wanted o (yielded ops a.tmps) = true) (ho : o.op = .build T #[]) (h : ∀ W, (Instr.build T #[]).run P W = .ok v W) : YieldsIf P ops S o v a := by
  refine .inl ⟨hw, fun w hS => ?_⟩
  unfold execOp
  simp only [ho, List.map_toArray, List.map_nil, Sem.run_bind, h, Result.andThen_ok, Sem.run_pure]
/-- A name's place holds its text. -/
theorem place_text {l : List It} {z : Nat} (hs : SortedN (nms l)) (h : knownN z (nms l) = true) : ∃ (k : Nat) (hk : k < l.length), place l z = k ∧ l[k].nm = z ∧ textOf l z = l[k].tx := by
  have h1 := place_true hs h
  obtain ⟨x, hx, e1, e2⟩ := textOf_mem hs ((known_mem hs).1 h)
  unfold place at h1 ⊢
  cases hf : l.findIdx? (fun x => decide (x.nm = z)) with
  | none => rw [hf] at h1; exact absurd h1 (by decide)
  | some k =>
    obtain ⟨hk, hkz, _⟩ := List.findIdx?_eq_some_iff_getElem.1 hf
    have hkz : l[k].nm = z := by simpa using hkz
    refine ⟨k, hk, rfl, hkz, ?_⟩
    obtain ⟨j, hj, rfl⟩ := List.mem_iff_getElem.1 hx
    have : j = k := by
      rcases Nat.lt_trichotomy j k with h | h | h
      · have := List.pairwise_iff_getElem.1 hs j k (by simpa using hj) (by simpa using hk) h
        simp at this; omega
      · exact h
      · have := List.pairwise_iff_getElem.1 hs k j (by simpa using hk) (by simpa using hj) h
        simp at this; omega
    subst this
    exact e2
set_option maxRecDepth 20000 in
set_option maxHeartbeats 16000000 in
theorem walkExchangeStocksAsSpecified (A : Option Addr) (n c : Nat) (l : List It) (t : ByteArray) (z v : Nat) (len : Int) (w : World) (hnc : n ≤ c) (hcm : c ≤ maxLen) (hr : RdT w A n l) (hl : ∀ x ∈ l, WfT x) (hAu : Under A w.heap.size) (htm : t.size ≤ maxLen) (hz : z < 2 ^ 128) (hv : v < 2 ^ 128) (hlw : (Lit.int .i64 len).wf = true) (hg : GCon w) (hrc : RCon w) :
    Calls Tryd.prog 3 #[stV A n c, .string t, dgV z, pxV v len] w fun e w' => e = .returned (.bool true) ∧ Below w.heap.size w w' := by
  obtain ⟨wa, hwa, hb0, q4, q6, q7⟩ : ∃ wa : World, wa = ((w.alloc (.cells (stC A n c) 24)).alloc (.cells (dgC z) 26)).alloc (.cells (pxC v len) 28) ∧ Below w.heap.size w wa ∧ Blk wa w.heap.size 24 (stC A n c) ∧ Blk wa (w.heap.size + 1) 26 (dgC z) ∧ Blk wa (w.heap.size + 1 + 1) 28 (pxC v len) :=
    ⟨_, rfl, (((Below.refl w.heap.size w).alloc (Nat.le_refl _) _).alloc (by simp) _).alloc (by simp; omega) _, ((Blk.new _ _ _).alloc _).alloc _, (Blk.new2 _ _ _ _).alloc _, by simpa [Blk] using Blk.new ((w.alloc (.cells (stC A n c) 24)).alloc (.cells (dgC z) 26)) 28 (pxC v len)⟩
  have HWA := Lib.hid hwa
  clear hwa
  have hn64 : n ≤ 9223372036854775807 := by unfold maxLen at hcm; omega
  have htm64 : t.size ≤ 9223372036854775807 := by unfold maxLen at htm; omega
  have HQ4 := Lib.hid (fun W (h : Below wa.heap.size wa W) => q4.below h)
  have HQ6 := Lib.hid (fun W (h : Below wa.heap.size wa W) => q6.below h)
  have HQ7 := Lib.hid (fun W (h : Below wa.heap.size wa W) => q7.below h)
  have HG := Lib.hid (fun W (h : Below wa.heap.size wa W) => (hg.below hb0).below h)
  have HRC := Lib.hid (fun W (h : Below wa.heap.size wa W) => (hrc.below hb0).below h)
  have HR := Lib.hid (fun W (h : Below wa.heap.size wa W) => (hr.below hb0).below h)
  have HAU := Lib.hid (hAu.le hb0.size)
  have HNC := Lib.hid hnc
  have HCM := Lib.hid hcm
  have HL := Lib.hid hl
  have HLN := Lib.hid hr.len
  have HFEW := Lib.hid (fun W h => few_any l A n c W hn64 (HR.out W h) hl)
  have HRT := Lib.hid (fun W => refRight_any v len W hv)
  have HRB : Hid (rightB v len = true → 0 ≤ len ∧ Right ⟨v, len.toNat⟩) := Lib.hid (rightB_iff hv).1
  generalize hRv : rightB v len = R at *
  clear hRv hr hl hAu htm hlw hg hrc hnc hcm q4 q6 q7
  have hbx := Below.refl wa.heap.size wa
  go_enter Tryd.func3, Tryd.ntmps3
  go_upto_region 1 with (fail)
  change Code.wp _ _ _ _ (((w.alloc (.cells (stC A n c) 24)).alloc (.cells (dgC z) 26)).alloc (.cells (pxC v len) 28))
  rw [← HWA.out]
  go_wp2_with first
    | ((with_reducible show wpList _ _ _ ({ dst := some 23, op := _, type := _, pos := _, after := _, guard := _ } :: _) _ _); refine wpList_loadRow rfl rfl rfl (HQ4.out _ hbx) aggSt (by rw [sizeSt]; rfl) ?_)
  refine (HFEW.out _ hbx).mono ?_
  rintro e wn ⟨V, rfl, hV, hbn⟩
  replace hbx := bstep hbx hbn
  have HVV := Lib.hid hV
  clear hbn hV
  cases V
  · go_wp2_with fail
    refine (sanity_any _ (HG.out _ hbx) (HRC.out _ hbx)).mono ?_
    rintro e w3 ⟨rfl, hb3⟩
    go_wp2_with fail
    go_ret
    exact ⟨rfl, (hb0.trans (hbx.mono hb0.size)).trans (hb3.mono (by have := hb0.size; have := hbx.size; omega))⟩
  by_cases ht : 200 < t.size
  · have dt : decide ((200 : Int) < t.size) = true := by simp; omega
    go_wp2_with fail
    refine (sanity_any _ (HG.out _ hbx) (HRC.out _ hbx)).mono ?_
    rintro e w3 ⟨rfl, hb3⟩
    go_wp2_with fail
    go_ret
    exact ⟨rfl, (hb0.trans (hbx.mono hb0.size)).trans (hb3.mono (by have := hb0.size; have := hbx.size; omega))⟩
  have dt : decide ((200 : Int) < t.size) = false := by simp; omega
  obtain ⟨h60, hs2⟩ := HVV.out rfl
  have HV1 := Lib.hid (fun W h => valid_any l A n c W (by omega) (HR.out W h) HL.out (fun x hx => by have := hs2 x hx; omega) (HG.out W h))
  have HV2 := Lib.hid (fun W h => refValid_any l A n c W (by omega) (HR.out W h) HL.out (fun x hx => by have := hs2 x hx; omega) (HRC.out W h))
  have HN1 := Lib.hid (fun W h => name_any t W (by omega) (HG.out W h))
  have HN2 := Lib.hid (fun W h => refName_any t W (by omega) (HRC.out W h))
  have HVL := Lib.hid (fun h => validS_vl (l := l) h hs2)
  have hneN := fun W => neq_Dg (nameOf_lt t) (nameOf_lt t) W
  simp only [decide_true, Bool.not_true] at hneN
  have HADD := Lib.hid (fun W h (hs : SortedN (nms l)) => exAdd_any l A n c t W (by omega) (HR.out W h) HNC.out HCM.out HL.out hs (by omega) (HG.out W h))
  have HRAD := Lib.hid (fun W h (hs : SortedN (nms l)) => refAdd_any l A n c t W (by omega) (HR.out W h) HNC.out HCM.out HL.out hs (HAU.out.le h.size) (by omega) (HRC.out W h))
  obtain ⟨r, hrr⟩ : ∃ r, addS l t = r := ⟨_, rfl⟩
  have HVA : Hid (Vl l → Vl r.1 ∧ r.1.length ≤ 61) := Lib.hid (fun h => by rw [← hrr]; exact ⟨addS_vl h (by omega), by have := addS_len l t; have := HLN.out; omega⟩)
  rw [hrr] at HADD HRAD
  clear hrr hs2 HVV ht
  generalize nameOf t = M at *
  generalize validS l = B at *
  have hnB : (B != B) = false := by cases B <;> rfl
  have hneB : ∀ W, (binOp .neq 4 (.bool B) (.bool B)).run Tryd.prog W = .ok (.bool false) W := fun W => by cases B <;> kernel_rfl
  go_upto_region 4 with fail
  go_cut [44] (fun v44 wx => v44 = .bool false ∧ Below wa.heap.size wa wx)
  case first =>
   have hS : Below wn.heap.size wn wn.drew := (Below.refl _ _).drew
   have hq := HQ4.out _ hbx
   refine wp_region_TB (S := Below (wn).heap.size (wn)) 12 (by kernel_rfl) ?_
   -- region 4: 12 operations, tail from 12
   refine WpT.take (i := 0) rfl (by kernel_rfl) (fun _ _ _ h => h) (yields_blk rfl rfl rfl aggSt (by rw [sizeSt]; rfl) hq) (hS) ?_
   try simp only [Act.put, List.setIfInBounds_toArray, List.set_cons_zero, List.set_cons_succ]
   refine WpT.take (i := 2) rfl (by kernel_rfl) (fun _ _ _ h => h) (yields_blk rfl rfl rfl aggSt (by rw [sizeSt]; rfl) hq) (hS) ?_
   try simp only [Act.put, List.setIfInBounds_toArray, List.set_cons_zero, List.set_cons_succ]
   refine WpT.one (i := 1) rfl (by kernel_rfl) (fun K hK => ?_)
   go_simp; refine (HV1.out _ (bstep hbx hS)).mono ?_; rintro e w3 ⟨rfl, hb3⟩; replace hS := bstep hS hb3
   refine hK _ _ (hS) ?_; clear hK K; try simp only [Act.put, List.setIfInBounds_toArray, List.set_cons_zero, List.set_cons_succ]
   refine WpT.one (i := 3) rfl (by kernel_rfl) (fun K hK => ?_)
   go_simp; refine (HV2.out _ (bstep hbx hS)).mono ?_; rintro e w4 ⟨rfl, hb4⟩; replace hS := bstep hS hb4
   refine hK _ _ (hS) ?_; clear hK K; try simp only [Act.put, List.setIfInBounds_toArray, List.set_cons_zero, List.set_cons_succ]
   refine WpT.take (i := 4) rfl (by kernel_rfl) (fun _ _ _ h => h) (.inl ⟨by rfl, fun w hSw => by clear hSw; go_simp; (try go_bits); (try rw [if_pos (by omega)]); (try with_reducible rfl)⟩) (hS) ?_
   try simp only [Act.put, List.setIfInBounds_toArray, List.set_cons_zero, List.set_cons_succ]
   refine WpT.take (i := 5) rfl (by kernel_rfl) (fun _ _ _ h => h) (.inl ⟨by rfl, fun w hSw => by clear hSw; go_simp; (try go_bits); (try rw [if_pos (by omega)]); (try with_reducible rfl)⟩) (hS) ?_
   try simp only [Act.put, List.setIfInBounds_toArray, List.set_cons_zero, List.set_cons_succ]
   refine WpT.take (i := 6) rfl (by kernel_rfl) (fun _ _ _ h => h) (.inl ⟨by rfl, fun w hSw => by clear hSw; go_simp; (try go_bits); (try rw [if_pos (by omega)]); (try with_reducible rfl)⟩) (hS) ?_
   try simp only [Act.put, List.setIfInBounds_toArray, List.set_cons_zero, List.set_cons_succ]
   refine WpT.take (i := 8) rfl (by kernel_rfl) (fun _ _ _ h => h) (.inl ⟨by rfl, fun w hSw => by clear hSw; go_simp; (try go_bits); (try rw [if_pos (by omega)]); (try with_reducible rfl)⟩) (hS) ?_
   try simp only [Act.put, List.setIfInBounds_toArray, List.set_cons_zero, List.set_cons_succ]
   refine WpT.one (i := 7) rfl (by kernel_rfl) (fun K hK => ?_)
   go_simp; refine (HN1.out _ (bstep hbx hS)).mono ?_; rintro e w5 ⟨rfl, hb5⟩; replace hS := bstep hS hb5
   refine hK _ _ (hS) ?_; clear hK K; try simp only [Act.put, List.setIfInBounds_toArray, List.set_cons_zero, List.set_cons_succ]
   refine WpT.one (i := 9) rfl (by kernel_rfl) (fun K hK => ?_)
   go_simp; refine (HN2.out _ (bstep hbx hS)).mono ?_; rintro e w6 ⟨rfl, hb6⟩; replace hS := bstep hS hb6
   refine hK _ _ (hS) ?_; clear hK K; try simp only [Act.put, List.setIfInBounds_toArray, List.set_cons_zero, List.set_cons_succ]
   refine WpT.take (i := 10) rfl (by kernel_rfl) (fun _ _ _ h => h) (.inl ⟨by rfl, fun w hSw => by clear hSw; go_simp; (try go_bits); (try rw [if_pos (by omega)]); (try with_reducible rfl)⟩) (hS) ?_
   try simp only [Act.put, List.setIfInBounds_toArray, List.set_cons_zero, List.set_cons_succ]
   refine WpT.take (i := 11) rfl (by kernel_rfl) (fun _ _ _ h => h) (.inl ⟨by rfl, fun w hSw => by clear hSw; go_simp; (try go_bits); (try rw [if_pos (by omega)]); (try with_reducible rfl)⟩) (hS) ?_
   try simp only [Act.put, List.setIfInBounds_toArray, List.set_cons_zero, List.set_cons_succ]
   refine WpT.done (by kernel_rfl) ?_ _
   go_wp2_with fail; go_meet; exact ⟨rfl, bstep hbx hS⟩
  case rest =>
    obtain ⟨rfl, hbx⟩ := hcut
    clear HV1 HN1 HN2 hneN hnB hneB
    go_wp2_with first
      | ((with_reducible show wpList _ _ _ ({ dst := some 45, op := _, type := _, pos := _, after := _, guard := _ } :: _) _ _); refine wpList_loadRow rfl rfl rfl (HQ7.out _ hbx) aggPx (by rw [sizePx, pxC_size]) ?_)
    refine (HRT.out _).mono ?_
    rintro e wn ⟨rfl, hbn⟩
    replace hbx := bstep hbx hbn
    clear hbn
    go_wp2_with first
      | ((with_reducible show wpList _ _ _ ({ dst := some 47, op := _, type := _, pos := _, after := _, guard := _ } :: _) _ _); refine wpList_loadRow rfl rfl rfl (HQ4.out _ hbx) aggSt (by rw [sizeSt]; rfl) ?_)
    refine (HV2.out _ hbx).mono ?_
    rintro e wn ⟨rfl, hbn⟩
    replace hbx := bstep hbx hbn
    clear hbn
    cases R
    · go_wp2_with fail
      refine (sanity_any _ (HG.out _ hbx) (HRC.out _ hbx)).mono ?_
      rintro e w3 ⟨rfl, hb3⟩
      go_wp2_with fail
      go_ret
      exact ⟨rfl, (hb0.trans (hbx.mono hb0.size)).trans (hb3.mono (by have := hb0.size; have := hbx.size; omega))⟩
    cases B
    · go_wp2_with fail
      refine (sanity_any _ (HG.out _ hbx) (HRC.out _ hbx)).mono ?_
      rintro e w3 ⟨rfl, hb3⟩
      go_wp2_with fail
      go_ret
      exact ⟨rfl, (hb0.trans (hbx.mono hb0.size)).trans (hb3.mono (by have := hb0.size; have := hbx.size; omega))⟩
    have hvl := HVL.out rfl
    obtain ⟨h0, hp⟩ := HRB.out rfl
    obtain ⟨L, rfl⟩ := Int.eq_ofNat_of_zero_le h0
    rw [Int.toNat_natCast] at hp
    have hso := hvl.so
    have HFI := Lib.hid (fun W h => Find_any l A n c z W (by omega) (HR.out W h) HL.out hso hz)
    have HPL := Lib.hid (fun W h => place_any l A n c z W (by omega) (HR.out W h) HL.out hz)
    have HAD1 := Lib.hid (fun W h => HADD.out W h hso)
    have HAD2 := Lib.hid (fun W h => HRAD.out W h hso)
    have HSU : Hid (∀ W, Below wa.heap.size wa W → Calls Tryd.prog 20 #[stV A n c, pxV v L] W fun e w' => e = .returned (.tuple #[dgV (sumOf (namL l ⟨v, L⟩)), .int .i64 (namL l ⟨v, L⟩).length]) ∧ Below W.heap.size W w') := Lib.hid (fun W h => exSum_any l A n c ⟨v, L⟩ W (by omega) (HR.out W h) HNC.out HCM.out HL.out hso hp (HG.out W h))
    have HRS : Hid (∀ W, Below wa.heap.size wa W → Calls Tryd.prog 21 #[stV A n c, pxV v L] W fun e w' => e = .returned (paV (sumP l ⟨v, L⟩) none 0 0) ∧ Below W.heap.size W w') := Lib.hid (fun W h => refSum44_any l A n c ⟨v, L⟩ W (by omega) (HR.out W h) HNC.out HCM.out HL.out hp (HRC.out W h))
    have HSP : Hid ((sumP l ⟨v, L⟩).sum = sumOf (namL l ⟨v, L⟩) ∧ (sumP l ⟨v, L⟩).count = (namL l ⟨v, L⟩).length) := Lib.hid ⟨by simp only [sumP], by simp only [sumP]⟩
    have hD := sumOf_lt (namL l ⟨v, L⟩)
    have HU1 : Hid (∀ W, Calls Tryd.prog 23 #[pxV v L, dgV z] W fun e w' => e = .returned (.bool (under ⟨v, L⟩ z)) ∧ Below W.heap.size W w') := Lib.hid (fun W => under_any ⟨v, L⟩ z W hp hz)
    have HU2 : Hid (∀ W, Calls Tryd.prog 24 #[pxV v L, dgV z] W fun e w' => e = .returned (.bool (under ⟨v, L⟩ z)) ∧ Below W.heap.size W w') := Lib.hid (fun W => refUnder_any ⟨v, L⟩ z W hp hz)
    have HNA1 : Hid (∀ W, Below wa.heap.size wa W → Calls Tryd.prog 26 #[stV A n c, pxV v L] W fun e w' => ∃ u, e = .returned u ∧ OwnDs w' W.heap.size u (namL l ⟨v, L⟩) ∧ Below W.heap.size W w') := Lib.hid (fun W h => names_any l A n c ⟨v, L⟩ W (by omega) (HR.out W h) HNC.out HCM.out HL.out hso hp)
    have HNA2 : Hid (∀ W, Below wa.heap.size wa W → Calls Tryd.prog 27 #[stV A n c, pxV v L] W fun e w' => ∃ u, e = .returned u ∧ OwnDs w' W.heap.size u (namL l ⟨v, L⟩) ∧ Below W.heap.size W w') := Lib.hid (fun W h => refNames_any l A n c ⟨v, L⟩ W (by omega) (HR.out W h) HNC.out HCM.out HL.out hp)
    have HSN : Hid (∀ W A1 n1 c1 A2 n2 c2, RdD W A1 n1 (namL l ⟨v, L⟩) → RdD W A2 n2 (namL l ⟨v, L⟩) → Calls Tryd.prog 25 #[.slice A1 n1 c1, .slice A2 n2 c2] W fun e w' => e = .returned (.bool true) ∧ Below W.heap.size W w') := Lib.hid (fun W A1 n1 c1 A2 n2 c2 h1 h2 => by
      have hlp : (namL l ⟨v, L⟩).length ≤ 60 := by have := namL_len (l := l) (p := ⟨v, L⟩); have := HLN.out; omega
      have hlt : ∀ x ∈ namL l ⟨v, L⟩, x < 2 ^ 128 := fun x hx => hvl.lt x (namL_mem.1 hx).1
      have h := sameNames_any _ _ A1 n1 c1 A2 n2 c2 W h1 h2 (by have := h1.len; omega) (by have := h2.len; omega) hlt hlt
      rwa [decide_eq_true rfl] at h)
    have HOP := Lib.hid (fun W h => open_any l A n c W (by omega) (HR.out W h) HNC.out HCM.out HL.out hso (HG.out W h))
    have HRS0 : Hid (∀ W, Below wa.heap.size wa W → Calls Tryd.prog 21 #[stV A n c, pxV 0 0] W fun e w' => e = .returned (paV (sumP l ⟨0, 0⟩) none 0 0) ∧ Below W.heap.size W w') := Lib.hid (fun W h => refSum44_any l A n c ⟨0, 0⟩ W (by omega) (HR.out W h) HNC.out HCM.out HL.out right0 (HRC.out W h))
    have HOK := Lib.hid (sumP_ok l ⟨0, 0⟩ right0)
    have HRN : Hid ((sumP l ⟨0, 0⟩).names = []) := Lib.hid (by simp only [sumP])
    obtain ⟨hvr, hlr⟩ := HVA.out hvl
    have HSM : Hid (∀ W A1 n1 c1 A2 n2 c2, RdT W A1 n1 r.1 → RdT W A2 n2 r.1 → Calls Tryd.prog 22 #[stV A1 n1 c1, stV A2 n2 c2] W fun e w' => e = .returned (.bool true) ∧ Below W.heap.size W w') := Lib.hid (fun W A1 n1 c1 A2 n2 c2 h1 h2 => by
      have h := same44_any r.1 r.1 A1 n1 c1 A2 n2 c2 W h1 h2 (by have := h1.len; omega) (by have := h2.len; omega) hvr.wf hvr.wf
      rwa [decide_eq_true rfl] at h)
    have HKT := Lib.hid (fun h => place_text (l := l) (z := z) hso h)
    have HKF := Lib.hid (fun h => place_false (l := l) (z := z) hso h)
    obtain ⟨T0, hT0⟩ : ∃ T0 : ByteArray, (if knownN z (nms l) then textOf l z else ⟨#[]⟩) = T0 := ⟨_, rfl⟩
    rw [hT0] at HFI
    have HT0 := Lib.hid hT0
    clear hT0
    generalize sumP l ⟨0, 0⟩ = S0 at *
    generalize namL l ⟨v, L⟩ = lp at *
    generalize sumP l ⟨v, L⟩ = SP at *
    generalize sumOf lp = D at *
    generalize textOf l z = T at *
    generalize knownN z (nms l) = K at *
    generalize place l z = PLC at *
    generalize under ⟨v, L⟩ z = U at *
    clear HFEW HV2 HVL HRT HRB HADD HRAD HVA hvl hso h0 hvr hlr
    have hbk := hbx
    clear hbk
    go_wp2_with first
      | ((with_reducible show wpList _ _ _ ({ dst := some 57, op := _, type := _, pos := _, after := _, guard := _ } :: _) _ _); refine wpList_loadRow rfl rfl rfl (HQ4.out _ hbx) aggSt (by rw [sizeSt]; rfl) ?_)
      | ((with_reducible show wpList _ _ _ ({ dst := some 58, op := _, type := _, pos := _, after := _, guard := _ } :: _) _ _); refine wpList_loadRow rfl rfl rfl (HQ6.out _ hbx) aggDg (by rw [sizeDg, dgC_size]) ?_)
    refine (HFI.out _ hbx).mono ?_
    rintro e wn ⟨rfl, hbn⟩
    replace hbx := bstep hbx hbn
    clear hbn
    go_wp2_with first
      | ((with_reducible show wpList _ _ _ ({ dst := some 62, op := _, type := _, pos := _, after := _, guard := _ } :: _) _ _); refine wpList_loadRow rfl rfl rfl (HQ4.out _ hbx) aggSt (by rw [sizeSt]; rfl) ?_)
      | ((with_reducible show wpList _ _ _ ({ dst := some 63, op := _, type := _, pos := _, after := _, guard := _ } :: _) _ _); refine wpList_loadRow rfl rfl rfl (HQ6.out _ hbx) aggDg (by rw [sizeDg, dgC_size]) ?_)
    refine (HPL.out _ hbx).mono ?_
    rintro e wn ⟨rfl, hbn⟩
    replace hbx := bstep hbx hbn
    clear hbn
    go_wp2_with first
      | ((with_reducible show wpList _ _ _ ({ dst := some 66, op := _, type := _, pos := _, after := _, guard := _ } :: _) _ _); refine wpList_loadRow rfl rfl rfl (HQ4.out _ hbx) aggSt (by rw [sizeSt]; rfl) ?_)
    refine (HAD1.out _ hbx).mono ?_
    rintro e wn ⟨A5, n5, c5, rfl, hr5, hn5, hc5, hbn, -⟩
    replace hbx := bstep hbx hbn
    clear hbn
    go_upto_region 13 with first
      | ((with_reducible show wpList _ _ _ ({ dst := some 15, op := _, type := _, pos := _, after := _, guard := _ } :: _) _ _); refine wpList_new rfl rfl zeroSt ?_; intro w15 g15 hg15 b15 hb15 lt15; have HG15 := Lib.hid hg15; clear hg15)
      | ((with_reducible show wpList _ _ _ ({ dst := none, op := _, type := _, pos := _, after := _, guard := _ } :: _) _ _); refine wpList_put (vs := stC A5 n5 c5) rfl rfl rfl rfl b15 rfl (by kernel_rfl) (by simp [Value.oneCell']) ?_; intro w15b ht15 b15b)
    replace hr5 := hr5.below (hb15.trans (ht15.below _ (by have := HG15.out; omega)))
    replace hbx := bstep hbx (hb15.trans (ht15.below _ (by have := HG15.out; omega)))
    clear hb15 ht15 b15 HG15 lt15
    go_wp2_with first
      | ((with_reducible show wpList _ _ _ ({ dst := some 71, op := _, type := _, pos := _, after := _, guard := _ } :: _) _ _); refine wpList_loadRow rfl rfl rfl (HQ4.out _ hbx) aggSt (by rw [sizeSt]; rfl) ?_)
    refine (HAD2.out _ hbx).mono ?_
    rintro e wn ⟨A6, n6, c6, rfl, hr6, hn6, hc6, hbn⟩
    replace hr5 := hr5.below hbn
    replace b15b := b15b.below hbn
    replace hbx := bstep hbx hbn
    clear hbn
    go_upto_region 14 with first
      | ((with_reducible show wpList _ _ _ ({ dst := some 17, op := _, type := _, pos := _, after := _, guard := _ } :: _) _ _); refine wpList_new rfl rfl zeroDid ?_; intro w17 g17 hg17 b17 hb17 lt17; have HG17 := Lib.hid hg17; clear hg17)
      | ((with_reducible show wpList _ _ _ ({ dst := none, op := _, type := _, pos := _, after := _, guard := _ } :: _) _ _); refine wpList_put (vs := didC A6 n6 c6 (.slice none 0 0) r.2) rfl rfl rfl rfl b17 rfl (by rw [sizeDid]; rfl) (one_didC0 _ _ _ _) ?_; intro w17b ht17 b17b)
    have hbn := hb17.trans (ht17.below _ (by have := HG17.out; omega))
    replace hr5 := hr5.below hbn
    replace hr6 := hr6.below hbn
    replace b15b := b15b.below hbn
    replace hbx := bstep hbx hbn
    clear hbn hb17 ht17 b17 HG17 lt17
    go_wp2_with first
      | ((with_reducible show wpList _ _ _ ({ dst := some 75, op := _, type := _, pos := _, after := _, guard := _ } :: _) _ _); refine wpList_loadRow rfl rfl rfl (HQ4.out _ hbx) aggSt (by rw [sizeSt]; rfl) ?_)
      | ((with_reducible show wpList _ _ _ ({ dst := some 76, op := _, type := _, pos := _, after := _, guard := _ } :: _) _ _); refine wpList_loadRow rfl rfl rfl (HQ7.out _ hbx) aggPx (by rw [sizePx, pxC_size]) ?_)
    refine (HSU.out _ hbx).mono ?_
    rintro e wn ⟨rfl, hbn⟩
    replace hr5 := hr5.below hbn
    replace hr6 := hr6.below hbn
    replace b15b := b15b.below hbn
    replace b17b := b17b.below hbn
    replace hbx := bstep hbx hbn
    clear hbn
    go_upto_region 15 with first
      | ((with_reducible show wpList _ _ _ ({ dst := some 18, op := _, type := _, pos := _, after := _, guard := _ } :: _) _ _); refine wpList_new (cs := dgC 0) rfl rfl zeroDg ?_; intro w18 g18 hg18 b18 hb18 lt18; have HG18 := Lib.hid hg18; clear hg18)
      | ((with_reducible show wpList _ _ _ ({ dst := none, op := _, type := _, pos := _, after := _, guard := _ } :: _) _ _); refine wpList_put (vs := dgC D) rfl rfl rfl rfl b18 (by rw [dgC_size, dgC_size]) (by rw [sizeDg, dgC_size]) (one_dgC _) ?_; intro w18b ht18 b18b)
    have hbn := hb18.trans (ht18.below _ (by have := HG18.out; omega))
    replace hr5 := hr5.below hbn
    replace hr6 := hr6.below hbn
    replace b15b := b15b.below hbn
    replace b17b := b17b.below hbn
    replace hbx := bstep hbx hbn
    clear hbn hb18 ht18 b18 HG18 lt18
    go_wp2_with first
      | ((with_reducible show wpList _ _ _ ({ dst := some 80, op := _, type := _, pos := _, after := _, guard := _ } :: _) _ _); refine wpList_loadRow rfl rfl rfl (HQ4.out _ hbx) aggSt (by rw [sizeSt]; rfl) ?_)
      | ((with_reducible show wpList _ _ _ ({ dst := some 81, op := _, type := _, pos := _, after := _, guard := _ } :: _) _ _); refine wpList_loadRow rfl rfl rfl (HQ7.out _ hbx) aggPx (by rw [sizePx, pxC_size]) ?_)
    refine (HRS.out _ hbx).mono ?_
    rintro e wn ⟨rfl, hbn⟩
    replace hr5 := hr5.below hbn
    replace hr6 := hr6.below hbn
    replace b15b := b15b.below hbn
    replace b17b := b17b.below hbn
    replace b18b := b18b.below hbn
    replace hbx := bstep hbx hbn
    clear hbn
    have hPs := paC_size SP none 0 0
    have hPq := paC_size pa0 none 0 0
    have hP1 := one_paC SP none 0 0
    obtain ⟨VP, hVP⟩ : ∃ V, paC SP none 0 0 = V := ⟨_, rfl⟩
    obtain ⟨VZ, hVZ⟩ : ∃ V, paC pa0 none 0 0 = V := ⟨_, rfl⟩
    have hZP : ∀ W, (zeroValue 47).run Tryd.prog W = .ok (.agg VZ) W := fun W => by rw [← hVZ]; exact zeroPa W
    rw [hVP] at hPs hP1
    rw [hVZ] at hPq
    have HVP : Hid (∀ W g, Blk W g 47 VP → (∀ j u, (bv (dg D))[j]? = some u → W.cell? ((⟨g, 18, none⟩ : Addr).add j) = some u) ∧ W.cell? ⟨g, 34, none⟩ = some (.int .i64 lp.length)) := Lib.hid (fun W g h => by
      rw [← hVP] at h
      have h1 := h.paD
      have h2 := h.paN
      rw [HSP.out.1] at h1
      rw [HSP.out.2] at h2
      exact ⟨h1, h2⟩)
    have HVPE := Lib.hid hVP
    clear hVP hVZ
    go_upto_region 16 with first
      | ((with_reducible show wpList _ _ _ ({ dst := some 20, op := _, type := _, pos := _, after := _, guard := _ } :: _) _ _); refine wpList_new rfl rfl hZP ?_; intro w20 g20 hg20 b20 hb20 lt20; have HG20 := Lib.hid hg20; clear hg20)
      | ((with_reducible show wpList _ _ _ ({ dst := none, op := _, type := _, pos := _, after := _, guard := _ } :: _) _ _); refine wpList_put (vs := VP) rfl rfl rfl (by show Value.agg (paC SP none 0 0) = _; rw [HVPE.out]) b20 (by rw [hPs, hPq]) (by rw [sizePa, hPs]) hP1 ?_; intro w20b ht20 b20b)
    have hbn := hb20.trans (ht20.below _ (by have := HG20.out; omega))
    replace hr5 := hr5.below hbn
    replace hr6 := hr6.below hbn
    replace b15b := b15b.below hbn
    replace b17b := b17b.below hbn
    replace b18b := b18b.below hbn
    replace hbx := bstep hbx hbn
    clear hbn hb20 ht20 b20 HG20 lt20 hPq hZP HSP HSU HRS
    try simp only [Act.put, List.setIfInBounds_toArray, List.set_cons_zero, List.set_cons_succ]
    go_cut [132] (fun v132 wx => v132 = .bool false ∧ Below wa.heap.size wa wx)
    case first =>
      have c15 := blk_cells (xs := [.slice A5 n5 c5]) b15b
      have c17 : ∀ j u, ([.slice A6 n6 c6] : List Value)[j]? = some u → w20b.cell? ((⟨g17, 0, none⟩ : Addr).add j) = some u := blk_at (xs := [.slice A6 n6 c6, .slice none 0 0, .int .i64 r.2]) b17b 0 (fun j u hj => by
        match j, hj with
        | 0, hj => simpa using hj)
      have c172 := b17b.cell 2
      simp only [List.getElem?_toArray, List.getElem?_cons_succ, List.getElem?_cons_zero] at c172
      have c18 := blk_cells b18b
      obtain ⟨d20, n20⟩ := HVP.out _ _ b20b
      have c4 := (HQ4.out _ hbx).cell 0
      simp only [List.getElem?_toArray, List.getElem?_cons_zero] at c4
      have hneD : ∀ W, (binOp .neq 26 (dgV D) (dgV D)).run Tryd.prog W = .ok (.bool false) W := fun W => by rw [neq_Dg hD hD]; simp
      have HS0 := Lib.hid (HSM.out _ _ _ c5 _ _ c6 hr5 hr6)
      clear hr5 hr6 b15b b17b b18b b20b HVP HVPE hPs hP1 HFI HPL HAD1 HAD2 HSM
      cases K
      · have hpk := HKF.out rfl
        subst hpk
        have hT := HT0.out
        rw [if_neg (by decide)] at hT
        subst hT
        clear c4
        go_wp2_with first
          | ((with_reducible show wpList _ _ _ ({ dst := some 115, op := _, type := _, pos := _, after := _, guard := _ } :: _) _ _); refine wpList_loadKW (us := [.slice A5 n5 c5]) (by rfl) rfl rfl aggSt (by rw [sizeSt]; rfl) c15 ?_)
          | ((with_reducible show wpList _ _ _ ({ dst := some 117, op := _, type := _, pos := _, after := _, guard := _ } :: _) _ _); refine wpList_loadKW (us := [.slice A6 n6 c6]) (by rfl) rfl rfl aggSt (by rw [sizeSt]; rfl) c17 ?_)
        refine HS0.out.mono ?_
        rintro e wn ⟨rfl, hbn⟩
        replace c18 := fun j u hj => cell_later hbn (c18 j u hj)
        replace d20 := fun j u hj => cell_later hbn (d20 j u hj)
        replace n20 := cell_later hbn n20
        replace hbx := bstep hbx hbn
        clear hbn
        go_wp2_with first
          | ((with_reducible show wpList _ _ _ ({ dst := some 122, op := _, type := _, pos := _, after := _, guard := _ } :: _) _ _); refine wpList_loadKW (us := bv (dg D)) (by rfl) rfl rfl aggDg (by rw [sizeDg, bv_dg_len]) c18 ?_)
          | ((with_reducible show wpList _ _ _ ({ dst := some 124, op := _, type := _, pos := _, after := _, guard := _ } :: _) _ _); refine wpList_loadKW (us := bv (dg D)) (by rfl) rfl rfl aggDg (by rw [sizeDg, bv_dg_len]) d20 ?_)
        go_meet
        exact ⟨rfl, hbx⟩
    
      · obtain ⟨k, hk, hpk, -, hkt⟩ := HKT.out rfl
        subst hpk
        have hT := HT0.out
        rw [if_pos rfl] at hT
        subst hT
        have hkn : k < n := by have := HLN.out; omega
        obtain ⟨ad, had, hel⟩ := (HR.out _ hbx).elem hk
        subst had
        have hte : w20b.cell? ⟨(ad.add (k * 17)).block, (ad.add (k * 17)).off + 16, none⟩ = some (.string T) := by rw [hkt]; exact it_text hel
        clear hel hkt
        have hk0 : decide ((0 : Int) ≤ (k : Int)) = true := by simp
        go_wp2_with first
          | ((with_reducible show wpList _ _ _ ({ dst := some 115, op := _, type := _, pos := _, after := _, guard := _ } :: _) _ _); refine wpList_loadKW (us := [.slice A5 n5 c5]) (by rfl) rfl rfl aggSt (by rw [sizeSt]; rfl) c15 ?_)
          | ((with_reducible show wpList _ _ _ ({ dst := some 117, op := _, type := _, pos := _, after := _, guard := _ } :: _) _ _); refine wpList_loadKW (us := [.slice A6 n6 c6]) (by rfl) rfl rfl aggSt (by rw [sizeSt]; rfl) c17 ?_)
        refine HS0.out.mono ?_
        rintro e wn ⟨rfl, hbn⟩
        replace c18 := fun j u hj => cell_later hbn (c18 j u hj)
        replace d20 := fun j u hj => cell_later hbn (d20 j u hj)
        replace n20 := cell_later hbn n20
        replace hbx := bstep hbx hbn
        clear hbn
        go_wp2_with first
          | ((with_reducible show wpList _ _ _ ({ dst := some 122, op := _, type := _, pos := _, after := _, guard := _ } :: _) _ _); refine wpList_loadKW (us := bv (dg D)) (by rfl) rfl rfl aggDg (by rw [sizeDg, bv_dg_len]) c18 ?_)
          | ((with_reducible show wpList _ _ _ ({ dst := some 124, op := _, type := _, pos := _, after := _, guard := _ } :: _) _ _); refine wpList_loadKW (us := bv (dg D)) (by rfl) rfl rfl aggDg (by rw [sizeDg, bv_dg_len]) d20 ?_)
        go_meet
        exact ⟨rfl, hbx⟩
    case rest =>
      obtain ⟨rfl, hbx⟩ := hcut
      clear hr5 hr6 b15b b17b b18b b20b HVP HVPE hPs hP1 HFI HPL HAD1 HAD2 HSM HKT HKF
      have hneU : ∀ W, (binOp .neq 4 (.bool U) (.bool U)).run Tryd.prog W = .ok (.bool false) W := fun W => by cases U <;> kernel_rfl
      have hUU : (U != U) = false := by cases U <;> rfl
      go_upto_region 18 with fail
      go_cut [160] (fun v160 wx => v160 = .bool false ∧ Below wa.heap.size wa wx)
      case first =>
       have hS : Below wc.heap.size wc wc.drew := (Below.refl _ _).drew
       have hq4 := HQ4.out _ hbx
       have hq6 := HQ6.out _ hbx
       have hq7 := HQ7.out _ hbx
       have hcs := blk_cells (xs := [.slice A n c]) hq4
       have hcp := px_cells hq7
       refine wp_region_TB (S := Below (wc).heap.size (wc)) 28 (by kernel_rfl) ?_
       -- region 18: 28 operations, tail from 28
       refine WpT.take (i := 0) rfl (by kernel_rfl) (fun _ _ _ h => h) (yields_blk rfl rfl rfl aggPx (by rw [sizePx, pxC_size]) hq7) (hS) ?_
       try simp only [Act.put, List.setIfInBounds_toArray, List.set_cons_zero, List.set_cons_succ]
       refine WpT.take (i := 1) rfl (by kernel_rfl) (fun _ _ _ h => h) (yields_blk rfl rfl rfl aggDg (by rw [sizeDg, dgC_size]) hq6) (hS) ?_
       try simp only [Act.put, List.setIfInBounds_toArray, List.set_cons_zero, List.set_cons_succ]
       refine WpT.take (i := 3) rfl (by kernel_rfl) (fun _ _ _ h => h) (yields_blk rfl rfl rfl aggPx (by rw [sizePx, pxC_size]) hq7) (hS) ?_
       try simp only [Act.put, List.setIfInBounds_toArray, List.set_cons_zero, List.set_cons_succ]
       refine WpT.take (i := 4) rfl (by kernel_rfl) (fun _ _ _ h => h) (yields_blk rfl rfl rfl aggDg (by rw [sizeDg, dgC_size]) hq6) (hS) ?_
       try simp only [Act.put, List.setIfInBounds_toArray, List.set_cons_zero, List.set_cons_succ]
       refine WpT.one (i := 2) rfl (by kernel_rfl) (fun K hK => ?_)
       go_simp; refine (HU1.out _).mono ?_; rintro e w3 ⟨rfl, hb3⟩; replace hS := bstep hS hb3
       refine hK _ _ (hS) ?_; clear hK K; try simp only [Act.put, List.setIfInBounds_toArray, List.set_cons_zero, List.set_cons_succ]
       refine WpT.one (i := 5) rfl (by kernel_rfl) (fun K hK => ?_)
       go_simp; refine (HU2.out _).mono ?_; rintro e w4 ⟨rfl, hb4⟩; replace hS := bstep hS hb4
       refine hK _ _ (hS) ?_; clear hK K; try simp only [Act.put, List.setIfInBounds_toArray, List.set_cons_zero, List.set_cons_succ]
       refine WpT.take (i := 6) rfl (by kernel_rfl) (fun _ _ _ h => h) (.inl ⟨by rfl, fun w hSw => by clear hSw; go_simp; (try go_bits); (try rw [if_pos (by omega)]); (try with_reducible rfl)⟩) (hS) ?_
       try simp only [Act.put, List.setIfInBounds_toArray, List.set_cons_zero, List.set_cons_succ]
       refine WpT.take (i := 7) rfl (by kernel_rfl) (fun _ _ _ h => h) (.inl ⟨by rfl, fun w hSw => by clear hSw; go_simp; (try go_bits); (try rw [if_pos (by omega)]); (try with_reducible rfl)⟩) (hS) ?_
       try simp only [Act.put, List.setIfInBounds_toArray, List.set_cons_zero, List.set_cons_succ]
       refine WpT.take (i := 8) rfl (by kernel_rfl) (fun _ _ _ h => h) (yields_loadKW (us := [.slice A n c]) (by rfl) rfl rfl aggSt (by rw [sizeSt]; rfl) hcs) (hS) ?_
       try simp only [Act.put, List.setIfInBounds_toArray, List.set_cons_zero, List.set_cons_succ]
       refine WpT.take (i := 9) rfl (by kernel_rfl) (fun _ _ _ h => h) (yields_loadKW (us := pxL v L) (by rfl) rfl rfl aggPx (by rw [sizePx, pxL_len]) hcp) (hS) ?_
       try simp only [Act.put, List.setIfInBounds_toArray, List.set_cons_zero, List.set_cons_succ]
       refine WpT.take (i := 11) rfl (by kernel_rfl) (fun _ _ _ h => h) (yields_loadKW (us := [.slice A n c]) (by rfl) rfl rfl aggSt (by rw [sizeSt]; rfl) hcs) (hS) ?_
       try simp only [Act.put, List.setIfInBounds_toArray, List.set_cons_zero, List.set_cons_succ]
       refine WpT.take (i := 12) rfl (by kernel_rfl) (fun _ _ _ h => h) (yields_loadKW (us := pxL v L) (by rfl) rfl rfl aggPx (by rw [sizePx, pxL_len]) hcp) (hS) ?_
       try simp only [Act.put, List.setIfInBounds_toArray, List.set_cons_zero, List.set_cons_succ]
       refine WpT.one (i := 10) rfl (by kernel_rfl) (fun K hK => ?_)
       go_simp; refine (HNA1.out _ (bstep hbx hS)).mono ?_; rintro e w5 ⟨v5, rfl, own5, hb5⟩; replace hS := bstep hS hb5
       refine hK _ _ (hS) ?_; clear hK K; try simp only [Act.put, List.setIfInBounds_toArray, List.set_cons_zero, List.set_cons_succ]
       refine WpT.one (i := 13) rfl (by kernel_rfl) (fun K hK => ?_)
       go_simp; refine (HNA2.out _ (bstep hbx hS)).mono ?_; rintro e w6 ⟨v6, rfl, own6, hb6⟩; replace own5 := own5.below hb6; replace hS := bstep hS hb6
       refine hK _ _ (hS) ?_; clear hK K; try simp only [Act.put, List.setIfInBounds_toArray, List.set_cons_zero, List.set_cons_succ]
       refine WpT.one (i := 14) rfl (by kernel_rfl) (fun K hK => ?_)
       obtain ⟨A5, c5, rfl, -, -, hr5⟩ := own5.form; obtain ⟨A6, c6, rfl, -, -, hr6⟩ := own6.form; go_simp; refine (HSN.out _ _ _ _ _ _ _ hr5 hr6).mono ?_; rintro e w7 ⟨rfl, hb7⟩; replace hS := bstep hS hb7
       refine hK _ _ (hS) ?_; clear hK K; try simp only [Act.put, List.setIfInBounds_toArray, List.set_cons_zero, List.set_cons_succ]
       refine WpT.take (i := 15) rfl (by kernel_rfl) (fun _ _ _ h => h) (.inl ⟨by rfl, fun w hSw => by clear hSw; go_simp; (try go_bits); (try rw [if_pos (by omega)]); (try with_reducible rfl)⟩) (hS) ?_
       try simp only [Act.put, List.setIfInBounds_toArray, List.set_cons_zero, List.set_cons_succ]
       refine WpT.take (i := 16) rfl (by kernel_rfl) (fun _ _ _ h => h) (.inl ⟨by rfl, fun w hSw => by clear hSw; go_simp; (try go_bits); (try rw [if_pos (by omega)]); (try with_reducible rfl)⟩) (hS) ?_
       try simp only [Act.put, List.setIfInBounds_toArray, List.set_cons_zero, List.set_cons_succ]
       refine WpT.take (i := 17) rfl (by kernel_rfl) (fun _ _ _ h => h) (.inl ⟨by rfl, fun w hSw => by clear hSw; go_simp; (try go_bits); (try rw [if_pos (by omega)]); (try with_reducible rfl)⟩) (hS) ?_
       try simp only [Act.put, List.setIfInBounds_toArray, List.set_cons_zero, List.set_cons_succ]
       refine WpT.take (i := 18) rfl (by kernel_rfl) (fun _ _ _ h => h) (yields_loadKW (us := [.slice A n c]) (by rfl) rfl rfl aggSt (by rw [sizeSt]; rfl) hcs) (hS) ?_
       try simp only [Act.put, List.setIfInBounds_toArray, List.set_cons_zero, List.set_cons_succ]
       refine WpT.take (i := 21) rfl (by kernel_rfl) (fun _ _ _ h => h) (yields_loadKW (us := [.slice A n c]) (by rfl) rfl rfl aggSt (by rw [sizeSt]; rfl) hcs) (hS) ?_
       try simp only [Act.put, List.setIfInBounds_toArray, List.set_cons_zero, List.set_cons_succ]
       refine WpT.take (i := 22) rfl (by kernel_rfl) (fun _ _ _ h => h) (yields_build0W (by rfl) rfl build_px0) (hS) ?_
       try simp only [Act.put, List.setIfInBounds_toArray, List.set_cons_zero, List.set_cons_succ]
       refine WpT.one (i := 19) rfl (by kernel_rfl) (fun K hK => ?_)
       go_simp; refine (HOP.out _ (bstep hbx hS)).mono ?_; rintro e w8 ⟨rfl, hb8⟩; replace hS := bstep hS hb8
       refine hK _ _ (hS) ?_; clear hK K; try simp only [Act.put, List.setIfInBounds_toArray, List.set_cons_zero, List.set_cons_succ]
       refine WpT.fork (i := 20) (j := 23) rfl rfl (by kernel_rfl) (fun K hK => ?_) (fun K hK => ?_)
       · refine (if_pos (by rfl)).mpr ?_; refine wp_lit1P ⟨S0, none, 0, 0⟩ rfl (by rfl) ?_; intro wE gE hgE hrE hbE; clear hgE; replace hS := bstep hS hbE; (try replace hrF := hrF.below hbE)
         refine hK _ _ (hS) ?_; clear hK K; try simp only [Act.put, List.setIfInBounds_toArray, List.set_cons_zero, List.set_cons_succ]
         refine WpT.one (i := 23) rfl (by kernel_rfl) (fun K hK => ?_)
         go_simp; refine (HRS0.out _ (bstep hbx hS)).mono ?_; rintro e w9 ⟨rfl, hb9⟩; replace hS := bstep hS hb9; (try replace hrE := hrE.below hb9)
         refine hK _ _ (hS) ?_; clear hK K; try simp only [Act.put, List.setIfInBounds_toArray, List.set_cons_zero, List.set_cons_succ]
         refine WpT.one (i := 24) rfl (by kernel_rfl) (fun K hK => ?_)
         refine (if_pos (by rfl)).mpr ?_; refine wp_lit1P ⟨S0, none, 0, 0⟩ rfl (by rfl) ?_; intro wF gF hgF hrF hbF; clear hgF; replace hS := bstep hS hbF; (try replace hrE := hrE.below hbF)
         refine hK _ _ (hS) ?_; clear hK K; try simp only [Act.put, List.setIfInBounds_toArray, List.set_cons_zero, List.set_cons_succ]
         refine WpT.one (i := 25) rfl (by kernel_rfl) (fun K hK => ?_)
         go_simp; refine (sameParcels_any [⟨S0, none, 0, 0⟩] [⟨S0, none, 0, 0⟩] _ 1 _ _ 1 _ _ rfl hrE rfl hrF (by omega) rfl (fun r hr => by obtain rfl := List.mem_singleton.1 hr; show RdD _ none 0 S0.names; rw [HRN.out]; exact RdD.none_ _) (fun r hr => by obtain rfl := List.mem_singleton.1 hr; show RdD _ none 0 S0.names; rw [HRN.out]; exact RdD.none_ _) (fun r hr => by obtain rfl := List.mem_singleton.1 hr; exact HOK.out)).mono ?_; rintro e w10 ⟨rfl, hb10⟩; replace hS := bstep hS hb10
         refine hK _ _ (hS) ?_; clear hK K; try simp only [Act.put, List.setIfInBounds_toArray, List.set_cons_zero, List.set_cons_succ]
         refine WpT.take (i := 26) rfl (by kernel_rfl) (fun _ _ _ h => h) (.inl ⟨by rfl, fun w hSw => by clear hSw; go_simp; (try go_bits); (try rw [if_pos (by omega)]); (try with_reducible rfl)⟩) (hS) ?_
         try simp only [Act.put, List.setIfInBounds_toArray, List.set_cons_zero, List.set_cons_succ]
         refine WpT.take (i := 27) rfl (by kernel_rfl) (fun _ _ _ h => h) (.inl ⟨by rfl, fun w hSw => by clear hSw; go_simp; (try go_bits); (try rw [if_pos (by omega)]); (try with_reducible rfl)⟩) (hS) ?_
         try simp only [Act.put, List.setIfInBounds_toArray, List.set_cons_zero, List.set_cons_succ]
         refine WpT.done (by kernel_rfl) ?_ _
         go_wp2_with fail; go_meet; exact ⟨rfl, bstep hbx hS⟩
       · go_simp; refine (HRS0.out _ (bstep hbx hS)).mono ?_; rintro e w9 ⟨rfl, hb9⟩; replace hS := bstep hS hb9; (try replace hrE := hrE.below hb9)
         refine hK _ _ (hS) ?_; clear hK K; try simp only [Act.put, List.setIfInBounds_toArray, List.set_cons_zero, List.set_cons_succ]
         refine WpT.fork (i := 20) (j := 24) rfl rfl (by kernel_rfl) (fun K hK => ?_) (fun K hK => ?_)
         · refine (if_pos (by rfl)).mpr ?_; refine wp_lit1P ⟨S0, none, 0, 0⟩ rfl (by rfl) ?_; intro wE gE hgE hrE hbE; clear hgE; replace hS := bstep hS hbE; (try replace hrF := hrF.below hbE)
           refine hK _ _ (hS) ?_; clear hK K; try simp only [Act.put, List.setIfInBounds_toArray, List.set_cons_zero, List.set_cons_succ]
           refine WpT.one (i := 24) rfl (by kernel_rfl) (fun K hK => ?_)
           refine (if_pos (by rfl)).mpr ?_; refine wp_lit1P ⟨S0, none, 0, 0⟩ rfl (by rfl) ?_; intro wF gF hgF hrF hbF; clear hgF; replace hS := bstep hS hbF; (try replace hrE := hrE.below hbF)
           refine hK _ _ (hS) ?_; clear hK K; try simp only [Act.put, List.setIfInBounds_toArray, List.set_cons_zero, List.set_cons_succ]
           refine WpT.one (i := 25) rfl (by kernel_rfl) (fun K hK => ?_)
           go_simp; refine (sameParcels_any [⟨S0, none, 0, 0⟩] [⟨S0, none, 0, 0⟩] _ 1 _ _ 1 _ _ rfl hrE rfl hrF (by omega) rfl (fun r hr => by obtain rfl := List.mem_singleton.1 hr; show RdD _ none 0 S0.names; rw [HRN.out]; exact RdD.none_ _) (fun r hr => by obtain rfl := List.mem_singleton.1 hr; show RdD _ none 0 S0.names; rw [HRN.out]; exact RdD.none_ _) (fun r hr => by obtain rfl := List.mem_singleton.1 hr; exact HOK.out)).mono ?_; rintro e w10 ⟨rfl, hb10⟩; replace hS := bstep hS hb10
           refine hK _ _ (hS) ?_; clear hK K; try simp only [Act.put, List.setIfInBounds_toArray, List.set_cons_zero, List.set_cons_succ]
           refine WpT.take (i := 26) rfl (by kernel_rfl) (fun _ _ _ h => h) (.inl ⟨by rfl, fun w hSw => by clear hSw; go_simp; (try go_bits); (try rw [if_pos (by omega)]); (try with_reducible rfl)⟩) (hS) ?_
           try simp only [Act.put, List.setIfInBounds_toArray, List.set_cons_zero, List.set_cons_succ]
           refine WpT.take (i := 27) rfl (by kernel_rfl) (fun _ _ _ h => h) (.inl ⟨by rfl, fun w hSw => by clear hSw; go_simp; (try go_bits); (try rw [if_pos (by omega)]); (try with_reducible rfl)⟩) (hS) ?_
           try simp only [Act.put, List.setIfInBounds_toArray, List.set_cons_zero, List.set_cons_succ]
           refine WpT.done (by kernel_rfl) ?_ _
           go_wp2_with fail; go_meet; exact ⟨rfl, bstep hbx hS⟩
         · refine (if_pos (by rfl)).mpr ?_; refine wp_lit1P ⟨S0, none, 0, 0⟩ rfl (by rfl) ?_; intro wF gF hgF hrF hbF; clear hgF; replace hS := bstep hS hbF; (try replace hrE := hrE.below hbF)
           refine hK _ _ (hS) ?_; clear hK K; try simp only [Act.put, List.setIfInBounds_toArray, List.set_cons_zero, List.set_cons_succ]
           refine WpT.one (i := 20) rfl (by kernel_rfl) (fun K hK => ?_)
           refine (if_pos (by rfl)).mpr ?_; refine wp_lit1P ⟨S0, none, 0, 0⟩ rfl (by rfl) ?_; intro wE gE hgE hrE hbE; clear hgE; replace hS := bstep hS hbE; (try replace hrF := hrF.below hbE)
           refine hK _ _ (hS) ?_; clear hK K; try simp only [Act.put, List.setIfInBounds_toArray, List.set_cons_zero, List.set_cons_succ]
           refine WpT.one (i := 25) rfl (by kernel_rfl) (fun K hK => ?_)
           go_simp; refine (sameParcels_any [⟨S0, none, 0, 0⟩] [⟨S0, none, 0, 0⟩] _ 1 _ _ 1 _ _ rfl hrE rfl hrF (by omega) rfl (fun r hr => by obtain rfl := List.mem_singleton.1 hr; show RdD _ none 0 S0.names; rw [HRN.out]; exact RdD.none_ _) (fun r hr => by obtain rfl := List.mem_singleton.1 hr; show RdD _ none 0 S0.names; rw [HRN.out]; exact RdD.none_ _) (fun r hr => by obtain rfl := List.mem_singleton.1 hr; exact HOK.out)).mono ?_; rintro e w10 ⟨rfl, hb10⟩; replace hS := bstep hS hb10
           refine hK _ _ (hS) ?_; clear hK K; try simp only [Act.put, List.setIfInBounds_toArray, List.set_cons_zero, List.set_cons_succ]
           refine WpT.take (i := 26) rfl (by kernel_rfl) (fun _ _ _ h => h) (.inl ⟨by rfl, fun w hSw => by clear hSw; go_simp; (try go_bits); (try rw [if_pos (by omega)]); (try with_reducible rfl)⟩) (hS) ?_
           try simp only [Act.put, List.setIfInBounds_toArray, List.set_cons_zero, List.set_cons_succ]
           refine WpT.take (i := 27) rfl (by kernel_rfl) (fun _ _ _ h => h) (.inl ⟨by rfl, fun w hSw => by clear hSw; go_simp; (try go_bits); (try rw [if_pos (by omega)]); (try with_reducible rfl)⟩) (hS) ?_
           try simp only [Act.put, List.setIfInBounds_toArray, List.set_cons_zero, List.set_cons_succ]
           refine WpT.done (by kernel_rfl) ?_ _
           go_wp2_with fail; go_meet; exact ⟨rfl, bstep hbx hS⟩
      case rest =>
        obtain ⟨rfl, hbx⟩ := hcut
        clear hneU hUU HU1 HU2 HNA1 HNA2 HSN HOP HRS0 HOK HRN
        have c16 := (HQ7.out _ hbx).pxN
        by_cases h128 : L = 128
        · have d1 : ((L : Int) == 128) = true := by rw [h128]; rfl
          have d2 : decide ((L : Int) = 128) = true := by rw [h128]; rfl
          have h128' := Lib.hid h128
          clear h128
          go_wp2_with fail
          refine (sanity_any _ (HG.out _ hbx) (HRC.out _ hbx)).mono ?_
          rintro e w3 ⟨rfl, hb3⟩
          go_wp2_with fail
          go_ret
          exact ⟨rfl, (hb0.trans (hbx.mono hb0.size)).trans (hb3.mono (by have := hb0.size; have := hbx.size; omega))⟩
        have d1 : ((L : Int) == 128) = false := by simp; omega
        have d2 : decide ((L : Int) = 128) = false := by simp; omega
        have hL : L ≤ 127 := by have := hp.len; simp only at this; omega
        have hlt2 := hp.lt2 hL
        have hzz := hp.z
        simp only at hlt2 hzz
        have HH := Lib.hid (fun W => halves_any v L W hv hL hzz hlt2)
        have HH1 : Hid (∀ W, Calls Tryd.prog 31 #[pxV v L, .bool false] W fun e w' => e = .returned (pxV v ((L + 1 : Nat) : Int)) ∧ Below W.heap.size W w') := Lib.hid (fun W => by have h := refHalf_any v L false W hv hL hzz hlt2; simpa only [Bool.false_eq_true, if_false] using h)
        have HH2 : Hid (∀ W, Calls Tryd.prog 31 #[pxV v L, .bool true] W fun e w' => e = .returned (pxV (v + 2 ^ (127 - L)) ((L + 1 : Nat) : Int)) ∧ Below W.heap.size W w') := Lib.hid (fun W => by have h := refHalf_any v L true W hv hL hzz hlt2; simpa only [if_true] using h)
        have heq1 : ∀ W, (binOp .eql 28 (pxV v ((L + 1 : Nat) : Int)) (pxV v ((L + 1 : Nat) : Int))).run Tryd.prog W = .ok (.bool true) W := fun W => by rw [eql_Px hv hv, (eqP_iff (v := v) (n := ((L + 1 : Nat) : Int))).2 ⟨rfl, rfl⟩]
        have heq2 : ∀ W, (binOp .eql 28 (pxV (v + 2 ^ (127 - L)) ((L + 1 : Nat) : Int)) (pxV (v + 2 ^ (127 - L)) ((L + 1 : Nat) : Int))).run Tryd.prog W = .ok (.bool true) W := fun W => by rw [eql_Px hlt2 hlt2, (eqP_iff (v := v + 2 ^ (127 - L)) (n := ((L + 1 : Nat) : Int))).2 ⟨rfl, rfl⟩]
        obtain ⟨Zx, hZx, hZs⟩ : ∃ Z : Array Value, (∀ W, (zeroValue 28).run Tryd.prog W = .ok (.agg Z) W) ∧ Z.size = 17 := ⟨_, zeroPx, rfl⟩
        generalize v + 2 ^ (127 - L) = v2 at *
        generalize ((L + 1 : Nat) : Int) = n2 at *
        clear hlt2 hzz h128
        go_wp2_with first
          | ((with_reducible show wpList _ _ _ ({ dst := some 166, op := _, type := _, pos := _, after := _, guard := _ } :: _) _ _); refine wpList_loadRow rfl rfl rfl (HQ7.out _ hbx) aggPx (by rw [sizePx, pxC_size]) ?_)
        refine (HH.out _).mono ?_
        rintro e wn ⟨rfl, hbn⟩
        replace hbx := bstep hbx hbn
        clear hbn
        go_upto_region 23 with first
          | ((with_reducible show wpList _ _ _ ({ dst := some 21, op := _, type := _, pos := _, after := _, guard := _ } :: _) _ _); refine wpList_new (cs := Zx) rfl rfl hZx ?_; intro w8 g8 hg8 q8 hb8 lt8; have HG8 := Lib.hid hg8; clear hg8)
          | ((with_reducible show wpList _ _ _ ({ dst := some 22, op := _, type := _, pos := _, after := _, guard := _ } :: _) _ _); refine wpList_new (cs := Zx) rfl rfl hZx ?_; intro w9 g9 hg9 q9 hb9 lt9; have HG9 := Lib.hid hg9; clear hg9; replace q8 := q8.below hb9)
          | ((with_reducible show wpList _ _ _ ({ dst := none, op := Op.store _ (Operand.tmp 21) _, type := _, pos := _, after := _, guard := _ } :: _) _ _); refine wpList_put (vs := pxC v n2) rfl rfl rfl rfl q8 (by rw [pxC_size, hZs]) (by rw [sizePx, pxC_size]) (one_pxC _ _) ?_; intro w10 ht10 b10; replace q9 := ht10.blk q9 (by have := HG9.out; have := lt8; omega))
          | ((with_reducible show wpList _ _ _ ({ dst := none, op := Op.store _ (Operand.tmp 22) _, type := _, pos := _, after := _, guard := _ } :: _) _ _); refine wpList_put (vs := pxC v2 n2) rfl rfl rfl rfl q9 (by rw [pxC_size, hZs]) (by rw [sizePx, pxC_size]) (one_pxC _ _) ?_; intro w11 ht11 b11; replace b10 := ht11.blk b10 (by have := HG9.out; have := lt8; omega))
        have hbz := ((hb8.trans (hb9.mono hb8.size)).trans (ht10.below _ (by have := HG8.out; omega))).trans (ht11.below _ (by have := HG8.out; have := HG9.out; have := lt8; omega))
        replace hbx := bstep hbx hbz
        clear hb8 hb9 ht10 ht11 q9 q8 HG8 HG9 lt8 lt9 hbz
        have hca := px_cells b10
        have hcb := px_cells b11
        have hcp := px_cells (HQ7.out _ hbx)
        have hS : Below w11.heap.size w11 w11.drew := (Below.refl _ _).drew
        refine wp_region_TB (S := Below (w11).heap.size (w11)) 13 (by kernel_rfl) ?_
        -- region 23: 14 operations, tail from 13
        refine WpT.one (i := 0) rfl (by kernel_rfl) (fun K hK => ?_)
        go_simp; refine (sanity_any _ (HG.out _ (bstep hbx hS)) (HRC.out _ (bstep hbx hS))).mono ?_; rintro e w3 ⟨rfl, hb3⟩; replace hS := bstep hS hb3
        refine hK _ _ (hS) ?_; clear hK K; try simp only [Act.put, List.setIfInBounds_toArray, List.set_cons_zero, List.set_cons_succ]
        refine WpT.take (i := 1) rfl (by kernel_rfl) (fun _ _ _ h => h) (.inl ⟨by rfl, fun w hSw => by clear hSw; go_simp; (try go_bits); (try rw [if_pos (by omega)]); (try with_reducible rfl)⟩) (hS) ?_
        try simp only [Act.put, List.setIfInBounds_toArray, List.set_cons_zero, List.set_cons_succ]
        refine WpT.take (i := 2) rfl (by kernel_rfl) (fun _ _ _ h => h) (yields_loadKW (us := pxL v n2) (by rfl) rfl rfl aggPx (by rw [sizePx, pxL_len]) hca) (hS) ?_
        try simp only [Act.put, List.setIfInBounds_toArray, List.set_cons_zero, List.set_cons_succ]
        refine WpT.take (i := 3) rfl (by kernel_rfl) (fun _ _ _ h => h) (yields_loadKW (us := pxL v L) (by rfl) rfl rfl aggPx (by rw [sizePx, pxL_len]) hcp) (hS) ?_
        try simp only [Act.put, List.setIfInBounds_toArray, List.set_cons_zero, List.set_cons_succ]
        refine WpT.one (i := 4) rfl (by kernel_rfl) (fun K hK => ?_)
        go_simp; refine (HH1.out _).mono ?_; rintro e w4 ⟨rfl, hb4⟩; replace hS := bstep hS hb4
        refine hK _ _ (hS) ?_; clear hK K; try simp only [Act.put, List.setIfInBounds_toArray, List.set_cons_zero, List.set_cons_succ]
        refine WpT.take (i := 5) rfl (by kernel_rfl) (fun _ _ _ h => h) (.inl ⟨by rfl, fun w hSw => by clear hSw; go_simp; (try go_bits); (try rw [if_pos (by omega)]); (try with_reducible rfl)⟩) (hS) ?_
        try simp only [Act.put, List.setIfInBounds_toArray, List.set_cons_zero, List.set_cons_succ]
        refine WpT.take (i := 6) rfl (by kernel_rfl) (fun _ _ _ h => h) (.inl ⟨by rfl, fun w hSw => by clear hSw; go_simp; (try go_bits); (try rw [if_pos (by omega)]); (try with_reducible rfl)⟩) (hS) ?_
        try simp only [Act.put, List.setIfInBounds_toArray, List.set_cons_zero, List.set_cons_succ]
        refine WpT.take (i := 7) rfl (by kernel_rfl) (fun _ _ _ h => h) (.inl ⟨by rfl, fun w hSw => by clear hSw; go_simp; (try go_bits); (try rw [if_pos (by omega)]); (try with_reducible rfl)⟩) (hS) ?_
        try simp only [Act.put, List.setIfInBounds_toArray, List.set_cons_zero, List.set_cons_succ]
        refine WpT.take (i := 8) rfl (by kernel_rfl) (fun _ _ _ h => h) (yields_loadKW (us := pxL v2 n2) (by rfl) rfl rfl aggPx (by rw [sizePx, pxL_len]) hcb) (hS) ?_
        try simp only [Act.put, List.setIfInBounds_toArray, List.set_cons_zero, List.set_cons_succ]
        refine WpT.take (i := 9) rfl (by kernel_rfl) (fun _ _ _ h => h) (yields_loadKW (us := pxL v L) (by rfl) rfl rfl aggPx (by rw [sizePx, pxL_len]) hcp) (hS) ?_
        try simp only [Act.put, List.setIfInBounds_toArray, List.set_cons_zero, List.set_cons_succ]
        refine WpT.one (i := 10) rfl (by kernel_rfl) (fun K hK => ?_)
        go_simp; refine (HH2.out _).mono ?_; rintro e w5 ⟨rfl, hb5⟩; replace hS := bstep hS hb5
        refine hK _ _ (hS) ?_; clear hK K; try simp only [Act.put, List.setIfInBounds_toArray, List.set_cons_zero, List.set_cons_succ]
        refine WpT.take (i := 11) rfl (by kernel_rfl) (fun _ _ _ h => h) (.inl ⟨by rfl, fun w hSw => by clear hSw; go_simp; (try go_bits); (try rw [if_pos (by omega)]); (try with_reducible rfl)⟩) (hS) ?_
        try simp only [Act.put, List.setIfInBounds_toArray, List.set_cons_zero, List.set_cons_succ]
        refine WpT.take (i := 12) rfl (by kernel_rfl) (fun _ _ _ h => h) (.inl ⟨by rfl, fun w hSw => by clear hSw; go_simp; (try go_bits); (try rw [if_pos (by omega)]); (try with_reducible rfl)⟩) (hS) ?_
        try simp only [Act.put, List.setIfInBounds_toArray, List.set_cons_zero, List.set_cons_succ]
        refine WpT.tail (i := 13) rfl (by kernel_rfl) (by kernel_rfl) (fun K hK => ?_)
        go_simp; (try go_bits)
        refine hK _ _ ?_; clear hK K; try simp only [Act.put, List.setIfInBounds_toArray, List.set_cons_zero, List.set_cons_succ]
        refine WpT.done (by kernel_rfl) ?_ _
        skip
        replace hbx := bstep hbx hS
        go_wp2_with fail
        go_ret
        exact ⟨rfl, hb0.trans (hbx.mono hb0.size)⟩
end Go.Proofs.YtieamjjnofelcaaDoor
namespace Go.Proofs.YtieamjjnofelcaaDoor.exchangeStocksAsSpecified
set_option linter.unusedSimpArgs false
set_option linter.unusedVariables false
open Go.ChangeShapes Go.WideShapes Go.ChangeAt Go.RowKit Go.Proofs.YtieamjjnofelcaaDoor
open Go.ChangeMaps (open_string shut_string)

set_option maxRecDepth 20000 in
set_option maxHeartbeats 1000000 in
theorem contract (H : Type) (enc : TypeId × Value → H) (W : World) (base : Nat) (args : Array Value) (ds gs : List (DataW H)) (before : List MemPlace)
    (hval : ∀ (j : Nat) t v, Tryd.f3.params[j]? = some t → args[j]? = some v → Value.okWide Tryd.prog W .any base t v)
    (hW : DataW.Whole enc Tryd.prog Tryd.f3.params.toList Rows.exchangeStocksAsSpecifiedSpec.vars false W args.toList ds gs before) (hL : laidMetH Tryd.prog Rows.exchangeStocksAsSpecifiedRow.laid W) :
    Calls Tryd.prog 3 args W fun e W' => ∃ v, e = .returned v ∧ Rows.exchangeStocksAsSpecifiedSpec.post enc Tryd.prog Tryd.f3 false true false false W args v W' := by
  have hW' := hW
  have hRef : RCon W := rcon_of hL
  have hCon : GCon W := con_of hL.tail
  obtain ⟨p, q, hA0, hV, rfl, hfz, hnd⟩ := hW
  have hA : DataW.TrodAll enc Tryd.prog W 0 (fun _ => true) true Tryd.f3.params.toList args.toList ds p := hA0
  rw [Tryd.params3] at hA hval
  obtain ⟨v0, vs0, d0, ds0, p0, q0, hargs, rfl, rfl, h0, r0⟩ := trodAll_cons hA
  obtain ⟨v1, vs1, d1, ds1, p1, q1, rfl, rfl, rfl, h1, r1⟩ := trodAll_cons r0
  obtain ⟨v2, vs2, d2, ds2, p2, q2, rfl, rfl, rfl, h2, r2⟩ := trodAll_cons r1
  obtain ⟨v3, vs3, d3, ds3, p3, q3, rfl, rfl, rfl, h3, r3⟩ := trodAll_cons r2
  obtain ⟨rfl, rfl, rfl⟩ := trodAll_nil r3
  obtain rfl : args = #[v0, v1, v2, v3] := by cases args; simp_all
  obtain ⟨rfl, rfl⟩ := trodVars_none hV
  have k0 := h0
  have lt0 : ∀ x ∈ p0, x.block < W.heap.size := by obtain ⟨m, hm⟩ := k0; exact DataW.trod_lt m _ _ _ hm
  obtain ⟨A0, n0, c0, l0, rfl, x0, y0, z0, f0, u0⟩ := open_stock (hval 0 24 v0 rfl rfl) h0
  have k1 := h1
  have lt1 : ∀ x ∈ p1, x.block < W.heap.size := by obtain ⟨m, hm⟩ := k1; exact DataW.trod_lt m _ _ _ hm
  obtain ⟨s1, rfl, rfl, rfl, f1⟩ := open_string (by kernel_rfl) (hval 1 9 v1 rfl rfl) h1
  have k2 := h2
  have lt2 : ∀ x ∈ p2, x.block < W.heap.size := by obtain ⟨m, hm⟩ := k2; exact DataW.trod_lt m _ _ _ hm
  obtain ⟨a2, rfl, x2⟩ := open_digest (hval 2 26 v2 rfl rfl) h2
  have k3 := h3
  have lt3 : ∀ x ∈ p3, x.block < W.heap.size := by obtain ⟨m, hm⟩ := k3; exact DataW.trod_lt m _ _ _ hm
  obtain ⟨a3, b3, rfl, x3, f3⟩ := open_prefix (hval 3 28 v3 rfl rfl) h3
  clear hA0
  refine (walkExchangeStocksAsSpecified A0 n0 c0 l0 s1 a2 a3 b3 W x0 y0 z0 f0 u0 f1 x2 x3 f3 hCon hRef).mono fun e W' ⟨he, bel⟩ => ?_
  subst he
  exact ⟨_, rfl, _, _, _, [], _, [], hW', trodAll_mk1 (shut_bool (by kernel_rfl) _), (trodAll_cons_mk (Below.trod laidOut (by kernel_rfl) (of_decide_eq_true (by kernel_rfl)) k0 bel lt0) (trodAll_cons_mk (Below.trod laidOut (by kernel_rfl) (of_decide_eq_true (by kernel_rfl)) k1 bel lt1) (trodAll_cons_mk (Below.trod laidOut (by kernel_rfl) (of_decide_eq_true (by kernel_rfl)) k2 bel lt2) (trodAll_cons_mk (Below.trod laidOut (by kernel_rfl) (of_decide_eq_true (by kernel_rfl)) k3 bel lt3) trodAll_mk0)))), rfl, bel.frame _, fun h => by cases h⟩

theorem laid_met (os : Os) : laidMet Tryd.prog Rows.exchangeStocksAsSpecifiedRow.laid ((laidWorldR os).forCall (fun _ _ => 0) ⟨#[], #[.agg #[.slice none 0 0], .string ⟨#[]⟩, .agg #[.int .u8 0, .int .u8 0, .int .u8 0, .int .u8 0, .int .u8 0, .int .u8 0, .int .u8 0, .int .u8 0, .int .u8 0, .int .u8 0, .int .u8 0, .int .u8 0, .int .u8 0, .int .u8 0, .int .u8 0, .int .u8 0], .agg #[.int .u8 0, .int .u8 0, .int .u8 0, .int .u8 0, .int .u8 0, .int .u8 0, .int .u8 0, .int .u8 0, .int .u8 0, .int .u8 0, .int .u8 0, .int .u8 0, .int .u8 0, .int .u8 0, .int .u8 0, .int .u8 0, .int .i64 0]], []⟩).memory :=
  laidMet_of_run' 8 (by kernel_rfl) (by kernel_rfl)
theorem reads (os : Os) {H : Type} (enc : TypeId × Value → H) : ∃ places, DataW.whole enc Tryd.prog ((laidWorldR os).forCall (fun _ _ => 0) ⟨#[], #[.agg #[.slice none 0 0], .string ⟨#[]⟩, .agg #[.int .u8 0, .int .u8 0, .int .u8 0, .int .u8 0, .int .u8 0, .int .u8 0, .int .u8 0, .int .u8 0, .int .u8 0, .int .u8 0, .int .u8 0, .int .u8 0, .int .u8 0, .int .u8 0, .int .u8 0, .int .u8 0], .agg #[.int .u8 0, .int .u8 0, .int .u8 0, .int .u8 0, .int .u8 0, .int .u8 0, .int .u8 0, .int .u8 0, .int .u8 0, .int .u8 0, .int .u8 0, .int .u8 0, .int .u8 0, .int .u8 0, .int .u8 0, .int .u8 0, .int .i64 0]], []⟩).memory Tryd.f3.params.toList Rows.exchangeStocksAsSpecifiedSpec.vars false (#[.agg #[.slice none 0 0], .string ⟨#[]⟩, .agg #[.int .u8 0, .int .u8 0, .int .u8 0, .int .u8 0, .int .u8 0, .int .u8 0, .int .u8 0, .int .u8 0, .int .u8 0, .int .u8 0, .int .u8 0, .int .u8 0, .int .u8 0, .int .u8 0, .int .u8 0, .int .u8 0], .agg #[.int .u8 0, .int .u8 0, .int .u8 0, .int .u8 0, .int .u8 0, .int .u8 0, .int .u8 0, .int .u8 0, .int .u8 0, .int .u8 0, .int .u8 0, .int .u8 0, .int .u8 0, .int .u8 0, .int .u8 0, .int .u8 0, .int .i64 0]] : Array Value).toList 8 = some ([.agg [.nil], .lit (.string []), .agg [.lit (.int .u8 0), .lit (.int .u8 0), .lit (.int .u8 0), .lit (.int .u8 0), .lit (.int .u8 0), .lit (.int .u8 0), .lit (.int .u8 0), .lit (.int .u8 0), .lit (.int .u8 0), .lit (.int .u8 0), .lit (.int .u8 0), .lit (.int .u8 0), .lit (.int .u8 0), .lit (.int .u8 0), .lit (.int .u8 0), .lit (.int .u8 0)], .agg [.agg [.lit (.int .u8 0), .lit (.int .u8 0), .lit (.int .u8 0), .lit (.int .u8 0), .lit (.int .u8 0), .lit (.int .u8 0), .lit (.int .u8 0), .lit (.int .u8 0), .lit (.int .u8 0), .lit (.int .u8 0), .lit (.int .u8 0), .lit (.int .u8 0), .lit (.int .u8 0), .lit (.int .u8 0), .lit (.int .u8 0), .lit (.int .u8 0)], .lit (.int .i64 0)]], [], places) :=
  ⟨[], by kernel_rfl⟩
set_option maxRecDepth 100000 in
theorem lifted (os : Os) (started : os.Started) (H : Type) (enc : TypeId × Value → H) (F : Stop.Interp) :
    ReturnsInHanded {} Tryd.checked os 3 .any ((OpenSpec.ofChange Rows.exchangeStocksAsSpecifiedSpec).preRow enc Tryd.prog Tryd.f3 Rows.exchangeStocksAsSpecifiedRow.domain false Rows.exchangeStocksAsSpecifiedRow.laid) (((OpenSpec.ofChange Rows.exchangeStocksAsSpecifiedSpec).at F).post enc Tryd.prog Tryd.f3 false true false false) := by
  obtain ⟨places, hx⟩ := reads os enc
  refine returnsInHanded_of_row (C := Tryd.checked) (s := OpenSpec.ofChange Rows.exchangeStocksAsSpecifiedSpec) own started (by kernel_rfl) Tryd.func3
    (witness_row_at (enc := enc) (C := Tryd.checked) false (laidWorldR os) #[.agg #[.slice none 0 0], .string ⟨#[]⟩, .agg #[.int .u8 0, .int .u8 0, .int .u8 0, .int .u8 0, .int .u8 0, .int .u8 0, .int .u8 0, .int .u8 0, .int .u8 0, .int .u8 0, .int .u8 0, .int .u8 0, .int .u8 0, .int .u8 0, .int .u8 0, .int .u8 0], .agg #[.int .u8 0, .int .u8 0, .int .u8 0, .int .u8 0, .int .u8 0, .int .u8 0, .int .u8 0, .int .u8 0, .int .u8 0, .int .u8 0, .int .u8 0, .int .u8 0, .int .u8 0, .int .u8 0, .int .u8 0, .int .u8 0, .int .i64 0]] rfl (by kernel_rfl) (by kernel_rfl) (by kernel_rfl)
      (OpenSpec.preRow_of_cond 8 hx (by kernel_rfl) (fun k hk => by cases hk) (by kernel_rfl) (laid_met os))) ?_
  intro W base args ds gs before hval hW _ _ _ hL _ _
  exact contract H enc W base args ds gs before hval hW hL
theorem said : Rows.ExchangeStocksAsSpecifiedSaid :=
  OpenClaim.holds_of_cond 3 Tryd.f3 rfl rfl rfl rfl rfl rfl rfl ⟨rfl, rfl, rfl, rfl, rfl⟩ rfl rfl rfl rfl rfl (by kernel_rfl) Tryd.func3 (by kernel_rfl)
    (of_decide_eq_true (by kernel_rfl)) (by unfold Func.isWrapper; first | (rw [if_pos (by decide +kernel)]; kernel_rfl) | (rw [if_neg (by decide +kernel)]; exact ⟨rfl, rfl⟩))
    (fun os started H enc _ F => by rw [OpenClaim.pre_eq_preRow]; exact lifted os started H enc F)
theorem plain (f : FuncId) (fn : Func) (hf : Tryd.pinned.checked.prog.funcNamed "antiquary/antiquarylaw44.ExchangeStocksAsSpecified" = some f) (hfn : Tryd.pinned.checked.prog.funcs[f]? = some fn) :
    false = Tryd.pinned.checked.prog.looks [] ∧ ∀ (j : Nat) t, fn.params[j]? = some t → Tryd.pinned.checked.prog.wantsStandIn t = false := by
  obtain rfl : f = 3 := Option.some.inj ((show Tryd.prog.funcNamed "antiquary/antiquarylaw44.ExchangeStocksAsSpecified" = some 3 by kernel_rfl).symm.trans hf) |>.symm
  obtain rfl : fn = Tryd.f3 := (Option.some.inj (Tryd.func3.symm.trans hfn)).symm
  refine ⟨by kernel_rfl, fun j t ht => ?_⟩
  rw [Tryd.params3] at ht
  have hm := Array.mem_of_getElem? ht
  have hall : Tryd.f3.params.toList.all (fun t => !Tryd.prog.wantsStandIn t) = true := by kernel_rfl
  rw [Tryd.params3] at hall
  have := List.all_eq_true.1 hall t (by simpa using hm)
  have h2 : Tryd.prog.wantsStandIn t = false := by simpa using this
  exact h2
theorem card_holds : Rows.ExchangeStocksAsSpecifiedCardSaid :=
  Claim7.holds_tied_plain_at .later [] _ _ _ _ said (fun _ h => by cases h) (by kernel_rfl) (fun _ h => by cases h) exchangeStocksAsSpecified_row_tie rfl ⟨rfl, rfl⟩ (by kernel_rfl) rfl plain (by kernel_rfl)
#print axioms card_holds
end Go.Proofs.YtieamjjnofelcaaDoor.exchangeStocksAsSpecified
