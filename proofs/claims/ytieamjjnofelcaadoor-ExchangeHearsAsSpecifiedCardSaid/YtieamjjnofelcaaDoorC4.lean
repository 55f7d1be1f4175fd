/-
  These texts, joined.
  A parcel as an argument. Conditions: none.
  SameParcels of the reference at two lists of the same parcels: it answers true. Conditions: at most 3000 parcels.
  The law ExchangeHearsAsSpecified, walked. Conditions: the tables of constants stand.
  The law ExchangeHearsAsSpecified: it returns true for every input, and its arguments read behind the call as before; the row and its tied card. Conditions: the tables start as the program's text lays them.
-/
import Derived.Test.YtieamjjnofelcaaDoorB10
import Derived.Test.YtieamjjnofelcaaDoorC4a
import Derived.Test.YtieamjjnofelcaaDoorB7
namespace Go.Proofs.YtieamjjnofelcaaDoor
set_option linter.unusedSimpArgs false
set_option linter.unusedVariables false
set_option maxRecDepth 20000
open Go.ChangeShapes Go.WideShapes Go.ChangeAt Go.RowKit Sha Exch
section
variable {H : Type} {enc : TypeId × Value → H} {W : World}
abbrev paPart : List (Nat × TypeId) := [(0, 3), (1, 28), (18, 26), (34, 3), (35, 45), (36, 9)]
theorem cPx : Tryd.prog.cellsOf 28 = 17 := by kernel_rfl
theorem cut_cons (cs : List Value) (o k : Nat) : (cs.drop o).take k ++ cs.drop (o + k) = cs.drop o := by
  rw [← List.drop_drop, List.take_append_drop]
theorem open_parcel {base : Nat} {v : Value} {d : DataW H} {p : List MemPlace} (hval : Value.okWide Tryd.prog W .any base 47 v) (h : DataW.Trod enc Tryd.prog W 0 (fun _ => true) true 47 v d p) :
    ∃ (P : Pa) (A : Option Addr) (n c : Nat), v = paV P A n c ∧ (P.v < 2 ^ 128 ∧ P.sum < 2 ^ 128) ∧ n ≤ maxLen ∧ RdD W A n P.names ∧ (∀ z ∈ P.names, z < 2 ^ 128) ∧ P.text.size ≤ maxLen ∧ Under A W.heap.size := by
  obtain ⟨fs, hs, _⟩ := fields_of (l := paPart) (show (Tryd.prog.underlying 47).map partsT = _ by kernel_rfl) (by simp [paPart])
  obtain ⟨cs, rfl, _⟩ := okWide_struct hs hval
  obtain ⟨fuel, hf⟩ := h
  obtain ⟨hl, hp⟩ := struct_at (L := paPart) (by kernel_rfl) (by simp [paPart]) hf
  rw [show Tryd.prog.cellsOf 47 = 37 by kernel_rfl] at hl
  simp only [Value.cells] at hl hp
  obtain ⟨n0, y0, g0⟩ := hp 0 0 _ rfl
  obtain ⟨n1, y1, g1⟩ := hp 1 1 _ rfl
  obtain ⟨n2, y2, g2⟩ := hp 2 18 _ rfl
  obtain ⟨n3, y3, g3⟩ := hp 3 34 _ rfl
  obtain ⟨n4, y4, g4⟩ := hp 4 35 _ rfl
  obtain ⟨n5, y5, g5⟩ := hp 5 36 _ rfl
  rw [cInt] at g0 g3
  rw [cPx] at g1
  rw [cDg] at g2
  rw [cStr] at g5
  rw [show Tryd.prog.cellsOf 45 = 1 by kernel_rfl] at g4
  obtain ⟨k, e0, _, _⟩ := DataW.trod_int uInt g0
  obtain ⟨b, ln, e1, hb, _⟩ := open_pxCells g1
  obtain ⟨sm, e2, hsm⟩ := open_dgCells g2
  obtain ⟨ct, e3, _, _⟩ := DataW.trod_int uInt g3
  obtain ⟨A, n, c, ns, e4, hnc, hcm, hln, hrd, hlt⟩ := open_rowCells (t := 45) (e := 26) (by kernel_rfl) (k := 16) (by kernel_rfl) (by omega) (fun m : Nat => bv (dg m)) bv_dg_len (fun m => m < 2 ^ 128) (fun _ _ _ _ h => open_dgCells h) g4
  obtain ⟨s, e5, _, hts⟩ := DataW.trod_string uStr g5
  have ecs : cs.toList = paL ⟨k, b, ln, sm, ct, ns, s⟩ A n c := by
    have h0 : cs.toList = cs.toList.drop 0 := rfl
    rw [h0, ← cut_cons _ 0 1, ← cut_cons _ (0 + 1) 17, ← cut_cons _ (0 + 1 + 17) 16, ← cut_cons _ (0 + 1 + 17 + 16) 1, ← cut_cons _ (0 + 1 + 17 + 16 + 1) 1, ← cut_cons _ (0 + 1 + 17 + 16 + 1 + 1) 1]
    rw [show 0 + 1 + 17 + 16 + 1 + 1 + 1 = 37 by rfl, List.drop_eq_nil_of_le (i := 37) (by omega)]
    simp only [Nat.zero_add, Nat.reduceAdd] at *
    rw [e0, e1, e2, e3, e4, e5]
    simp only [paL, List.append_assoc, List.cons_append, List.nil_append, List.append_nil]
  have ec : cs = paC ⟨k, b, ln, sm, ct, ns, s⟩ A n c := by
    apply Array.ext'
    rw [ecs]
  have hc35 : cs[35]? = some (.slice A n c) := by
    rw [ec, List.getElem?_toArray]
    exact paL_names _ _ _ _
  refine ⟨⟨k, b, ln, sm, ct, ns, s⟩, A, n, c, by rw [ec], ⟨hb, hsm⟩, by omega, ⟨hln, hrd⟩, hlt, hts, ?_⟩
  exact under_part (i := 35) (e := 26) (L := paPart) (by kernel_rfl) (by simp [paPart]) hval (ts := [3] ++ List.replicate 16 5 ++ [3] ++ List.replicate 16 5 ++ [3, 45, 9]) (by kernel_rfl) rfl (by kernel_rfl) hc35
end
/-- A parcel of nothing. -/
def argPa : Value := .agg #[.int .i64 0, .int .u8 0, .int .u8 0, .int .u8 0, .int .u8 0, .int .u8 0, .int .u8 0, .int .u8 0, .int .u8 0, .int .u8 0, .int .u8 0, .int .u8 0, .int .u8 0, .int .u8 0, .int .u8 0, .int .u8 0, .int .u8 0, .int .i64 0, .int .u8 0, .int .u8 0, .int .u8 0, .int .u8 0, .int .u8 0, .int .u8 0, .int .u8 0, .int .u8 0, .int .u8 0, .int .u8 0, .int .u8 0, .int .u8 0, .int .u8 0, .int .u8 0, .int .u8 0, .int .u8 0, .int .i64 0, .slice none 0 0, .string ⟨#[]⟩]
/-- The reference's Hear. -/
theorem refHear_any (l : List It) (A : Option Addr) (m c : Nat) (P : Pa) (An : Option Addr) (nn cn : Nat) (w : World) (hs : StAt w (fun _ => False) A m c l) (hl : l.length ≤ 900) (hp : PaAt w (fun _ => False) ⟨P, An, nn, cn⟩) (hg : RCon w) :
    Calls Tryd.prog 34 #[stV A m c, paV P An nn cn] w (RHearIs (hearL l P) w) := by
  by_cases hck : checkP P = 0
  · obtain ⟨-, -, h1, h4⟩ := right_parcel hck
    have e : hearL l P = hearK l P := by unfold hearL; rw [if_pos hck]
    rw [e]
    unfold hearK
    by_cases e1 : P.kind = 1
    · rw [if_pos e1]; exact rhear_sum l A m c P An nn cn w hs hl hp hg hck e1
    · rw [if_neg e1]
      by_cases e2 : P.kind = 2
      · rw [if_pos e2]; exact rhear_names l A m c P An nn cn w hs hl hp hg hck e2
      · rw [if_neg e2]
        by_cases e3 : P.kind = 3
        · rw [if_pos e3]; exact rhear_want l A m c P An nn cn w hs hl hp hg hck e3
        · rw [if_neg e3]; exact rhear_text l A m c P An nn cn w hs hl hp hg hck (by omega)
  · have e : hearL l P = (l, [], checkP P) := by unfold hearL; rw [if_neg hck]
    rw [e]
    exact rhear_err l A m c P An nn cn (checkP P) w hs hl hp hg rfl hck
end Go.Proofs.YtieamjjnofelcaaDoor
namespace Go.Proofs.YtieamjjnofelcaaDoor
set_option linter.unusedSimpArgs false
set_option linter.unusedVariables false
open Go.RowKit Exch
/-- The cells of a parcel in a row. -/
structure PaCells (W : World) (x : Addr) (P : Pa) (A : Option Addr) (n c : Nat) : Prop where
  k : W.cell? x = some (.int .i64 P.kind)
  p : ∀ j u, (pxL P.v P.len)[j]? = some u → W.cell? ((⟨x.block, x.off + 1, none⟩ : Addr).add j) = some u
  d : ∀ j u, (bv (dg P.sum))[j]? = some u → W.cell? ((⟨x.block, x.off + 18, none⟩ : Addr).add j) = some u
  cn : W.cell? ⟨x.block, x.off + 34, none⟩ = some (.int .i64 P.count)
  s : W.cell? ⟨x.block, x.off + 35, none⟩ = some (.slice A n c)
  t : W.cell? ⟨x.block, x.off + 36, none⟩ = some (.string P.text)
theorem add_pos (x : Addr) {k : Nat} (hk : 0 < k) : x.add k = ⟨x.block, x.off + k, none⟩ := by
  unfold Addr.add
  rw [if_neg (by omega)]
theorem PaCells.of {W : World} {x : Addr} {P : Pa} {A : Option Addr} {n c : Nat} (h : ∀ j u, (paL P A n c)[j]? = some u → W.cell? (x.add j) = some u) : PaCells W x P A n c := by
  refine ⟨?_, fun j u hj => ?_, fun j u hj => ?_, ?_, ?_, ?_⟩
  · exact h 0 _ rfl
  · have hl := (List.getElem?_eq_some_iff.1 hj).1
    rw [← add_pos x (k := 1) (by omega), add_of_add]
    refine h _ _ ?_
    unfold paL
    rw [List.append_assoc, List.append_assoc, List.getElem?_append_right (by simp), List.getElem?_append_left (by simpa using hl)]
    simpa using hj
  · have hl := (List.getElem?_eq_some_iff.1 hj).1
    rw [← add_pos x (k := 18) (by omega), add_of_add]
    refine h _ _ ?_
    unfold paL
    have h18 : ([Value.int .i64 P.kind] ++ pxL P.v P.len).length = 18 := by simp [pxL, dg_len]
    rw [List.append_assoc, List.getElem?_append_right (by omega), h18, Nat.add_sub_cancel_left, List.getElem?_append_left hl]
    exact hj
  · rw [← add_pos x (k := 34) (by omega)]
    exact h 34 _ (by rw [paL_tail P A n c 0]; rfl)
  · rw [← add_pos x (k := 35) (by omega)]
    exact h 35 _ (paL_names P A n c)
  · rw [← add_pos x (k := 36) (by omega)]
    exact h 36 _ (paL_text P A n c)
theorem paRs_elem {W : World} {A : Option Addr} {rs : List PaR} (h : Rd W A (rs.length * 37) (paRs rs)) {i : Nat} (hi : i < rs.length) : ∃ ad, A = some ad ∧ PaCells W (ad.add (i * 37)) rs[i].p rs[i].A rs[i].n rs[i].c := by
  have e : paRs rs = rs.flatMap PaR.cells := by simp only [paRs, List.flatMap_def]
  rw [e] at h
  obtain ⟨ad, e1, h1⟩ := Rd.elem (f := PaR.cells) (k := 37) (fun r => paL_len r.p r.A r.n r.c) (by omega) h hi
  exact ⟨ad, e1, PaCells.of h1⟩
set_option maxRecDepth 20000 in
set_option maxHeartbeats 4000000 in
theorem sameParcels_any (a b : List PaR) (A : Option Addr) (n c : Nat) (B : Option Addr) (m d : Nat) (w : World) (hla : a.length = n) (ha : Rd w A (n * 37) (paRs a)) (hlb : b.length = m) (hb : Rd w B (m * 37) (paRs b)) (hn : n ≤ 3000) (he : a.map (·.p) = b.map (·.p))
    (hna : ∀ r ∈ a, RdD w r.A r.n r.p.names) (hnb : ∀ r ∈ b, RdD w r.A r.n r.p.names) (hok : ∀ r ∈ a, PaOk r.p) :
    Calls Tryd.prog 28 #[.slice A n c, .slice B m d] w fun e w' => e = .returned (.bool true) ∧ Below w.heap.size w w' := by
  have hnm : n = m := by have := congrArg List.length he; simp at this; omega
  subst hnm
  have HA := Lib.hid ha
  have HB := Lib.hid hb
  have HLA := Lib.hid hla
  have HLB := Lib.hid hlb
  have HE := Lib.hid he
  have HNA := Lib.hid hna
  have HNB := Lib.hid hnb
  have HOK := Lib.hid hok
  clear ha hb hla hlb he hna hnb hok
  have dn : ((n : Int) != n) = false := by simp
  go_enter Tryd.func28, Tryd.ntmps28
  go_wp2_with fail
  go_loopw [5] (fun vk wr => ∃ k : Nat, k ≤ n ∧ vk = .int .i64 k ∧ Below w.heap.size w wr) (fun vk _ => n - (intOf vk).toNat)
  case atStart => exact ⟨0, Nat.zero_le _, rfl, Below.refl _ _⟩
  case round =>
    obtain ⟨k, hk, rfl, hbw⟩ := hrel
    by_cases hlt : k < n
    · have hka : k < a.length := by have := HLA.out; omega
      have hkb : k < b.length := by have := HLB.out; omega
      obtain ⟨ad, rfl, hca⟩ := paRs_elem (W := wr) (rs := a) (by rw [HLA.out]; exact HA.out.below hbw) hka
      obtain ⟨bd, rfl, hcb⟩ := paRs_elem (W := wr) (rs := b) (by rw [HLB.out]; exact HB.out.below hbw) hkb
      have hpe : a[k].p = b[k].p := by
        have h := HE.out
        have h1 : (a.map (·.p))[k]? = (b.map (·.p))[k]? := by rw [h]
        simpa [List.getElem?_eq_getElem hka, List.getElem?_eq_getElem hkb] using h1
      have hra := (HNA.out _ (List.getElem_mem hka)).below hbw
      have hrb := (HNB.out _ (List.getElem_mem hkb)).below hbw
      have hok := HOK.out _ (List.getElem_mem hka)
      rw [← hpe] at hcb hrb
      clear hpe
      generalize a[k] = xa at *
      generalize b[k] = xb at *
      obtain ⟨P, An, na, ca⟩ := xa
      obtain ⟨Q, Bn, nb, cb⟩ := xb
      dsimp only at hca hcb hra hrb hok
      have HSN := Lib.hid (fun W (hW : Below wr.heap.size wr W) => sameNames_any P.names P.names An na ca Bn nb cb W (hra.below hW) (hrb.below hW) (by have := hra.len; have := hok.len; omega) (by have := hrb.len; have := hok.len; omega) hok.lt hok.lt)
      have hneP : ∀ W, (binOp .neq 28 (pxV P.v P.len) (pxV P.v P.len)).run Tryd.prog W = .ok (.bool false) W := fun W => by rw [neq_Px hok.v hok.v, (eqP_iff (v := P.v) (n := P.len)).2 ⟨rfl, rfl⟩]; rfl
      have hneD : ∀ W, (binOp .neq 26 (dgV P.sum) (dgV P.sum)).run Tryd.prog W = .ok (.bool false) W := fun W => by rw [neq_Dg hok.sum hok.sum]; simp
      obtain ⟨ak, ap, ad2, an, as_, at_⟩ := hca
      obtain ⟨bk, bp, bd2, bn, bs, bt⟩ := hcb
      clear hra hrb hok
      have hS : Below wr.heap.size wr wr.drew := (Below.refl _ _).drew
      go_upto_region 6 with fail
      refine wp_region_TB (S := Below (wr).heap.size (wr)) 77 (by kernel_rfl) ?_
      refine WpT.take (i := 0) rfl (by kernel_rfl) (fun _ _ _ h => h) (.inl ⟨by rfl, fun w hSw => by clear hSw; go_simp; (try go_bits); (try rw [if_pos (by omega)]); (try with_reducible rfl)⟩) (hS) ?_
      try simp only [nrm]
      refine WpT.take (i := 1) rfl (by kernel_rfl) (fun _ _ _ h => h) (.inl ⟨by rfl, fun w hSw => by clear hSw; go_simp; (try go_bits); (try rw [if_pos (by omega)]); (try with_reducible rfl)⟩) (hS) ?_
      try simp only [nrm]
      refine WpT.take (i := 2) rfl (by kernel_rfl) (fun _ _ _ h => h) (.inl ⟨by rfl, fun w hSw => by clear hSw; go_simp; (try go_bits); (try rw [if_pos (by omega)]); (try with_reducible rfl)⟩) (hS) ?_
      try simp only [nrm]
      refine WpT.take (i := 3) rfl (by kernel_rfl) (fun _ _ _ h => h) (.inl ⟨by rfl, fun w hSw => by clear hSw; go_simp; (try go_bits); (try rw [if_pos (by omega)]); (try with_reducible rfl)⟩) (hS) ?_
      try simp only [nrm]
      refine WpT.take (i := 4) rfl (by kernel_rfl) (fun _ _ _ h => h) (yields_load rfl rfl rfl (by kernel_rfl) ak) (hS) ?_
      try simp only [nrm]
      refine WpT.take (i := 5) rfl (by kernel_rfl) (fun _ _ _ h => h) (.inl ⟨by rfl, fun w hSw => by clear hSw; go_simp; (try go_bits); (try rw [if_pos (by omega)]); (try with_reducible rfl)⟩) (hS) ?_
      try simp only [nrm]
      refine WpT.take (i := 6) rfl (by kernel_rfl) (fun _ _ _ h => h) (.inl ⟨by rfl, fun w hSw => by clear hSw; go_simp; (try go_bits); (try rw [if_pos (by omega)]); (try with_reducible rfl)⟩) (hS) ?_
      try simp only [nrm]
      refine WpT.take (i := 7) rfl (by kernel_rfl) (fun _ _ _ h => h) (.inl ⟨by rfl, fun w hSw => by clear hSw; go_simp; (try go_bits); (try rw [if_pos (by omega)]); (try with_reducible rfl)⟩) (hS) ?_
      try simp only [nrm]
      refine WpT.take (i := 8) rfl (by kernel_rfl) (fun _ _ _ h => h) (.inl ⟨by rfl, fun w hSw => by clear hSw; go_simp; (try go_bits); (try rw [if_pos (by omega)]); (try with_reducible rfl)⟩) (hS) ?_
      try simp only [nrm]
      refine WpT.take (i := 9) rfl (by kernel_rfl) (fun _ _ _ h => h) (yields_load rfl rfl rfl (by kernel_rfl) bk) (hS) ?_
      try simp only [nrm]
      refine WpT.take (i := 10) rfl (by kernel_rfl) (fun _ _ _ h => h) (.inl ⟨by rfl, fun w hSw => by clear hSw; go_simp; (try go_bits); (try rw [if_pos (by omega)]); (try with_reducible rfl)⟩) (hS) ?_
      try simp only [nrm]
      refine WpT.take (i := 11) rfl (by kernel_rfl) (fun _ _ _ h => h) (.inl ⟨by rfl, fun w hSw => by clear hSw; go_simp; (try go_bits); (try rw [if_pos (by omega)]); (try with_reducible rfl)⟩) (hS) ?_
      try simp only [nrm]
      refine WpT.take (i := 12) rfl (by kernel_rfl) (fun _ _ _ h => h) (.inl ⟨by rfl, fun w hSw => by clear hSw; go_simp; (try go_bits); (try rw [if_pos (by omega)]); (try with_reducible rfl)⟩) (hS) ?_
      try simp only [nrm]
      refine WpT.take (i := 13) rfl (by kernel_rfl) (fun _ _ _ h => h) (.inl ⟨by rfl, fun w hSw => by clear hSw; go_simp; (try go_bits); (try rw [if_pos (by omega)]); (try with_reducible rfl)⟩) (hS) ?_
      try simp only [nrm]
      refine WpT.take (i := 14) rfl (by kernel_rfl) (fun _ _ _ h => h) (.inl ⟨by rfl, fun w hSw => by clear hSw; go_simp; (try go_bits); (try rw [if_pos (by omega)]); (try with_reducible rfl)⟩) (hS) ?_
      try simp only [nrm]
      refine WpT.take (i := 15) rfl (by kernel_rfl) (fun _ _ _ h => h) (.inl ⟨by rfl, fun w hSw => by clear hSw; go_simp; (try go_bits); (try rw [if_pos (by omega)]); (try with_reducible rfl)⟩) (hS) ?_
      try simp only [nrm]
      refine WpT.take (i := 16) rfl (by kernel_rfl) (fun _ _ _ h => h) (yields_loadKW (us := pxL P.v P.len) (by rfl) rfl rfl aggPx (by rw [sizePx, pxL_len]) ap) (hS) ?_
      try simp only [nrm]
      refine WpT.take (i := 17) rfl (by kernel_rfl) (fun _ _ _ h => h) (.inl ⟨by rfl, fun w hSw => by clear hSw; go_simp; (try go_bits); (try rw [if_pos (by omega)]); (try with_reducible rfl)⟩) (hS) ?_
      try simp only [nrm]
      refine WpT.take (i := 18) rfl (by kernel_rfl) (fun _ _ _ h => h) (.inl ⟨by rfl, fun w hSw => by clear hSw; go_simp; (try go_bits); (try rw [if_pos (by omega)]); (try with_reducible rfl)⟩) (hS) ?_
      try simp only [nrm]
      refine WpT.take (i := 19) rfl (by kernel_rfl) (fun _ _ _ h => h) (.inl ⟨by rfl, fun w hSw => by clear hSw; go_simp; (try go_bits); (try rw [if_pos (by omega)]); (try with_reducible rfl)⟩) (hS) ?_
      try simp only [nrm]
      refine WpT.take (i := 20) rfl (by kernel_rfl) (fun _ _ _ h => h) (.inl ⟨by rfl, fun w hSw => by clear hSw; go_simp; (try go_bits); (try rw [if_pos (by omega)]); (try with_reducible rfl)⟩) (hS) ?_
      try simp only [nrm]
      refine WpT.take (i := 21) rfl (by kernel_rfl) (fun _ _ _ h => h) (yields_loadKW (us := pxL P.v P.len) (by rfl) rfl rfl aggPx (by rw [sizePx, pxL_len]) bp) (hS) ?_
      try simp only [nrm]
      refine WpT.take (i := 22) rfl (by kernel_rfl) (fun _ _ _ h => h) (.inl ⟨by rfl, fun w hSw => by clear hSw; go_simp; (try go_bits); (try rw [if_pos (by omega)]); (try with_reducible rfl)⟩) (hS) ?_
      try simp only [nrm]
      refine WpT.take (i := 23) rfl (by kernel_rfl) (fun _ _ _ h => h) (.inl ⟨by rfl, fun w hSw => by clear hSw; go_simp; (try go_bits); (try rw [if_pos (by omega)]); (try with_reducible rfl)⟩) (hS) ?_
      try simp only [nrm]
      refine WpT.take (i := 24) rfl (by kernel_rfl) (fun _ _ _ h => h) (.inl ⟨by rfl, fun w hSw => by clear hSw; go_simp; (try go_bits); (try rw [if_pos (by omega)]); (try with_reducible rfl)⟩) (hS) ?_
      try simp only [nrm]
      refine WpT.take (i := 25) rfl (by kernel_rfl) (fun _ _ _ h => h) (.inl ⟨by rfl, fun w hSw => by clear hSw; go_simp; (try go_bits); (try rw [if_pos (by omega)]); (try with_reducible rfl)⟩) (hS) ?_
      try simp only [nrm]
      refine WpT.take (i := 26) rfl (by kernel_rfl) (fun _ _ _ h => h) (.inl ⟨by rfl, fun w hSw => by clear hSw; go_simp; (try go_bits); (try rw [if_pos (by omega)]); (try with_reducible rfl)⟩) (hS) ?_
      try simp only [nrm]
      refine WpT.take (i := 27) rfl (by kernel_rfl) (fun _ _ _ h => h) (.inl ⟨by rfl, fun w hSw => by clear hSw; go_simp; (try go_bits); (try rw [if_pos (by omega)]); (try with_reducible rfl)⟩) (hS) ?_
      try simp only [nrm]
      refine WpT.take (i := 28) rfl (by kernel_rfl) (fun _ _ _ h => h) (.inl ⟨by rfl, fun w hSw => by clear hSw; go_simp; (try go_bits); (try rw [if_pos (by omega)]); (try with_reducible rfl)⟩) (hS) ?_
      try simp only [nrm]
      refine WpT.take (i := 29) rfl (by kernel_rfl) (fun _ _ _ h => h) (yields_loadKW (us := bv (dg P.sum)) (by rfl) rfl rfl aggDg (by rw [sizeDg, bv_dg_len]) ad2) (hS) ?_
      try simp only [nrm]
      refine WpT.take (i := 30) rfl (by kernel_rfl) (fun _ _ _ h => h) (.inl ⟨by rfl, fun w hSw => by clear hSw; go_simp; (try go_bits); (try rw [if_pos (by omega)]); (try with_reducible rfl)⟩) (hS) ?_
      try simp only [nrm]
      refine WpT.take (i := 31) rfl (by kernel_rfl) (fun _ _ _ h => h) (.inl ⟨by rfl, fun w hSw => by clear hSw; go_simp; (try go_bits); (try rw [if_pos (by omega)]); (try with_reducible rfl)⟩) (hS) ?_
      try simp only [nrm]
      refine WpT.take (i := 32) rfl (by kernel_rfl) (fun _ _ _ h => h) (.inl ⟨by rfl, fun w hSw => by clear hSw; go_simp; (try go_bits); (try rw [if_pos (by omega)]); (try with_reducible rfl)⟩) (hS) ?_
      try simp only [nrm]
      refine WpT.take (i := 33) rfl (by kernel_rfl) (fun _ _ _ h => h) (.inl ⟨by rfl, fun w hSw => by clear hSw; go_simp; (try go_bits); (try rw [if_pos (by omega)]); (try with_reducible rfl)⟩) (hS) ?_
      try simp only [nrm]
      refine WpT.take (i := 34) rfl (by kernel_rfl) (fun _ _ _ h => h) (yields_loadKW (us := bv (dg P.sum)) (by rfl) rfl rfl aggDg (by rw [sizeDg, bv_dg_len]) bd2) (hS) ?_
      try simp only [nrm]
      refine WpT.take (i := 35) rfl (by kernel_rfl) (fun _ _ _ h => h) (.inl ⟨by rfl, fun w hSw => by clear hSw; go_simp; (try go_bits); (try rw [if_pos (by omega)]); (try with_reducible rfl)⟩) (hS) ?_
      try simp only [nrm]
      refine WpT.take (i := 36) rfl (by kernel_rfl) (fun _ _ _ h => h) (.inl ⟨by rfl, fun w hSw => by clear hSw; go_simp; (try go_bits); (try rw [if_pos (by omega)]); (try with_reducible rfl)⟩) (hS) ?_
      try simp only [nrm]
      refine WpT.take (i := 37) rfl (by kernel_rfl) (fun _ _ _ h => h) (.inl ⟨by rfl, fun w hSw => by clear hSw; go_simp; (try go_bits); (try rw [if_pos (by omega)]); (try with_reducible rfl)⟩) (hS) ?_
      try simp only [nrm]
      refine WpT.take (i := 38) rfl (by kernel_rfl) (fun _ _ _ h => h) (.inl ⟨by rfl, fun w hSw => by clear hSw; go_simp; (try go_bits); (try rw [if_pos (by omega)]); (try with_reducible rfl)⟩) (hS) ?_
      try simp only [nrm]
      refine WpT.take (i := 39) rfl (by kernel_rfl) (fun _ _ _ h => h) (.inl ⟨by rfl, fun w hSw => by clear hSw; go_simp; (try go_bits); (try rw [if_pos (by omega)]); (try with_reducible rfl)⟩) (hS) ?_
      try simp only [nrm]
      refine WpT.take (i := 40) rfl (by kernel_rfl) (fun _ _ _ h => h) (.inl ⟨by rfl, fun w hSw => by clear hSw; go_simp; (try go_bits); (try rw [if_pos (by omega)]); (try with_reducible rfl)⟩) (hS) ?_
      try simp only [nrm]
      refine WpT.take (i := 41) rfl (by kernel_rfl) (fun _ _ _ h => h) (.inl ⟨by rfl, fun w hSw => by clear hSw; go_simp; (try go_bits); (try rw [if_pos (by omega)]); (try with_reducible rfl)⟩) (hS) ?_
      try simp only [nrm]
      refine WpT.take (i := 42) rfl (by kernel_rfl) (fun _ _ _ h => h) (yields_loadW (by rfl) rfl rfl (by kernel_rfl) an) (hS) ?_
      try simp only [nrm]
      refine WpT.take (i := 43) rfl (by kernel_rfl) (fun _ _ _ h => h) (.inl ⟨by rfl, fun w hSw => by clear hSw; go_simp; (try go_bits); (try rw [if_pos (by omega)]); (try with_reducible rfl)⟩) (hS) ?_
      try simp only [nrm]
      refine WpT.take (i := 44) rfl (by kernel_rfl) (fun _ _ _ h => h) (.inl ⟨by rfl, fun w hSw => by clear hSw; go_simp; (try go_bits); (try rw [if_pos (by omega)]); (try with_reducible rfl)⟩) (hS) ?_
      try simp only [nrm]
      refine WpT.take (i := 45) rfl (by kernel_rfl) (fun _ _ _ h => h) (.inl ⟨by rfl, fun w hSw => by clear hSw; go_simp; (try go_bits); (try rw [if_pos (by omega)]); (try with_reducible rfl)⟩) (hS) ?_
      try simp only [nrm]
      refine WpT.take (i := 46) rfl (by kernel_rfl) (fun _ _ _ h => h) (.inl ⟨by rfl, fun w hSw => by clear hSw; go_simp; (try go_bits); (try rw [if_pos (by omega)]); (try with_reducible rfl)⟩) (hS) ?_
      try simp only [nrm]
      refine WpT.take (i := 47) rfl (by kernel_rfl) (fun _ _ _ h => h) (yields_loadW (by rfl) rfl rfl (by kernel_rfl) bn) (hS) ?_
      try simp only [nrm]
      refine WpT.take (i := 48) rfl (by kernel_rfl) (fun _ _ _ h => h) (.inl ⟨by rfl, fun w hSw => by clear hSw; go_simp; (try go_bits); (try rw [if_pos (by omega)]); (try with_reducible rfl)⟩) (hS) ?_
      try simp only [nrm]
      refine WpT.take (i := 49) rfl (by kernel_rfl) (fun _ _ _ h => h) (.inl ⟨by rfl, fun w hSw => by clear hSw; go_simp; (try go_bits); (try rw [if_pos (by omega)]); (try with_reducible rfl)⟩) (hS) ?_
      try simp only [nrm]
      refine WpT.take (i := 50) rfl (by kernel_rfl) (fun _ _ _ h => h) (.inl ⟨by rfl, fun w hSw => by clear hSw; go_simp; (try go_bits); (try rw [if_pos (by omega)]); (try with_reducible rfl)⟩) (hS) ?_
      try simp only [nrm]
      refine WpT.take (i := 51) rfl (by kernel_rfl) (fun _ _ _ h => h) (.inl ⟨by rfl, fun w hSw => by clear hSw; go_simp; (try go_bits); (try rw [if_pos (by omega)]); (try with_reducible rfl)⟩) (hS) ?_
      try simp only [nrm]
      refine WpT.take (i := 52) rfl (by kernel_rfl) (fun _ _ _ h => h) (.inl ⟨by rfl, fun w hSw => by clear hSw; go_simp; (try go_bits); (try rw [if_pos (by omega)]); (try with_reducible rfl)⟩) (hS) ?_
      try simp only [nrm]
      refine WpT.take (i := 53) rfl (by kernel_rfl) (fun _ _ _ h => h) (.inl ⟨by rfl, fun w hSw => by clear hSw; go_simp; (try go_bits); (try rw [if_pos (by omega)]); (try with_reducible rfl)⟩) (hS) ?_
      try simp only [nrm]
      refine WpT.take (i := 54) rfl (by kernel_rfl) (fun _ _ _ h => h) (.inl ⟨by rfl, fun w hSw => by clear hSw; go_simp; (try go_bits); (try rw [if_pos (by omega)]); (try with_reducible rfl)⟩) (hS) ?_
      try simp only [nrm]
      refine WpT.take (i := 55) rfl (by kernel_rfl) (fun _ _ _ h => h) (yields_loadW (by rfl) rfl rfl (by kernel_rfl) at_) (hS) ?_
      try simp only [nrm]
      refine WpT.take (i := 56) rfl (by kernel_rfl) (fun _ _ _ h => h) (.inl ⟨by rfl, fun w hSw => by clear hSw; go_simp; (try go_bits); (try rw [if_pos (by omega)]); (try with_reducible rfl)⟩) (hS) ?_
      try simp only [nrm]
      refine WpT.take (i := 57) rfl (by kernel_rfl) (fun _ _ _ h => h) (.inl ⟨by rfl, fun w hSw => by clear hSw; go_simp; (try go_bits); (try rw [if_pos (by omega)]); (try with_reducible rfl)⟩) (hS) ?_
      try simp only [nrm]
      refine WpT.take (i := 58) rfl (by kernel_rfl) (fun _ _ _ h => h) (.inl ⟨by rfl, fun w hSw => by clear hSw; go_simp; (try go_bits); (try rw [if_pos (by omega)]); (try with_reducible rfl)⟩) (hS) ?_
      try simp only [nrm]
      refine WpT.take (i := 59) rfl (by kernel_rfl) (fun _ _ _ h => h) (.inl ⟨by rfl, fun w hSw => by clear hSw; go_simp; (try go_bits); (try rw [if_pos (by omega)]); (try with_reducible rfl)⟩) (hS) ?_
      try simp only [nrm]
      refine WpT.take (i := 60) rfl (by kernel_rfl) (fun _ _ _ h => h) (yields_loadW (by rfl) rfl rfl (by kernel_rfl) bt) (hS) ?_
      try simp only [nrm]
      refine WpT.take (i := 61) rfl (by kernel_rfl) (fun _ _ _ h => h) (.inl ⟨by rfl, fun w hSw => by clear hSw; go_simp; (try go_bits); (try rw [if_pos (by omega)]); (try with_reducible rfl)⟩) (hS) ?_
      try simp only [nrm]
      refine WpT.take (i := 62) rfl (by kernel_rfl) (fun _ _ _ h => h) (.inl ⟨by rfl, fun w hSw => by clear hSw; go_simp; (try go_bits); (try rw [if_pos (by omega)]); (try with_reducible rfl)⟩) (hS) ?_
      try simp only [nrm]
      refine WpT.take (i := 63) rfl (by kernel_rfl) (fun _ _ _ h => h) (.inl ⟨by rfl, fun w hSw => by clear hSw; go_simp; (try go_bits); (try rw [if_pos (by omega)]); (try with_reducible rfl)⟩) (hS) ?_
      try simp only [nrm]
      refine WpT.take (i := 64) rfl (by kernel_rfl) (fun _ _ _ h => h) (.inl ⟨by rfl, fun w hSw => by clear hSw; go_simp; (try go_bits); (try rw [if_pos (by omega)]); (try with_reducible rfl)⟩) (hS) ?_
      try simp only [nrm]
      refine WpT.take (i := 65) rfl (by kernel_rfl) (fun _ _ _ h => h) (.inl ⟨by rfl, fun w hSw => by clear hSw; go_simp; (try go_bits); (try rw [if_pos (by omega)]); (try with_reducible rfl)⟩) (hS) ?_
      try simp only [nrm]
      refine WpT.take (i := 66) rfl (by kernel_rfl) (fun _ _ _ h => h) (.inl ⟨by rfl, fun w hSw => by clear hSw; go_simp; (try go_bits); (try rw [if_pos (by omega)]); (try with_reducible rfl)⟩) (hS) ?_
      try simp only [nrm]
      refine WpT.take (i := 67) rfl (by kernel_rfl) (fun _ _ _ h => h) (.inl ⟨by rfl, fun w hSw => by clear hSw; go_simp; (try go_bits); (try rw [if_pos (by omega)]); (try with_reducible rfl)⟩) (hS) ?_
      try simp only [nrm]
      refine WpT.take (i := 68) rfl (by kernel_rfl) (fun _ _ _ h => h) (yields_loadW (by rfl) rfl rfl (by kernel_rfl) as_) (hS) ?_
      try simp only [nrm]
      refine WpT.take (i := 69) rfl (by kernel_rfl) (fun _ _ _ h => h) (.inl ⟨by rfl, fun w hSw => by clear hSw; go_simp; (try go_bits); (try rw [if_pos (by omega)]); (try with_reducible rfl)⟩) (hS) ?_
      try simp only [nrm]
      refine WpT.take (i := 70) rfl (by kernel_rfl) (fun _ _ _ h => h) (.inl ⟨by rfl, fun w hSw => by clear hSw; go_simp; (try go_bits); (try rw [if_pos (by omega)]); (try with_reducible rfl)⟩) (hS) ?_
      try simp only [nrm]
      refine WpT.take (i := 71) rfl (by kernel_rfl) (fun _ _ _ h => h) (.inl ⟨by rfl, fun w hSw => by clear hSw; go_simp; (try go_bits); (try rw [if_pos (by omega)]); (try with_reducible rfl)⟩) (hS) ?_
      try simp only [nrm]
      refine WpT.take (i := 72) rfl (by kernel_rfl) (fun _ _ _ h => h) (.inl ⟨by rfl, fun w hSw => by clear hSw; go_simp; (try go_bits); (try rw [if_pos (by omega)]); (try with_reducible rfl)⟩) (hS) ?_
      try simp only [nrm]
      refine WpT.take (i := 73) rfl (by kernel_rfl) (fun _ _ _ h => h) (yields_loadW (by rfl) rfl rfl (by kernel_rfl) bs) (hS) ?_
      try simp only [nrm]
      refine WpT.one (i := 74) rfl (by kernel_rfl) (fun K hK => ?_)
      go_simp; refine (HSN.out _ hS).mono ?_; rintro e w3 ⟨rfl, hb3⟩; rw [decide_eq_true (Eq.refl P.names)]; replace hS := bstep hS hb3
      refine hK _ _ (hS) ?_; clear hK K; try simp only [nrm]
      refine WpT.take (i := 75) rfl (by kernel_rfl) (fun _ _ _ h => h) (.inl ⟨by rfl, fun w hSw => by clear hSw; go_simp; (try go_bits); (try rw [if_pos (by omega)]); (try with_reducible rfl)⟩) (hS) ?_
      try simp only [nrm]
      refine WpT.take (i := 76) rfl (by kernel_rfl) (fun _ _ _ h => h) (.inl ⟨by rfl, fun w hSw => by clear hSw; go_simp; (try go_bits); (try rw [if_pos (by omega)]); (try with_reducible rfl)⟩) (hS) ?_
      try simp only [nrm]
      refine WpT.done (by kernel_rfl) ?_ _
      skip
      have hbn := bstep hbw hS
      go_wp2_with fail
      exact ⟨⟨k + 1, by omega, by go_num, hbn⟩, by simp [intOf]; omega⟩
    · obtain rfl : k = n := by omega
      go_wp2_with fail
      go_ret
      exact ⟨rfl, hbw⟩
end Go.Proofs.YtieamjjnofelcaaDoor
namespace Go.Proofs.YtieamjjnofelcaaDoor
set_option linter.unusedSimpArgs false
set_option linter.unusedVariables false
open Go.RowKit Exch
set_option maxRecDepth 20000 in
set_option maxHeartbeats 8000000 in
theorem walkExchangeHearsAsSpecified (A : Option Addr) (n c : Nat) (l : List It) (P : Pa) (An : Option Addr) (nn cn : Nat) (w : World) (hnc : n ≤ c) (hcm : c ≤ maxLen) (hr : RdT w A n l) (hl : ∀ x ∈ l, WfT x) (hAu : Under A w.heap.size)
    (hP : P.v < 2 ^ 128 ∧ P.sum < 2 ^ 128) (hnn : nn ≤ maxLen) (hpr : RdD w An nn P.names) (hpl : ∀ z ∈ P.names, z < 2 ^ 128) (hpt : P.text.size ≤ maxLen) (hAn : Under An w.heap.size) (hg : GCon w) (hrc : RCon w) :
    Calls Tryd.prog 4 #[stV A n c, paV P An nn cn] w fun e w' => e = .returned (.bool true) ∧ Below w.heap.size w w' := by
  obtain ⟨wa, hwa, hb0, q2, q3⟩ : ∃ wa : World, wa = (w.alloc (.cells (stC A n c) 24)).alloc (.cells (paC P An nn cn) 47) ∧ Below w.heap.size w wa ∧ Blk wa w.heap.size 24 (stC A n c) ∧ Blk wa (w.heap.size + 1) 47 (paC P An nn cn) :=
    ⟨_, rfl, ((Below.refl w.heap.size w).alloc (Nat.le_refl _) _).alloc (by simp) _, (Blk.new _ _ _).alloc _, Blk.new2 _ _ _ _⟩
  have HWA := Lib.hid hwa
  clear hwa
  have hn64 : n ≤ 9223372036854775807 := by unfold maxLen at hcm; omega
  have hp64 : nn ≤ 9223372036854775807 := by unfold maxLen at hnn; omega
  have ht64 : P.text.size ≤ 9223372036854775807 := by unfold maxLen at hpt; omega
  have HG := Lib.hid (fun W (h : Below wa.heap.size wa W) => (hg.below hb0).below h)
  have HRC := Lib.hid (fun W (h : Below wa.heap.size wa W) => (hrc.below hb0).below h)
  have hSan := Lib.hid (fun W (h : Below wa.heap.size wa W) => sanity_any W ((hg.below hb0).below h) ((hrc.below hb0).below h))
  have HLV := Lib.hid (lawValid_any l A n c wa hn64 (hr.below hb0) hl (hrc.below hb0))
  have HST : Hid (Vl l → ∀ W, Below wa.heap.size wa W → StAt W (fun _ => False) A n c l) := Lib.hid (fun hv W h => ⟨(hr.below hb0).below h, hnc, hcm, hAu.le (Nat.le_trans hb0.size h.size), hv, fun g h => h.elim⟩)
  have HPK : Hid (nn ≤ 100 → P.text.size ≤ 200 → PaOk P) := Lib.hid (fun h1 h2 => ⟨hP.1, hP.2, by have := hpr.len; omega, hpl, h2⟩)
  have HPA : Hid (PaOk P → ∀ W, Below wa.heap.size wa W → PaAt W (fun _ => False) ⟨P, An, nn, cn⟩) := Lib.hid (fun hk W h => ⟨(hpr.below hb0).below h, hAn.le (Nat.le_trans hb0.size h.size), hk, fun g h => h.elim⟩)
  have HLN := Lib.hid hr.len
  have HNN := Lib.hid hpr.len
  have HCK : Hid (PaOk P → nn ≤ 100 → ∀ W, Below wa.heap.size wa W → Calls Tryd.prog 35 #[paV P An nn cn] W fun e w' => e = .returned (.int .i64 (checkP P)) ∧ Below W.heap.size W w') := Lib.hid (fun hk h1 W h => check_any P An nn cn W hk.v hk.sum ((hpr.below hb0).below h) (by omega) hk.lt (by have := hk.text; omega))
  have HRK : Hid (PaOk P → nn ≤ 100 → ∀ W, Below wa.heap.size wa W → Calls Tryd.prog 36 #[paV P An nn cn] W fun e w' => e = .returned (.int .i64 (checkP P)) ∧ Below W.heap.size W w') := Lib.hid (fun hk h1 W h => refCheck_any P An nn cn W hk.v hk.sum ((hpr.below hb0).below h) (by omega) hk.lt (by have := hk.text; omega))
  obtain ⟨V, hV⟩ : ∃ V, paC P An nn cn = V := ⟨_, rfl⟩
  have hPs : V.size = 37 := by rw [← hV]; exact paC_size P An nn cn
  have HQ : Hid (∀ W, Blk W (w.heap.size + 1) 47 V → W.cell? ⟨w.heap.size + 1, 35, none⟩ = some (.slice An nn cn) ∧ W.cell? ⟨w.heap.size + 1, 36, none⟩ = some (.string P.text)) := Lib.hid (fun W h => by
    rw [← hV] at h
    exact ⟨h.paS, h.paT⟩)
  have HVE := Lib.hid hV
  show Calls _ _ #[_, .agg (paC P An nn cn)] _ _
  rw [hV] at q3 HWA ⊢
  clear hV hr hl hAu hP hnn hpr hpl hpt hAn hg hrc hnc hcm
  have hbx := Below.refl wa.heap.size wa
  go_enter Tryd.func4, Tryd.ntmps4
  go_upto_region 1 with (fail)
  change Code.wp _ _ _ _ ((w.alloc (.cells (stC A n c) 24)).alloc (.cells V 47))
  rw [← HWA.out]
  go_wp2_with ((with_reducible show wpList _ _ _ (⟨some 10, _, _, _, _, _⟩ :: _) _ _); refine wpList_loadRow rfl rfl rfl q2 aggSt (by rw [sizeSt]; rfl) ?_)
  refine HLV.out.mono ?_
  rintro e w1 ⟨B, rfl, hB, hb1⟩
  replace q2 := q2.below hb1
  replace q3 := q3.below hb1
  replace hbx := bstep hbx hb1
  have HB := Lib.hid hB
  clear hb1 hB HLV
  cases B
  · go_wp2_with fail
    refine (hSan.out _ hbx).mono ?_
    rintro e w4 ⟨rfl, hb4⟩
    go_wp2_with fail
    go_ret
    exact ⟨rfl, (hb0.trans (hbx.mono hb0.size)).trans (hb4.mono (by have := hb0.size; have := hbx.size; omega))⟩
  obtain ⟨h60, hvl⟩ := HB.out rfl
  obtain ⟨cs, ct⟩ := HQ.out _ q3
  by_cases h100 : 100 < nn
  · have d1 : decide ((100 : Int) < nn) = true := by rw [decide_eq_true_eq]; omega
    go_wp2_with fail
    refine (hSan.out _ hbx).mono ?_
    rintro e w4 ⟨rfl, hb4⟩
    go_wp2_with fail
    go_ret
    exact ⟨rfl, (hb0.trans (hbx.mono hb0.size)).trans (hb4.mono (by have := hb0.size; have := hbx.size; omega))⟩
  have d1 : decide ((100 : Int) < nn) = false := by rw [decide_eq_false_iff_not]; omega
  by_cases h200 : 200 < P.text.size
  · have d2 : decide ((200 : Int) < P.text.size) = true := by rw [decide_eq_true_eq]; omega
    go_wp2_with fail
    refine (hSan.out _ hbx).mono ?_
    rintro e w4 ⟨rfl, hb4⟩
    go_wp2_with fail
    go_ret
    exact ⟨rfl, (hb0.trans (hbx.mono hb0.size)).trans (hb4.mono (by have := hb0.size; have := hbx.size; omega))⟩
  have d2 : decide ((200 : Int) < P.text.size) = false := by rw [decide_eq_false_iff_not]; omega
  have hok := HPK.out (by omega) (by omega)
  have HS := Lib.hid (HST.out hvl)
  have HP := Lib.hid (HPA.out hok)
  have HC1 := Lib.hid (HCK.out hok (by omega))
  have HC2 := Lib.hid (HRK.out hok (by omega))
  have hfine := hear_fine (l := l) (m := P) hvl (by have := HLN.out; omega) hok
  have HV1 := Lib.hid hfine.1
  have HLE : Hid ((hearL l P).1.length ≤ 1000) := Lib.hid (by have := hear_len l P; have := HLN.out; omega)
  have HHE := Lib.hid (fun W (h : Below wa.heap.size wa W) => hear_at (HS.out W h) (by have := HLN.out; omega) (HP.out W h) (fun g h => h.elim) (HG.out W h))
  have HRH := Lib.hid (fun W (h : Below wa.heap.size wa W) => refHear_any l A n c P An nn cn W (HS.out W h) (by have := HLN.out; omega) (HP.out W h) (HRC.out W h))
  have e1 : ∀ x : Array Value, Value.agg (paC P An nn cn) = Value.agg V := fun _ => by rw [HVE.out]
  have e2 : paV P An nn cn = .agg V := e1 #[]
  obtain ⟨r, hr⟩ : ∃ r, hearL l P = r := ⟨_, rfl⟩
  obtain ⟨K, hK⟩ : ∃ K, checkP P = K := ⟨_, rfl⟩
  rw [hr] at HV1 HLE HRH HHE
  rw [hK] at HC1 HC2
  rw [e2] at HC1 HC2 HRH
  have HHE2 : Hid (∀ W, Below wa.heap.size wa W → Calls Tryd.prog 33 #[stV A n c, .agg V] W (HearAt r (fun _ => False) W)) := Lib.hid (fun W h => by rw [← e2]; exact HHE.out W h)
  clear e1 e2 hr hK hfine hok hvl HB HPK HPA HCK HRK HST HVE HHE h100 h200
  obtain ⟨r1, r2, r3⟩ := r
  simp only at HV1 HLE
  go_wp2_with first
    | ((with_reducible show wpList _ _ _ (⟨some 28, _, _, _, _, _⟩ :: _) _ _); refine wpList_loadRow rfl rfl rfl q2 aggSt (by rw [sizeSt]; rfl) ?_)
    | ((with_reducible show wpList _ _ _ (⟨some 29, _, _, _, _, _⟩ :: _) _ _); refine wpList_loadRow rfl rfl rfl q3 aggPa (by rw [sizePa, hPs]) ?_)
  refine (HHE2.out _ hbx).mono ?_
  rintro e w2 ⟨A5, n5, c5, vo, rs, rfl, st5, ho5, hp5, hk5, hb5, HRSL⟩
  replace q2 := q2.below hb5
  replace q3 := q3.below hb5
  replace hbx := bstep hbx hb5
  clear hb5 cs ct HHE2
  simp only at st5 hp5
  go_upto_region 5 with first
    | ((with_reducible show wpList _ _ _ (⟨some 6, _, _, _, _, _⟩ :: _) _ _); refine wpList_new rfl rfl zeroSt ?_; intro w6 g6 hg6 q6 hb6 lt6; have HG6 := Lib.hid hg6; clear hg6)
    | ((with_reducible show wpList _ _ _ (⟨none, _, _, _, _, _⟩ :: _) _ _); refine wpList_put (vs := stC A5 n5 c5) rfl rfl rfl rfl q6 rfl (by kernel_rfl) (by simp [Value.oneCell']) ?_; intro w7 ht7 b6)
  have hbn := hb6.trans (ht7.below _ (by have := HG6.out; omega))
  replace q2 := q2.below hbn
  replace q3 := q3.below hbn
  replace st5 := st5.below hbn
  replace ho5 := ho5.below hbn
  replace hbx := bstep hbx hbn
  clear hbn hb6 ht7 q6 lt6 HG6
  go_wp2_with first
    | ((with_reducible show wpList _ _ _ (⟨some 34, _, _, _, _, _⟩ :: _) _ _); refine wpList_loadRow rfl rfl rfl q2 aggSt (by rw [sizeSt]; rfl) ?_)
    | ((with_reducible show wpList _ _ _ (⟨some 35, _, _, _, _, _⟩ :: _) _ _); refine wpList_loadRow rfl rfl rfl q3 aggPa (by rw [sizePa, hPs]) ?_)
  refine (HRH.out _ hbx).mono ?_
  rintro e w8 ⟨A9, n9, c9, vo9, rs9, rfl, r9, ho9, hp9, hb9⟩
  replace q2 := q2.below hb9
  replace q3 := q3.below hb9
  replace b6 := b6.below hb9
  replace st5 := st5.below hb9
  replace ho5 := ho5.below hb9
  replace hbx := bstep hbx hb9
  clear hb9
  simp only at r9 hp9
  have HO9 := Lib.hid ho9.one
  go_upto_region 6 with first
    | ((with_reducible show wpList _ _ _ (⟨some 9, _, _, _, _, _⟩ :: _) _ _); refine wpList_new rfl rfl zeroDid ?_; intro w9 g9 hg9 q9 hb9 lt9; have HG9 := Lib.hid hg9; clear hg9)
    | ((with_reducible show wpList _ _ _ (⟨none, _, _, _, _, _⟩ :: _) _ _); refine wpList_put (vs := didC A9 n9 c9 vo9 r3) rfl rfl rfl rfl q9 rfl (by rw [sizeDid]; rfl) (one_didC _ _ _ _ _ HO9.out) ?_; intro w10 ht10 b9)
  have hbn := hb9.trans (ht10.below _ (by have := HG9.out; omega))
  replace q2 := q2.below hbn
  replace q3 := q3.below hbn
  replace b6 := b6.below hbn
  replace st5 := st5.below hbn
  replace ho5 := ho5.below hbn
  replace ho9 := ho9.below hbn
  replace r9 := r9.below hbn
  replace hbx := bstep hbx hbn
  clear hbn hb9 ht10 q9 lt9 HG9 q2
  have HSM : Hid (∀ W, Below w10.heap.size w10 W → Calls Tryd.prog 22 #[stV A5 n5 c5, stV A9 n9 c9] W fun e w' => e = .returned (.bool true) ∧ Below W.heap.size W w') := Lib.hid (fun W h => by
    have h2 := same44_any r1 r1 A5 n5 c5 A9 n9 c9 W (st5.rd.below h) (r9.below h) (by have := st5.rd.len; have := HLE.out; omega) (by have := r9.len; have := HLE.out; omega) st5.vl.wf st5.vl.wf
    rwa [decide_eq_true rfl] at h2)
  obtain ⟨B5, d5, rfl, -, -, -⟩ := ownsRow_form ho5.1
  obtain ⟨B9, d9, rfl, -, -, -⟩ := ownsRow_form ho9.1
  have HSP : Hid (∀ W, Below w10.heap.size w10 W → Calls Tryd.prog 28 #[.slice B5 rs.length d5, .slice B9 rs9.length d9] W fun e w' => e = .returned (.bool true) ∧ Below W.heap.size W w') := Lib.hid (fun W h => by
    have f5 := ownsRow_form (ho5.below h).1
    have f9 := ownsRow_form (ho9.below h).1
    obtain ⟨A1, c1, e1, -, -, h1⟩ := f5
    obtain ⟨A2, c2, e2, -, -, h2⟩ := f9
    injection e1 with e1 _ _
    injection e2 with e2 _ _
    subst e1
    subst e2
    have hrd : ∀ {C : Nat} {vo : Value} {rs : List PaR}, OutP W C vo rs → ∀ r ∈ rs, RdD W r.A r.n r.p.names := fun ho r hr => by
      obtain ⟨A3, c3, e3, -, -, h3⟩ := (ho.2 r hr).form
      injection e3 with e4 e5 _
      rw [← e4, ← e5] at h3
      exact h3
    exact sameParcels_any rs rs9 B5 _ d5 B9 _ d9 W rfl h1 rfl h2 (by omega) (by rw [hp5, hp9]) (hrd (ho5.below h)) (hrd (ho9.below h)) hk5)
  have c90 : ∀ j u, ([.slice A9 n9 c9] : List Value)[j]? = some u → w10.cell? ((⟨g9, 0, none⟩ : Addr).add j) = some u := blk_at (xs := [.slice A9 n9 c9, .slice B9 rs9.length d9, .int .i64 r3]) b9 0 (fun j u hj => by
    match j, hj with
    | 0, hj => simpa using hj)
  have c91 := b9.cell 1
  have c92 := b9.cell 2
  simp only [List.getElem?_toArray, List.getElem?_cons_succ, List.getElem?_cons_zero] at c91 c92
  clear ho5 ho9 r9 st5 b9 hp5 hp9 hk5 HLE HV1 HO9
  have hS : Below w10.heap.size w10 w10.drew := (Below.refl _ _).drew
  refine wp_region_TB (S := Below (w10).heap.size (w10)) 26 (by kernel_rfl) ?_
  refine WpT.one (i := 0) rfl (by kernel_rfl) (fun K hK => ?_)
  go_simp; refine (hSan.out _ (bstep hbx hS)).mono ?_; rintro e w3 ⟨rfl, hb3⟩; replace hS := bstep hS hb3
  refine hK _ _ (hS) ?_; clear hK K; try simp only [nrm]
  refine WpT.take (i := 1) rfl (by kernel_rfl) (fun _ _ _ h => h) (.inl ⟨by rfl, fun w hSw => by clear hSw; go_simp; (try go_bits); (try rw [if_pos (by omega)]); (try with_reducible rfl)⟩) (hS) ?_
  try simp only [nrm]
  refine WpT.take (i := 2) rfl (by kernel_rfl) (fun _ _ _ h => h) (yields_blkW (by rfl) rfl rfl aggPa (by rw [sizePa, hPs]) q3) (hS) ?_
  try simp only [nrm]
  refine WpT.take (i := 4) rfl (by kernel_rfl) (fun _ _ _ h => h) (yields_blkW (by rfl) rfl rfl aggPa (by rw [sizePa, hPs]) q3) (hS) ?_
  try simp only [nrm]
  refine WpT.one (i := 3) rfl (by kernel_rfl) (fun K hK => ?_)
  go_simp; refine (HC1.out _ (bstep hbx hS)).mono ?_; rintro e w4 ⟨rfl, hb4⟩; replace hS := bstep hS hb4
  refine hK _ _ (hS) ?_; clear hK K; try simp only [nrm]
  refine WpT.one (i := 5) rfl (by kernel_rfl) (fun K hK => ?_)
  go_simp; refine (HC2.out _ (bstep hbx hS)).mono ?_; rintro e w5 ⟨rfl, hb5⟩; replace hS := bstep hS hb5
  refine hK _ _ (hS) ?_; clear hK K; try simp only [nrm]
  refine WpT.take (i := 6) rfl (by kernel_rfl) (fun _ _ _ h => h) (.inl ⟨by rfl, fun w hSw => by clear hSw; go_simp; (try go_bits); (try rw [if_pos (by omega)]); (try with_reducible rfl)⟩) (hS) ?_
  try simp only [nrm]
  refine WpT.take (i := 7) rfl (by kernel_rfl) (fun _ _ _ h => h) (.inl ⟨by rfl, fun w hSw => by clear hSw; go_simp; (try go_bits); (try rw [if_pos (by omega)]); (try with_reducible rfl)⟩) (hS) ?_
  try simp only [nrm]
  refine WpT.take (i := 8) rfl (by kernel_rfl) (fun _ _ _ h => h) (.inl ⟨by rfl, fun w hSw => by clear hSw; go_simp; (try go_bits); (try rw [if_pos (by omega)]); (try with_reducible rfl)⟩) (hS) ?_
  try simp only [nrm]
  refine WpT.take (i := 9) rfl (by kernel_rfl) (fun _ _ _ h => h) (.inl ⟨by rfl, fun w hSw => by clear hSw; go_simp; (try go_bits); (try rw [if_pos (by omega)]); (try with_reducible rfl)⟩) (hS) ?_
  try simp only [nrm]
  refine WpT.take (i := 10) rfl (by kernel_rfl) (fun _ _ _ h => h) (.inl ⟨by rfl, fun w hSw => by clear hSw; go_simp; (try go_bits); (try rw [if_pos (by omega)]); (try with_reducible rfl)⟩) (hS) ?_
  try simp only [nrm]
  refine WpT.take (i := 11) rfl (by kernel_rfl) (fun _ _ _ h => h) (yields_loadW (by rfl) rfl rfl (by kernel_rfl) c92) (hS) ?_
  try simp only [nrm]
  refine WpT.take (i := 12) rfl (by kernel_rfl) (fun _ _ _ h => h) (.inl ⟨by rfl, fun w hSw => by clear hSw; go_simp; (try go_bits); (try rw [if_pos (by omega)]); (try with_reducible rfl)⟩) (hS) ?_
  try simp only [nrm]
  refine WpT.take (i := 13) rfl (by kernel_rfl) (fun _ _ _ h => h) (.inl ⟨by rfl, fun w hSw => by clear hSw; go_simp; (try go_bits); (try rw [if_pos (by omega)]); (try with_reducible rfl)⟩) (hS) ?_
  try simp only [nrm]
  refine WpT.take (i := 14) rfl (by kernel_rfl) (fun _ _ _ h => h) (.inl ⟨by rfl, fun w hSw => by clear hSw; go_simp; (try go_bits); (try rw [if_pos (by omega)]); (try with_reducible rfl)⟩) (hS) ?_
  try simp only [nrm]
  refine WpT.take (i := 15) rfl (by kernel_rfl) (fun _ _ _ h => h) (yields_blkW (by rfl) rfl rfl aggSt (by rw [sizeSt]; rfl) b6) (hS) ?_
  try simp only [nrm]
  refine WpT.take (i := 16) rfl (by kernel_rfl) (fun _ _ _ h => h) (.inl ⟨by rfl, fun w hSw => by clear hSw; go_simp; (try go_bits); (try rw [if_pos (by omega)]); (try with_reducible rfl)⟩) (hS) ?_
  try simp only [nrm]
  refine WpT.take (i := 17) rfl (by kernel_rfl) (fun _ _ _ h => h) (yields_loadKW (us := [.slice A9 n9 c9]) (by rfl) rfl rfl aggSt (by rw [sizeSt]; rfl) c90) (hS) ?_
  try simp only [nrm]
  refine WpT.one (i := 18) rfl (by kernel_rfl) (fun K hK => ?_)
  go_simp; refine (HSM.out _ hS).mono ?_; rintro e w6 ⟨rfl, hb6⟩; replace hS := bstep hS hb6
  refine hK _ _ (hS) ?_; clear hK K; try simp only [nrm]
  refine WpT.take (i := 19) rfl (by kernel_rfl) (fun _ _ _ h => h) (.inl ⟨by rfl, fun w hSw => by clear hSw; go_simp; (try go_bits); (try rw [if_pos (by omega)]); (try with_reducible rfl)⟩) (hS) ?_
  try simp only [nrm]
  refine WpT.take (i := 20) rfl (by kernel_rfl) (fun _ _ _ h => h) (.inl ⟨by rfl, fun w hSw => by clear hSw; go_simp; (try go_bits); (try rw [if_pos (by omega)]); (try with_reducible rfl)⟩) (hS) ?_
  try simp only [nrm]
  refine WpT.take (i := 21) rfl (by kernel_rfl) (fun _ _ _ h => h) (.inl ⟨by rfl, fun w hSw => by clear hSw; go_simp; (try go_bits); (try rw [if_pos (by omega)]); (try with_reducible rfl)⟩) (hS) ?_
  try simp only [nrm]
  refine WpT.take (i := 22) rfl (by kernel_rfl) (fun _ _ _ h => h) (.inl ⟨by rfl, fun w hSw => by clear hSw; go_simp; (try go_bits); (try rw [if_pos (by omega)]); (try with_reducible rfl)⟩) (hS) ?_
  try simp only [nrm]
  refine WpT.take (i := 23) rfl (by kernel_rfl) (fun _ _ _ h => h) (yields_loadW (by rfl) rfl rfl (by kernel_rfl) c91) (hS) ?_
  try simp only [nrm]
  refine WpT.one (i := 24) rfl (by kernel_rfl) (fun K hK => ?_)
  go_simp; refine (HSP.out _ hS).mono ?_; rintro e w7 ⟨rfl, hb7⟩; replace hS := bstep hS hb7
  refine hK _ _ (hS) ?_; clear hK K; try simp only [nrm]
  refine WpT.take (i := 25) rfl (by kernel_rfl) (fun _ _ _ h => h) (.inl ⟨by rfl, fun w hSw => by clear hSw; go_simp; (try go_bits); (try rw [if_pos (by omega)]); (try with_reducible rfl)⟩) (hS) ?_
  try simp only [nrm]
  refine WpT.tail (i := 26) rfl (by kernel_rfl) (by kernel_rfl) (fun K hK => ?_)
  go_simp; (try go_bits)
  refine hK _ _ ?_; clear hK K; try simp only [nrm]
  refine WpT.done (by kernel_rfl) ?_ _
  skip
  go_wp2_with fail
  go_ret
  exact ⟨rfl, hb0.trans ((bstep hbx hS).mono hb0.size)⟩
end Go.Proofs.YtieamjjnofelcaaDoor
namespace Go.Proofs.YtieamjjnofelcaaDoor.exchangeHearsAsSpecified
set_option linter.unusedSimpArgs false
set_option linter.unusedVariables false
open Go.ChangeShapes Go.WideShapes Go.ChangeAt Go.RowKit Go.Proofs.YtieamjjnofelcaaDoor
open Go.ChangeMaps (open_string shut_string)

set_option maxRecDepth 20000 in
set_option maxHeartbeats 1000000 in
theorem contract (H : Type) (enc : TypeId × Value → H) (W : World) (base : Nat) (args : Array Value) (ds gs : List (DataW H)) (before : List MemPlace)
    (hval : ∀ (j : Nat) t v, Tryd.f4.params[j]? = some t → args[j]? = some v → Value.okWide Tryd.prog W .any base t v)
    (hW : DataW.Whole enc Tryd.prog Tryd.f4.params.toList Rows.exchangeHearsAsSpecifiedSpec.vars false W args.toList ds gs before) (hL : laidMetH Tryd.prog Rows.exchangeHearsAsSpecifiedRow.laid W) :
    Calls Tryd.prog 4 args W fun e W' => ∃ v, e = .returned v ∧ Rows.exchangeHearsAsSpecifiedSpec.post enc Tryd.prog Tryd.f4 false true false false W args v W' := by
  have hW' := hW
  have hRef : RCon W := rcon_of hL
  have hCon : GCon W := con_of hL.tail
  obtain ⟨p, q, hA0, hV, rfl, hfz, hnd⟩ := hW
  have hA : DataW.TrodAll enc Tryd.prog W 0 (fun _ => true) true Tryd.f4.params.toList args.toList ds p := hA0
  rw [Tryd.params4] at hA hval
  obtain ⟨v0, vs0, d0, ds0, p0, q0, hargs, rfl, rfl, h0, r0⟩ := trodAll_cons hA
  obtain ⟨v1, vs1, d1, ds1, p1, q1, rfl, rfl, rfl, h1, r1⟩ := trodAll_cons r0
  obtain ⟨rfl, rfl, rfl⟩ := trodAll_nil r1
  obtain rfl : args = #[v0, v1] := by cases args; simp_all
  obtain ⟨rfl, rfl⟩ := trodVars_none hV
  have k0 := h0
  have lt0 : ∀ x ∈ p0, x.block < W.heap.size := by obtain ⟨m, hm⟩ := k0; exact DataW.trod_lt m _ _ _ hm
  obtain ⟨A0, n0, c0, l0, rfl, x0, y0, z0, f0, u0⟩ := open_stock (hval 0 24 v0 rfl rfl) h0
  have k1 := h1
  have lt1 : ∀ x ∈ p1, x.block < W.heap.size := by obtain ⟨m, hm⟩ := k1; exact DataW.trod_lt m _ _ _ hm
  obtain ⟨P1, A1, n1, c1, rfl, x1, y1, z1, f1, g1, u1⟩ := open_parcel (hval 1 47 v1 rfl rfl) h1
  clear hA0
  refine (walkExchangeHearsAsSpecified A0 n0 c0 l0 P1 A1 n1 c1 W x0 y0 z0 f0 u0 x1 y1 z1 f1 g1 u1 hCon hRef).mono fun e W' ⟨he, bel⟩ => ?_
  subst he
  exact ⟨_, rfl, _, _, _, [], _, [], hW', trodAll_mk1 (shut_bool (by kernel_rfl) _), (trodAll_cons_mk (Below.trod laidOut (by kernel_rfl) (of_decide_eq_true (by kernel_rfl)) k0 bel lt0) (trodAll_cons_mk (Below.trod laidOut (by kernel_rfl) (of_decide_eq_true (by kernel_rfl)) k1 bel lt1) trodAll_mk0)), rfl, bel.frame _, fun h => by cases h⟩

theorem laid_met (os : Os) : laidMet Tryd.prog Rows.exchangeHearsAsSpecifiedRow.laid ((laidWorldR os).forCall (fun _ _ => 0) ⟨#[], #[.agg #[.slice none 0 0], argPa], []⟩).memory :=
  laidMet_of_run' 8 (by kernel_rfl) (by kernel_rfl)
theorem reads (os : Os) {H : Type} (enc : TypeId × Value → H) : ∃ places, DataW.whole enc Tryd.prog ((laidWorldR os).forCall (fun _ _ => 0) ⟨#[], #[.agg #[.slice none 0 0], argPa], []⟩).memory Tryd.f4.params.toList Rows.exchangeHearsAsSpecifiedSpec.vars false (#[.agg #[.slice none 0 0], argPa] : Array Value).toList 8 = some ([.agg [.nil], .agg [.lit (.int .i64 0), .agg [.agg [.lit (.int .u8 0), .lit (.int .u8 0), .lit (.int .u8 0), .lit (.int .u8 0), .lit (.int .u8 0), .lit (.int .u8 0), .lit (.int .u8 0), .lit (.int .u8 0), .lit (.int .u8 0), .lit (.int .u8 0), .lit (.int .u8 0), .lit (.int .u8 0), .lit (.int .u8 0), .lit (.int .u8 0), .lit (.int .u8 0), .lit (.int .u8 0)], .lit (.int .i64 0)], .agg [.lit (.int .u8 0), .lit (.int .u8 0), .lit (.int .u8 0), .lit (.int .u8 0), .lit (.int .u8 0), .lit (.int .u8 0), .lit (.int .u8 0), .lit (.int .u8 0), .lit (.int .u8 0), .lit (.int .u8 0), .lit (.int .u8 0), .lit (.int .u8 0), .lit (.int .u8 0), .lit (.int .u8 0), .lit (.int .u8 0), .lit (.int .u8 0)], .lit (.int .i64 0), .nil, .lit (.string [])]], [], places) :=
  ⟨[], by kernel_rfl⟩
set_option maxRecDepth 100000 in
theorem lifted (os : Os) (started : os.Started) (H : Type) (enc : TypeId × Value → H) (F : Stop.Interp) :
    ReturnsInHanded {} Tryd.checked os 4 .any ((OpenSpec.ofChange Rows.exchangeHearsAsSpecifiedSpec).preRow enc Tryd.prog Tryd.f4 Rows.exchangeHearsAsSpecifiedRow.domain false Rows.exchangeHearsAsSpecifiedRow.laid) (((OpenSpec.ofChange Rows.exchangeHearsAsSpecifiedSpec).at F).post enc Tryd.prog Tryd.f4 false true false false) := by
  obtain ⟨places, hx⟩ := reads os enc
  refine returnsInHanded_of_row (C := Tryd.checked) (s := OpenSpec.ofChange Rows.exchangeHearsAsSpecifiedSpec) own started (by kernel_rfl) Tryd.func4
    (witness_row_at (enc := enc) (C := Tryd.checked) false (laidWorldR os) #[.agg #[.slice none 0 0], argPa] rfl (by kernel_rfl) (by kernel_rfl) (by kernel_rfl)
      (OpenSpec.preRow_of_cond 8 hx (by kernel_rfl) (fun k hk => by cases hk) (by kernel_rfl) (laid_met os))) ?_
  intro W base args ds gs before hval hW _ _ _ hL _ _
  exact contract H enc W base args ds gs before hval hW hL
theorem said : Rows.ExchangeHearsAsSpecifiedSaid :=
  OpenClaim.holds_of_cond 4 Tryd.f4 rfl rfl rfl rfl rfl rfl rfl ⟨rfl, rfl, rfl, rfl, rfl⟩ rfl rfl rfl rfl rfl (by kernel_rfl) Tryd.func4 (by kernel_rfl)
    (of_decide_eq_true (by kernel_rfl)) (by unfold Func.isWrapper; first | (rw [if_pos (by decide +kernel)]; kernel_rfl) | (rw [if_neg (by decide +kernel)]; exact ⟨rfl, rfl⟩))
    (fun os started H enc _ F => by rw [OpenClaim.pre_eq_preRow]; exact lifted os started H enc F)
theorem plain (f : FuncId) (fn : Func) (hf : Tryd.pinned.checked.prog.funcNamed "antiquary/antiquarylaw44.ExchangeHearsAsSpecified" = some f) (hfn : Tryd.pinned.checked.prog.funcs[f]? = some fn) :
    false = Tryd.pinned.checked.prog.looks [] ∧ ∀ (j : Nat) t, fn.params[j]? = some t → Tryd.pinned.checked.prog.wantsStandIn t = false := by
  obtain rfl : f = 4 := Option.some.inj ((show Tryd.prog.funcNamed "antiquary/antiquarylaw44.ExchangeHearsAsSpecified" = some 4 by kernel_rfl).symm.trans hf) |>.symm
  obtain rfl : fn = Tryd.f4 := (Option.some.inj (Tryd.func4.symm.trans hfn)).symm
  refine ⟨by kernel_rfl, fun j t ht => ?_⟩
  rw [Tryd.params4] at ht
  have hm := Array.mem_of_getElem? ht
  have hall : Tryd.f4.params.toList.all (fun t => !Tryd.prog.wantsStandIn t) = true := by kernel_rfl
  rw [Tryd.params4] at hall
  have := List.all_eq_true.1 hall t (by simpa using hm)
  have h2 : Tryd.prog.wantsStandIn t = false := by simpa using this
  exact h2
theorem card_holds : Rows.ExchangeHearsAsSpecifiedCardSaid :=
  Claim7.holds_tied_plain_at .later [] _ _ _ _ said (fun _ h => by cases h) (by kernel_rfl) (fun _ h => by cases h) exchangeHearsAsSpecified_row_tie rfl ⟨rfl, rfl⟩ (by kernel_rfl) rfl plain (by kernel_rfl)
#print axioms card_holds
end Go.Proofs.YtieamjjnofelcaaDoor.exchangeHearsAsSpecified
