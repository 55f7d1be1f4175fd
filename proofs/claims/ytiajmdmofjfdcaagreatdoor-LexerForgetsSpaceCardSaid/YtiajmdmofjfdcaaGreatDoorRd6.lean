/-
  The reference's Place, written, Possible, Value. Conditions: none.
-/
import Derived.Test.YtiajmdmofjfdcaaGreatDoorRd5
import Derived.Lib.LastIndexByte
namespace Go.Proofs.YtiajmdmofjfdcaaGreatDoor
set_option linter.unusedSimpArgs false
set_option linter.unusedVariables false
open Go.RowKit Lexr
theorem data_at (s : ByteArray) (k : Nat) (h : k < s.size) : s.data[k]! = s[k]'h := by
  rw [getElem!_pos s.data k h]; rfl
theorem lastIdx_ext (s : ByteArray) (c : Int) (K : Nat) (hK : K ≤ s.size) : ∀ k, k ≤ K → Lib.lastIdx (s.extract 0 K) c k = Lib.lastIdx s c k
  | 0, _ => rfl
  | k + 1, h => by
    have hz : (s.extract 0 K).size = K := by rw [ByteArray.size_extract]; omega
    unfold Lib.lastIdx
    rw [lastIdx_ext s c K hK k (by omega), data_at _ k (by omega), data_at s k (by omega)]
    have : (s.extract 0 K)[k]'(by omega) = s[k]'(by omega) := by
      rw [ByteArray.getElem_extract]
      congr 1; omega
    rw [this]
/-- The line and the column behind k bytes. -/
def spotP (s : ByteArray) (k : Nat) : Int × Int := (1 + (Lib.countByte (s.data.toList.take k) 10 : Int), (k : Int) - Lib.lastIdx s 10 k)
theorem place_spot (s : ByteArray) (K : Nat) (hK : K ≤ s.size) : placeP s K = spotP s K := by
  have hz : (s.extract 0 K).size = K := by rw [ByteArray.size_extract]; omega
  unfold placeP spotP Lib.lastIndexByte
  rw [hz, lastIdx_ext s 10 K hK K (Nat.le_refl _)]
theorem spot0 (s : ByteArray) : spotP s 0 = (1, 1) := rfl
theorem spotS (s : ByteArray) (k : Nat) (h : k < s.size) : spotP s (k + 1) = if ((s[k]'h).toNat : Int) = 10 then ((spotP s k).1 + 1, 1) else ((spotP s k).1, (spotP s k).2 + 1) := by
  have hl : k < s.data.toList.length := by rw [← Lib.size_eq]; exact h
  have hc : Lib.countByte (s.data.toList.take (k + 1)) 10 = Lib.countByte (s.data.toList.take k) 10 + (if (s[k]'h) = 10 then 1 else 0) := by
    rw [take_snoc _ _ hl, list_get s k h hl]
    unfold Lib.countByte
    rw [List.count_append, List.count_singleton]
    by_cases e : (s[k]'h) = 10
    · rw [if_pos e, e]; rfl
    · rw [if_neg e]
      congr 1
      rw [if_neg]
      simp [e]
  unfold spotP
  rw [hc]
  have hL : Lib.lastIdx s 10 (k + 1) = if ((s.data[k]!).toNat : Int) = 10 then (k : Int) else Lib.lastIdx s 10 k := rfl
  rw [hL, data_at s k h]
  by_cases e : ((s[k]'h).toNat : Int) = 10
  · have e2 : (s[k]'h) = 10 := by apply UInt8.toNat_inj.1; show (s[k]'h).toNat = 10; omega
    rw [if_pos e, if_pos e, if_pos e2]
    simp only [Prod.mk.injEq]
    constructor <;> (push_cast; omega)
  · have e2 : ¬ (s[k]'h) = 10 := fun h2 => e (by rw [h2]; rfl)
    rw [if_neg e, if_neg e, if_neg e2]
    simp only [Prod.mk.injEq]
    constructor <;> (push_cast; omega)
theorem spot_bound (s : ByteArray) (k : Nat) : 1 ≤ (spotP s k).1 ∧ (spotP s k).1 ≤ k + 1 ∧ (spotP s k).2 ≤ k + 1 ∧ 0 ≤ (spotP s k).2 := by
  have h1 : Lib.countByte (s.data.toList.take k) 10 ≤ (s.data.toList.take k).length := List.count_le_length
  rw [List.length_take] at h1
  have h2 := Lib.lastIdx_spec s 10 k
  unfold spotP
  simp only
  rcases h2 with ⟨h2, _⟩ | ⟨i, hi, h2, _⟩
  · rw [h2]; omega
  · rw [h2]; omega
def spC (p : Int × Int) : Array Value := #[.int .i64 p.1, .int .i64 p.2]
theorem zeroSp (W : World) : (zeroValue 35).run Tryz.prog W = .ok (.agg (spC (0, 0))) W := by kernel_rfl
theorem aggSp : (Tryz.prog.underlying 35).map isAggDesc = some true := by kernel_rfl
theorem sizeSp : (Tryz.prog.info? 35).map (·.size) = some 2 := by kernel_rfl
theorem buildSp (x y : Int) (W : World) : (Instr.build 35 #[(0, .int .i64 x), (1, .int .i64 y)]).run Tryz.prog W = .ok (.agg (spC (x, y))) W := by kernel_rfl
theorem buildSp0 (W : World) : (Instr.build 35 #[]).run Tryz.prog W = .ok (.agg (spC (0, 0))) W := by kernel_rfl
theorem one_spC (p : Int × Int) : (spC p).all (·.oneCell') = true := by simp [spC, Value.oneCell']
theorem wpList_bld0 {P : Program} {w : World} {ops : Array Oper} {rest : List Oper} {o : Oper} {a : Act} {Q : Exit → Act → World → Prop} (hgd : o.guard = none) {T : TypeId} {v : Value} (ho : o.op = .build T #[])
    (hr : ∀ W, (Instr.build T #[]).run P W = .ok v W) (h : wpList P ops Q rest (a.put o.dst v) w) : wpList P ops Q (o :: rest) a w := by
  refine wpList_plain hgd fun K hK => ?_
  unfold Oper.wp execOp
  simp only [ho, List.map_toArray, List.map_nil, Sem.run_bind, hr, Result.andThen_ok, Sem.run_pure]
  exact hK _ _ h
theorem refPlace_bad (s : ByteArray) (x : Int) (w : World) (h : x < 0 ∨ (s.size : Int) < x) :
    Calls Tryz.prog 13 #[.string s, .int .i64 x] w fun e w' => e = .returned (.agg (spC (0, 0))) ∧ Below w.heap.size w w' := by
  by_cases h0 : x < 0
  · have d0 : decide (x < 0) = true := decide_eq_true h0
    clear h h0
    go_enter Tryz.func13, Tryz.ntmps13
    go_wp2_with (first
      | ((with_reducible show wpList _ _ _ ({ dst := some 4, op := _, type := _, pos := _, after := _, guard := _ } :: _) _ _); refine wpList_new (cs := spC (0, 0)) rfl rfl zeroSp ?_; intro w1 g1 hg1 b1 hb1 lt1; have HG1 := Lib.hid hg1; clear hg1 lt1)
      | ((with_reducible show wpList _ _ _ ({ dst := some 15, op := _, type := _, pos := _, after := _, guard := _ } :: _) _ _); refine wpList_bld0 rfl rfl buildSp0 ?_)
      | ((with_reducible show wpList _ _ _ ({ dst := none, op := _, type := _, pos := _, after := _, guard := _ } :: _) _ _); refine wpList_put (vs := spC (0, 0)) rfl rfl rfl rfl b1 rfl (by rw [sizeSp]; rfl) (one_spC _) ?_; intro w2 ht2 b2))
    exact ret_blk rfl rfl rfl b2 aggSp (by rw [sizeSp]; rfl) ⟨rfl, hb1.trans (ht2.below _ (by have := HG1.out; omega))⟩
  · have d0 : decide (x < 0) = false := decide_eq_false h0
    have d1 : decide ((s.size : Int) < x) = true := by rw [decide_eq_true_eq]; omega
    clear h h0
    go_enter Tryz.func13, Tryz.ntmps13
    go_wp2_with (first
      | ((with_reducible show wpList _ _ _ ({ dst := some 4, op := _, type := _, pos := _, after := _, guard := _ } :: _) _ _); refine wpList_new (cs := spC (0, 0)) rfl rfl zeroSp ?_; intro w1 g1 hg1 b1 hb1 lt1; have HG1 := Lib.hid hg1; clear hg1 lt1)
      | ((with_reducible show wpList _ _ _ ({ dst := some 15, op := _, type := _, pos := _, after := _, guard := _ } :: _) _ _); refine wpList_bld0 rfl rfl buildSp0 ?_)
      | ((with_reducible show wpList _ _ _ ({ dst := none, op := _, type := _, pos := _, after := _, guard := _ } :: _) _ _); refine wpList_put (vs := spC (0, 0)) rfl rfl rfl rfl b1 rfl (by rw [sizeSp]; rfl) (one_spC _) ?_; intro w2 ht2 b2))
    exact ret_blk rfl rfl rfl b2 aggSp (by rw [sizeSp]; rfl) ⟨rfl, hb1.trans (ht2.below _ (by have := HG1.out; omega))⟩
set_option maxRecDepth 20000 in
set_option maxHeartbeats 8000000 in
theorem refPlace_any (s : ByteArray) (K : Nat) (w : World) (h : K ≤ s.size) (hs : s.size ≤ 1099511627776) :
    Calls Tryz.prog 13 #[.string s, .int .i64 K] w fun e w' => e = .returned (.agg (spC (placeP s K))) ∧ Below w.heap.size w w' := by
  rw [place_spot s K h]
  have HS := Lib.hid (fun k h => spotS s k h)
  have HBD := Lib.hid (fun k => spot_bound s k)
  obtain ⟨F, hF⟩ : ∃ F : Nat → Int × Int, spotP s = F := ⟨_, rfl⟩
  have HF0 : Hid (F 0 = (1, 1)) := Lib.hid (by rw [← hF]; rfl)
  rw [hF] at HS HBD ⊢
  clear hF
  have d0 : decide ((K : Int) < 0) = false := by rw [decide_eq_false_iff_not]; omega
  have d1 : decide ((s.size : Int) < (K : Int)) = false := by rw [decide_eq_false_iff_not]; omega
  have d1n : decide (s.size < K) = false := by rw [decide_eq_false_iff_not]; omega
  have HK := Lib.hid h
  clear h
  go_enter Tryz.func13, Tryz.ntmps13
  go_upto_region 4 with (first
    | ((with_reducible show wpList _ _ _ ({ dst := some 4, op := _, type := _, pos := _, after := _, guard := _ } :: _) _ _); refine wpList_new (cs := spC (0, 0)) rfl rfl zeroSp ?_; intro w1 g1 hg1 b1 hb1 lt1; have HG1 := Lib.hid hg1; have HL1 := Lib.hid lt1; clear hg1 lt1)
    | ((with_reducible show wpList _ _ _ ({ dst := some 16, op := _, type := _, pos := _, after := _, guard := _ } :: _) _ _); refine wpList_bld2 rfl rfl rfl rfl (buildSp 1 1) ?_)
    | ((with_reducible show wpList _ _ _ ({ dst := some 5, op := _, type := _, pos := _, after := _, guard := _ } :: _) _ _); refine wpList_new (cs := spC (0, 0)) rfl rfl zeroSp ?_; intro w2 g2 hg2 b2 hb2 lt2; have HG2 : Hid (g1 < g2) := Lib.hid (by have := HL1.out; omega); have B1 := b1.below hb2; clear hg2 lt2)
    | ((with_reducible show wpList _ _ _ ({ dst := none, op := _, type := _, pos := _, after := _, guard := _ } :: _) _ _); refine wpList_put (vs := spC (1, 1)) rfl rfl rfl rfl b2 rfl (by rw [sizeSp]; rfl) (one_spC _) ?_; intro w3 ht3 b3; have B2 := ht3.blk B1 (Nat.ne_of_lt HG2.out)))
  have HGG : Hid (w.heap.size ≤ g1 ∧ w.heap.size ≤ g2 ∧ g1 ≠ g2) := Lib.hid (by have := HG1.out; have := HG2.out; omega)
  have HW3 : Hid (Below w.heap.size w w3) := Lib.hid ((bstep hb1 hb2).trans (ht3.below _ HGG.out.2.1))
  have HB3 : Hid (Blk w3 g2 35 (spC (F 0))) := Lib.hid (by rw [HF0.out]; exact b3)
  have HB1 := Lib.hid B2
  clear b1 b2 b3 hb1 hb2 ht3 B1 B2 HG1 HG2 HL1
  go_wp2_with fail
  go_loopw [6] (fun v6 wr => ∃ k : Nat, k ≤ K ∧ v6 = .int .i64 k ∧ Hid (Blk wr g2 35 (spC (F k))) ∧ Hid (Blk wr g1 35 (spC (0, 0))) ∧ Hid (Below w.heap.size w wr)) (fun v6 _ => K - (intOf v6).toNat)
  case atStart => exact ⟨0, Nat.zero_le _, rfl, HB3, HB1, HW3⟩
  case round =>
    clear HB3 HB1 HW3
    obtain ⟨k, hk, rfl, HB2, HB1, HW⟩ := hrel
    by_cases hlt : k < K
    · have hks : k < s.size := by have := HK.out; omega
      have hst := HS.out k hks
      have hbd := HBD.out k
      obtain ⟨⟨ln, cl⟩, hp⟩ : ∃ p, F k = p := ⟨_, rfl⟩
      rw [hp] at hst hbd HB2
      dsimp only at hst hbd
      obtain ⟨x, hx⟩ : ∃ x : Int, ((s[k]'hks).toNat : Int) = x := ⟨_, rfl⟩
      rw [hx] at hst
      have b2 := HB2.out
      have c2 : wr.cell? ⟨g2, 1, none⟩ = some (.int .i64 cl) := by rw [b2.cell 1]; rfl
      have hks2 : k ≤ 1099511627776 := by omega
      have hl1 := hbd.1
      have hl2 := hbd.2.1
      have hc1 := hbd.2.2.1
      have hc2 := hbd.2.2.2
      clear hbd hp HB2
      by_cases h10 : x = 10
      · subst h10
        rw [if_pos rfl] at hst
        have HST := Lib.hid hst
        clear hst
        go_upto_region 8 with (first
          | ((with_reducible show wpList _ _ _ ({ dst := some 23, op := _, type := _, pos := _, after := _, guard := _ } :: _) _ _); refine wpList_loadV (by rfl) rfl rfl (by kernel_rfl) c2 ?_)
          | ((with_reducible show wpList _ _ _ ({ dst := none, op := _, type := _, pos := _, after := _, guard := _ } :: _) _ _); refine wpList_set (g := g2) (j := 1) (v := .int .i64 (cl + 1)) (cs' := spC (ln, cl + 1)) rfl rfl (by kernel_rfl) rfl rfl rfl b2 (by simp [spC]) rfl ?_; intro w5 ht5 b5))
        have c1 : w5.cell? ⟨g2, 0, none⟩ = some (.int .i64 ln) := by rw [b5.cell 0]; rfl
        go_wp2_with (first
          | ((with_reducible show wpList _ _ _ ({ dst := some 31, op := _, type := _, pos := _, after := _, guard := _ } :: _) _ _); refine wpList_loadV (by rfl) rfl rfl (by kernel_rfl) c1 ?_)
          | ((with_reducible show wpList _ _ _ ({ dst := some 33, op := _, type := _, pos := _, after := _, guard := _ } :: _) _ _); refine wpList_bld2 rfl rfl rfl rfl (buildSp (ln + 1) 1) ?_)
          | ((with_reducible show wpList _ _ _ ({ dst := none, op := _, type := _, pos := _, after := _, guard := _ } :: _) _ _); refine wpList_put (vs := spC (ln + 1, 1)) rfl rfl rfl rfl b5 rfl (by rw [sizeSp]; rfl) (one_spC _) ?_; intro w6 ht6 b6))
        exact ⟨⟨k + 1, by omega, by go_num, Lib.hid (by rw [HST.out]; exact b6), Lib.hid (ht6.blk (ht5.blk HB1.out HGG.out.2.2) HGG.out.2.2), Lib.hid ((HW.out.trans (ht5.below _ HGG.out.2.1)).trans (ht6.below _ HGG.out.2.1))⟩, by simp [intOf]; omega⟩
      · rw [if_neg h10] at hst
        have HST := Lib.hid hst
        have dx : (x == 10) = false := by simpa using h10
        clear hst h10
        go_upto_region 8 with (first
          | ((with_reducible show wpList _ _ _ ({ dst := some 23, op := _, type := _, pos := _, after := _, guard := _ } :: _) _ _); refine wpList_loadV (by rfl) rfl rfl (by kernel_rfl) c2 ?_)
          | ((with_reducible show wpList _ _ _ ({ dst := none, op := _, type := _, pos := _, after := _, guard := _ } :: _) _ _); refine wpList_set (g := g2) (j := 1) (v := .int .i64 (cl + 1)) (cs' := spC (ln, cl + 1)) rfl rfl (by kernel_rfl) rfl rfl rfl b2 (by simp [spC]) rfl ?_; intro w5 ht5 b5))
        go_wp2_with fail
        exact ⟨⟨k + 1, by omega, by go_num, Lib.hid (by rw [HST.out]; exact b5), Lib.hid (ht5.blk HB1.out HGG.out.2.2), Lib.hid (HW.out.trans (ht5.below _ HGG.out.2.1))⟩, by simp [intOf]; omega⟩
    · obtain rfl : k = K := by omega
      obtain ⟨p, hp⟩ : ∃ p, F k = p := ⟨_, rfl⟩
      rw [hp] at HB2
      have HP := Lib.hid hp
      clear hp
      have b2 := HB2.out
      have b1 := HB1.out
      have r2 := blk_rowL (xs := [.int .i64 p.1, .int .i64 p.2]) b2
      clear HB2 HB1 b2
      go_wp2_with (first
        | ((with_reducible show wpList _ _ _ ({ dst := some 34, op := _, type := _, pos := _, after := _, guard := _ } :: _) _ _); refine wpList_loadK (us := [.int .i64 p.1, .int .i64 p.2]) rfl rfl rfl aggSp (by rw [sizeSp]; rfl) r2 ?_)
        | ((with_reducible show wpList _ _ _ ({ dst := none, op := _, type := _, pos := _, after := _, guard := _ } :: _) _ _); refine wpList_put (vs := spC p) rfl rfl rfl rfl b1 rfl (by rw [sizeSp]; rfl) (one_spC _) ?_; intro w6 ht6 b6))
      exact ret_blk rfl rfl rfl b6 aggSp (by rw [sizeSp]; rfl) ⟨by rw [HP.out], HW.out.trans (ht6.below _ HGG.out.1)⟩
set_option maxRecDepth 20000 in
set_option maxHeartbeats 8000000 in
theorem written_any (t : Tok) (w : World) (hs : t.s.length ≤ 268435456) :
    Calls Tryz.prog 40 #[tokV t] w fun e w' => e = .returned (.string ⟨(writeL t.kind t.s).toArray⟩) ∧ Below w.heap.size w w' := by
  obtain ⟨kd, x, l⟩ := t
  dsimp only at hs ⊢
  show Calls _ _ #[lexV kd x l] _ _
  by_cases hk : kd = 4
  · subst hk
    have hw : writeL 4 l = 34 :: (escL l ++ [34]) := by unfold writeL; rw [if_pos rfl]
    rw [hw]
    have hz : (escL l).length ≤ 536870912 := by have := escL_bound l; omega
    have HTK := Lib.hid (fun k hk => escL_take l k hk)
    have HLE := Lib.hid (fun k => escL_le l k)
    have HFULL : Hid (escL (l.take l.length) = escL l) := Lib.hid (by rw [List.take_length])
    obtain ⟨E, hE⟩ : ∃ E, escL l = E := ⟨_, rfl⟩
    rw [hE] at hz HLE HFULL ⊢
    have ha1 := run_addL [34] E (by simp) (by omega)
    have ha2 := run_addL (34 :: E) [34] (by simp; omega) (by simp)
    have HA1 : Hid (∀ W, (binOp .add 9 (.string ⟨#[34]⟩) (.string ⟨E.toArray⟩)).run Tryz.prog W = .ok (.string ⟨(34 :: E).toArray⟩) W) := Lib.hid ha1
    have HA2 : Hid (∀ W, (binOp .add 9 (.string ⟨(34 :: E).toArray⟩) (.string ⟨#[34]⟩)).run Tryz.prog W = .ok (.string ⟨(34 :: (E ++ [34])).toArray⟩) W) := Lib.hid ha2
    have HZ := Lib.hid hz
    obtain ⟨N, hN⟩ : ∃ N, l.length = N := ⟨_, rfl⟩
    have hsz : (⟨l.toArray⟩ : ByteArray).size = N := by rw [bts_size, hN]
    have hsa : l.toArray.size = N := by rw [List.size_toArray, hN]
    have HGT : Hid (∀ k (h : k < (⟨l.toArray⟩ : ByteArray).size) (h2 : k < l.length), (⟨l.toArray⟩ : ByteArray)[k]'h = l[k]'h2) := Lib.hid (fun k h h2 => by
      have := list_get ⟨l.toArray⟩ k h (by rw [bts_list]; exact h2)
      rw [← this])
    have HN := Lib.hid hN
    rw [hN] at HFULL hs
    have hN9 : N ≤ 268435456 := hs
    clear ha1 ha2 hw hE hz hN hs
    go_enter Tryz.func40, Tryz.ntmps40
    go_upto_region 1 with ((with_reducible show wpList _ _ _ ({ dst := some 1, op := _, type := _, pos := _, after := _, guard := _ } :: _) _ _); refine wpList_boxLx (v := lexV 4 x l) rfl rfl rfl ?_; intro w1 g1 hg1 b1 hb1 lt1; clear hg1 lt1)
    have c0 : w1.cell? ⟨g1, 0, none⟩ = some (.int .i64 4) := by rw [b1.cell 0]; rfl
    have HB1 : Hid (Blk w1 g1 44 (lexC 4 x l)) := Lib.hid b1
    have HW1 := Lib.hid hb1
    have HX1 : Hid (Below w1.heap.size w1 w1) := Lib.hid (Below.refl _ _)
    clear b1 hb1
    go_wp2_with ((with_reducible show wpList _ _ _ ({ dst := some 6, op := _, type := _, pos := _, after := _, guard := _ } :: _) _ _); refine wpList_loadV (by rfl) rfl rfl (by kernel_rfl) c0 ?_)
    go_loopw [3, 4] (fun v3 v4 wr => ∃ k : Nat, k ≤ N ∧ v4 = .int .i64 k ∧ Own wr w1.heap.size 5 v3 (bv (escL (l.take k))) ∧ Hid (Below w1.heap.size w1 wr)) (fun _ v4 _ => N - (intOf v4).toNat)
    case atStart => exact ⟨0, Nat.zero_le _, rfl, Own.nil _ _ _, HX1⟩
    case round =>
      clear HX1 c0
      obtain ⟨k, hk, rfl, hown, HW⟩ := hrel
      obtain ⟨A, n, c, rfl, HNX, hnc, hcm, hrd⟩ := hown.formN
      have HOW := Lib.hid hown
      have HRD := Lib.hid hrd
      have c2 : wr.cell? ⟨g1, 2, none⟩ = some (.string ⟨l.toArray⟩) := by rw [(HB1.out.below HW.out).cell 2]; rfl
      clear hown hrd hnc hcm HNX
      by_cases hlt : k < N
      · have hkl : k < l.length := by rw [HN.out]; exact hlt
        have hkz : k < (⟨l.toArray⟩ : ByteArray).size := by rw [hsz]; exact hlt
        have hget := HGT.out k hkz hkl
        have HT := Lib.hid (HTK.out k hkl)
        have hle := HLE.out k
        have HLL : Hid ((escL (l.take k)).length ≤ 536870912) := Lib.hid (by have := HZ.out; omega)
        obtain ⟨b, hb⟩ : ∃ b, l[k]'hkl = b := ⟨_, rfl⟩
        rw [hb] at hget HT
        obtain ⟨D, hD⟩ : ∃ D, escL (l.take k) = D := ⟨_, rfl⟩
        rw [hD] at HT HOW HRD HLL
        obtain ⟨y, hy⟩ : ∃ y : Int, (b.toNat : Int) = y := ⟨_, rfl⟩
        have hnat : (((⟨l.toArray⟩ : ByteArray)[k]'hkz).toNat : Int) = y := by rw [hget, hy]
        have HYU : Hid ((.int .u8 y : Value) = .int .u8 (b.toNat : Nat)) := Lib.hid (by rw [hy])
        cases hE : isE b with
        | true =>
          have HT2 : Hid (escL (l.take (k + 1)) = D ++ [92, b]) := Lib.hid (by rw [HT.out, hE]; rfl)
          have hyc : y = 34 ∨ y = 92 := by
            unfold isE at hE
            simp only [Bool.or_eq_true, decide_eq_true_eq] at hE
            omega
          clear hE hb hD hget hle HT hy hkl
          rcases hyc with rfl | rfl <;>
          · go_upto_region 9 with (first
              | ((with_reducible show wpList _ _ _ ({ dst := some 18, op := _, type := _, pos := _, after := _, guard := _ } :: _) _ _); refine wpList_loadV (by rfl) rfl rfl (by kernel_rfl) c2 ?_)
              | ((with_reducible show wpList _ _ _ ({ dst := some 24, op := _, type := _, pos := _, after := _, guard := _ } :: _) _ _); refine wpList_loadV (by rfl) rfl rfl (by kernel_rfl) c2 ?_)
              | ((with_reducible show wpList _ _ _ ({ dst := some 30, op := _, type := _, pos := _, after := _, guard := _ } :: _) _ _); refine wpList_lit1By 92 rfl rfl rfl ?_; intro w5 g5 hr5 hb5)
              | ((with_reducible show wpList _ _ _ ({ dst := some 31, op := _, type := _, pos := _, after := _, guard := _ } :: _) _ _); refine wpList_app (v := .slice A n c) rfl rfl elemBytes rfl (Own.below HOW.out hb5) rfl hr5 (oneCell_bv _) (by rw [length_bv]; have := HLL.out; omega) (by have := HW.out.size; have := hb5.size; omega) ?_; intro v7 w7 o7 _ hb7 _))
            have HW7 : Hid (Below w1.heap.size w1 w7) := Lib.hid ((HW.out.trans (hb5.mono HW.out.size)).trans hb7)
            have HO7 := Lib.hid o7
            have c3 : w7.cell? ⟨g1, 2, none⟩ = some (.string ⟨l.toArray⟩) := by rw [(HB1.out.below HW7.out).cell 2]; rfl
            obtain ⟨A7, n7, c7, rfl, -, -, -, -⟩ := o7.formN
            clear o7 hb7 hb5 hr5 c2
            go_wp2_with (first
              | ((with_reducible show wpList _ _ _ ({ dst := some 34, op := _, type := _, pos := _, after := _, guard := _ } :: _) _ _); refine wpList_loadV (by rfl) rfl rfl (by kernel_rfl) c3 ?_)
              | ((with_reducible show wpList _ _ _ ({ dst := some 37, op := _, type := _, pos := _, after := _, guard := _ } :: _) _ _); refine wpList_lit1By b rfl rfl (by first | exact HYU.out | (simp only [Act.eval]; exact HYU.out)) ?_; intro w8 g8 hr8 hb8)
              | ((with_reducible show wpList _ _ _ ({ dst := some 38, op := _, type := _, pos := _, after := _, guard := _ } :: _) _ _); refine wpList_app (v := .slice A7 n7 c7) rfl rfl elemBytes rfl (Own.below HO7.out hb8) rfl hr8 (oneCell_bv _) (by rw [List.length_append, length_bv, length_bv]; have := HLL.out; simp; omega) (by have := HW7.out.size; have := hb8.size; omega) ?_; intro v9 w9 o9 _ hb9 _))
            exact ⟨⟨k + 1, by omega, by go_num, by rw [HT2.out, show D ++ [92, b] = (D ++ [92]) ++ [b] by simp, bv_append, bv_append]; exact o9, Lib.hid ((HW7.out.trans (hb8.mono HW7.out.size)).trans hb9)⟩, by simp [intOf]; omega⟩
        | false =>
          have HT2 : Hid (escL (l.take (k + 1)) = D ++ [b]) := Lib.hid (by rw [HT.out, hE]; rfl)
          have hne : b.toNat ≠ 34 ∧ b.toNat ≠ 92 := by
            unfold isE at hE
            simpa using hE
          have d1 : (y == 34) = false := by simp; omega
          have d2 : (y == 92) = false := by simp; omega
          clear hE hb hD hget hle HT hy hkl hne
          go_wp2_with (first
            | ((with_reducible show wpList _ _ _ ({ dst := some 18, op := _, type := _, pos := _, after := _, guard := _ } :: _) _ _); refine wpList_loadV (by rfl) rfl rfl (by kernel_rfl) c2 ?_)
            | ((with_reducible show wpList _ _ _ ({ dst := some 24, op := _, type := _, pos := _, after := _, guard := _ } :: _) _ _); refine wpList_loadV (by rfl) rfl rfl (by kernel_rfl) c2 ?_)
            | ((with_reducible show wpList _ _ _ ({ dst := some 34, op := _, type := _, pos := _, after := _, guard := _ } :: _) _ _); refine wpList_loadV (by rfl) rfl rfl (by kernel_rfl) c2 ?_)
            | ((with_reducible show wpList _ _ _ ({ dst := some 37, op := _, type := _, pos := _, after := _, guard := _ } :: _) _ _); refine wpList_lit1By b rfl rfl (by first | exact HYU.out | (simp only [Act.eval]; exact HYU.out)) ?_; intro w8 g8 hr8 hb8)
            | ((with_reducible show wpList _ _ _ ({ dst := some 38, op := _, type := _, pos := _, after := _, guard := _ } :: _) _ _); refine wpList_app (v := .slice A n c) rfl rfl elemBytes rfl (Own.below HOW.out hb8) rfl hr8 (oneCell_bv _) (by rw [length_bv]; have := HLL.out; omega) (by have := HW.out.size; have := hb8.size; omega) ?_; intro v9 w9 o9 _ hb9 _))
          exact ⟨⟨k + 1, by omega, by go_num, by rw [HT2.out, bv_append]; exact o9, Lib.hid ((HW.out.trans (hb8.mono HW.out.size)).trans hb9)⟩, by simp [intOf]; omega⟩
      · obtain rfl : k = N := by omega
        rw [HFULL.out] at HRD
        clear HOW HFULL HLE HTK
        go_wp2_with (first
          | ((with_reducible show wpList _ _ _ ({ dst := some 12, op := _, type := _, pos := _, after := _, guard := _ } :: _) _ _); refine wpList_loadV (by rfl) rfl rfl (by kernel_rfl) c2 ?_)
          | ((with_reducible show wpList _ _ _ ({ dst := some 40, op := _, type := _, pos := _, after := _, guard := _ } :: _) _ _); refine wpList_bts (l := E) rfl rfl bytesTy (by kernel_rfl) rfl HRD.out ?_)
          | ((with_reducible show wpList _ _ _ ({ dst := some 41, op := _, type := _, pos := _, after := _, guard := _ } :: _) _ _); refine wpList_opG HA1.out (by rfl) rfl rfl rfl (fun W => by kernel_rfl) ?_)
          | ((with_reducible show wpList _ _ _ ({ dst := some 42, op := _, type := _, pos := _, after := _, guard := _ } :: _) _ _); refine wpList_opG HA2.out (by rfl) rfl rfl rfl (fun W => by kernel_rfl) ?_))
        go_ret
        exact ⟨rfl, bstep HW1.out HW.out⟩
  · rw [show writeL kd l = l from if_neg hk]
    have dk : (kd != 4) = true := by simpa using hk
    clear hk
    go_enter Tryz.func40, Tryz.ntmps40
    go_upto_region 1 with ((with_reducible show wpList _ _ _ ({ dst := some 1, op := _, type := _, pos := _, after := _, guard := _ } :: _) _ _); refine wpList_boxLx (v := lexV kd x l) rfl rfl rfl ?_; intro w1 g1 hg1 b1 hb1 lt1; clear hg1 lt1)
    have c0 : w1.cell? ⟨g1, 0, none⟩ = some (.int .i64 kd) := by rw [b1.cell 0]; rfl
    have c2 : w1.cell? ⟨g1, 2, none⟩ = some (.string ⟨l.toArray⟩) := by rw [b1.cell 2]; rfl
    go_wp2_with (first
      | ((with_reducible show wpList _ _ _ ({ dst := some 6, op := _, type := _, pos := _, after := _, guard := _ } :: _) _ _); refine wpList_loadV (by rfl) rfl rfl (by kernel_rfl) c0 ?_)
      | ((with_reducible show wpList _ _ _ ({ dst := some 9, op := _, type := _, pos := _, after := _, guard := _ } :: _) _ _); refine wpList_loadV (by rfl) rfl rfl (by kernel_rfl) c2 ?_))
    go_ret
    exact ⟨rfl, hb1⟩
end Go.Proofs.YtiajmdmofjfdcaaGreatDoor
