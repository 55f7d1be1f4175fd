/-
  The laws' put, Restart; what a link does with three messages. Conditions: none.
-/
import Derived.Test.YtecklplohgfohaaFc
import Derived.Test.YtecklplohgfohaaRc
import Derived.Test.YtecklplohgfohaaAk
import Derived.Test.YtecklplohgfohaaPo
import Derived.Test.YtecklplohgfohaaSe
namespace Go.Proofs.Ytecklplohgfohaa
set_option linter.unusedSimpArgs false
set_option linter.unusedVariables false
open Go.RowKit Link
theorem btT : BytesTy Try.prog 87 5 := ⟨by kernel_rfl, by kernel_rfl⟩
theorem stT : Try.prog.underlying 9 = some .string := by kernel_rfl
theorem build1_u (u : UInt8) (W : World) : (Instr.buildSlice 87 1 #[(0, .int .u8 (u.toNat : Nat))]).run Try.prog W = .ok (.slice (some ⟨W.heap.size, 0, none⟩) 1 1) (W.alloc (.cells #[.int .u8 (u.toNat : Nat)] 5)) := by kernel_rfl
theorem wpList_lit1u {w : World} {ops : Array Oper} {rest : List Oper} {o : Oper} {a : Act} {Q : Exit → Act → World → Prop} (u : UInt8) (hgd : o.guard = none) {x : Operand} (ho : o.op = .buildSlice 87 1 #[(0, x)]) (hx : a.eval x = .int .u8 (u.toNat : Nat))
    (h : ∀ w' g, Rd w' (some ⟨g, 0, none⟩) 1 (bv [u]) → Below w.heap.size w w' → wpList Try.prog ops Q rest (a.put o.dst (.slice (some ⟨g, 0, none⟩) 1 1)) w') : wpList Try.prog ops Q (o :: rest) a w := by
  refine wpList_plain hgd fun K hK => ?_
  have h2 := h _ _ (Rd.new1 w _ 5) ((Below.refl _ _).alloc (Nat.le_refl _) _)
  unfold Oper.wp execOp
  simp only [ho, List.map_toArray, List.map_cons, List.map_nil, hx, build1_u, Sem.run_bind, Result.andThen_ok, Sem.run_pure]
  exact hK _ _ h2
theorem Rd.turned {W W' : World} {A : Option Addr} {n g : Nat} {xs : List Value} (h : Rd W A n xs) (ht : Turned g W W') (hn : ∀ ad, A = some ad → ad.block ≠ g) : Rd W' A n xs :=
  ⟨h.len, fun k u hk => by
    obtain ⟨ad, e, hc⟩ := h.at_ k u hk
    exact ⟨ad, e, (World.cell?_of_block (ht.far _ (by rw [block_of_add]; exact hn ad e))).trans hc⟩⟩
theorem RdO.turned {W W' : World} {o : Ob} {A : Option Addr} {n c g : Nat} (h : RdO W o A n c) (ht : Turned g W W') (hn : ∀ ad, A = some ad → ad.block ≠ g) : RdO W' o A n c := ⟨h.nc, h.cm, h.len, h.rd.turned ht hn⟩
theorem RdI.turned {W W' : World} {i : Ib} {A : Option Addr} {n c g : Nat} (h : RdI W i A n c) (ht : Turned g W W') (hn : ∀ ad, A = some ad → ad.block ≠ g) : RdI W' i A n c := ⟨h.nc, h.cm, h.rd.len, h.rd.rd.turned ht hn⟩
def pB (k : Nat) : ByteArray := ⟨#[UInt8.ofNat (97 + k)]⟩
def pQ (k : Nat) : Ob := ⟨0, 0, ⟨#[]⟩, (List.range k).map pB⟩
theorem pQ_wf (k : Nat) (h : k ≤ 3) : WfO (pQ k) := ⟨rfl, rfl, by simp [pQ, maxLen, ByteArray.size], fun s hs => by
  simp only [pQ, List.mem_map] at hs
  obtain ⟨j, _, rfl⟩ := hs
  simp [pB, maxLen, ByteArray.size]⟩
theorem put_step (k : Nat) (h : k < 3) : putO (pQ k) (pB k) = (pQ (k + 1), 0) := by
  rcases k with _ | _ | _ | k
  · rfl
  · rfl
  · rfl
  · omega
set_option maxRecDepth 20000 in
set_option maxHeartbeats 4000000 in
theorem lawPut_any (w : World) : Calls Try.prog 30 #[] w fun e w' => ∃ A c, e = .returned (.tuple #[obV (pQ 3) A 3 c, .bool true]) ∧ RdO w' (pQ 3) A 3 c ∧ Below w.heap.size w w' := by
  go_enter Try.func30, Try.ntmps30
  go_upto_region 1 with ((with_reducible show wpList _ _ _ _ _ _); refine wpList_new (cs := obC oz none 0 0) rfl rfl (fun w => by kernel_rfl) ?_; intro w0 g0 hg0 q0 hb0 lt0; have HG0 := Lib.hid hg0; clear hg0)
  go_upto_region 2 with ((with_reducible show wpList _ _ _ _ _ _); refine wpList_new (cs := obC oz none 0 0) rfl rfl (fun w => by kernel_rfl) ?_; intro w1 g2 hg2 q2 hb1 lt2; have HG2 := Lib.hid hg2; clear hg2)
  have hg0 := HG0.out
  have hg2 := HG2.out
  replace q0 := q0.below hb1
  replace hb0 := bstep hb0 hb1
  have hne : g0 ≠ g2 := by omega
  have hl0 : w.heap.size ≤ g0 := by omega
  have hl2 : w.heap.size ≤ g2 := by omega
  clear hg0 hg2 lt0 hb1
  go_wp2_with fail
  go_loopw [3, 4, 5] (fun vi _ _ wr => ∃ (k : Nat) (A : Option Addr) (c : Nat), k ≤ 3 ∧ vi = .int .i64 k ∧ Blk wr g0 24 (obC oz none 0 0) ∧ Blk wr g2 24 (obC (pQ k) A k c) ∧ RdO wr (pQ k) A k c ∧ Below w.heap.size w wr ∧ Hid (∀ ad, A = some ad → ad.block ≠ g0) ∧ Hid (∀ ad, A = some ad → ad.block ≠ g2)) (fun vi _ _ _ => 3 - (intOf vi).toNat)
  case atStart => exact ⟨0, none, 0, by omega, rfl, q0, q2, ⟨Nat.le_refl _, by simp [maxLen], rfl, Rd.none_ _⟩, hb0, Lib.hid (fun ad e => (by cases e)), Lib.hid (fun ad e => (by cases e))⟩
  case round =>
    clear q0 q2 hb0
    obtain ⟨k, A, c, hk, rfl, q0, q2, hr, hb, N0, N2⟩ := hrel
    by_cases hlt : k < 3
    · have HP := Lib.hid (fun W (h : RdO W (pQ k) A k c) => put_any (pQ k) A k c (pB k) W h (pQ_wf k hk) (by simp [pB, maxLen, ByteArray.size]))
      rw [put_step k hlt] at HP
      obtain ⟨u, hu⟩ : ∃ u : UInt8, UInt8.ofNat (97 + k) = u := ⟨_, rfl⟩
      have HKI : Hid ((((u.toNat : Nat)) : Int) = 97 + (k : Int)) := Lib.hid (by rw [← hu, UInt8.toNat_ofNat']; omega)
      have hpb : pB k = ⟨#[u]⟩ := by unfold pB; rw [hu]
      rw [hpb] at HP
      clear hu hpb
      go_upto_region 6 with (first
        | ((with_reducible show wpList _ _ _ _ _ _); refine wpList_loadOb rfl rfl rfl q2 ?_)
        | ((with_reducible show wpList _ _ _ _ _ _); refine wpList_lit1u u rfl rfl (by show Value.int .u8 (97 + (k : Int)) = _; rw [HKI.out]) ?_; intro w3 g3 hr3 hb3)
        | ((with_reducible show wpList _ _ _ _ _ _); refine wpList_bts rfl rfl btT stT rfl hr3 ?_))
      refine (HP.out _ (hr.below hb3)).mono ?_
      rintro e w4 ⟨A4, n4, c4, rfl, hr4, hb4, hka⟩
      have M0 := Lib.hid (hka g0 (.inl (q0.below hb3).lt) N0.out)
      have M2 := Lib.hid (hka g2 (.inl (q2.below hb3).lt) N2.out)
      clear hka
      have hb34 := bstep hb3 hb4
      obtain rfl : n4 = k + 1 := by rw [← hr4.len]; simp [pQ]
      go_upto_region 6 with (first
        | ((with_reducible show wpList _ _ _ _ _ _); refine wpList_new (cs := obC oz none 0 0) rfl rfl (fun w => by kernel_rfl) ?_; intro w5 g5 hg5 q5 hb5 lt5; have HG5 := Lib.hid hg5; clear hg5)
        | ((with_reducible show wpList _ _ _ _ _ _); refine wpList_putOb (k := pQ (k + 1)) rfl rfl rfl rfl q5 ?_; intro w6 ht6 q6))
      have hg5 := HG5.out
      have hz := hb34.size
      have hq2 := q2.lt
      have hb46 : Below w4.heap.size w4 w6 := hb5.trans (ht6.below _ (by omega))
      have hb36 := bstep hb34 hb46
      replace q0 := q0.below hb36
      replace q2 := q2.below hb36
      replace hr4 := hr4.below hb46
      replace hb := bstep hb hb36
      have hne5 : g5 ≠ g2 := by omega
      clear hb5 hb3 hb4 hb34 hb46 hb36 hg5 hz HG5 ht6 q5 hr3
      go_wp2_with (first
        | ((with_reducible show wpList _ _ _ _ _ _); refine wpList_loadOb rfl rfl rfl q6 ?_)
        | ((with_reducible show wpList _ _ _ _ _ _); refine wpList_putOb (k := pQ (k + 1)) rfl rfl rfl rfl q2 ?_; intro w7 ht7 q7))
      refine ⟨⟨k + 1, A4, c4, by omega, by go_num, ht7.blk q0 hne, q7, hr4.turned ht7 M2.out, hb.trans (ht7.below _ hl2), M0, M2⟩, by simp [intOf]; omega⟩
    · obtain rfl : k = 3 := by omega
      go_wp2_with (first
        | ((with_reducible show wpList _ _ _ _ _ _); refine wpList_loadOb rfl rfl rfl q2 ?_)
        | ((with_reducible show wpList _ _ _ _ _ _); refine wpList_putOb (k := pQ 3) rfl rfl rfl rfl q0 ?_; intro w7 ht7 q7))
      exact ret_blk2 rfl rfl rfl q7 aggOb sizeOb ⟨A, c, rfl, hr.turned ht7 N0.out, hb.trans (ht7.below _ hl0)⟩
end Go.Proofs.Ytecklplohgfohaa
