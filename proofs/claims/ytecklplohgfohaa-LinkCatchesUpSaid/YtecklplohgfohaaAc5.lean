/-
  The laws' act: the receiver restarts. Conditions: none.
-/
import Derived.Test.YtecklplohgfohaaAc
namespace Go.Proofs.Ytecklplohgfohaa
set_option linter.unusedSimpArgs false
set_option linter.unusedVariables false
open Go.RowKit Link
theorem build_restartA (i : Ib) (W : World) : (Instr.build 47 #[(0, .int .i64 i.next)]).run Try.prog W = .ok (ibV ⟨i.next, []⟩ none 0 0) W := by kernel_rfl
set_option maxRecDepth 20000 in
theorem restart_anyA (i : Ib) (A : Option Addr) (n c : Nat) (w : World) :
    Calls Try.prog 25 #[ibV i A n c] w fun e w' => e = .returned (ibV ⟨i.next, []⟩ none 0 0) ∧ Below w.heap.size w w' := by
  obtain ⟨wa, hwa, hb0, q0, q1⟩ : ∃ wa : World, wa = (w.alloc (.cells (ibC i A n c) 47)).alloc (.cells (ibC iz none 0 0) 47) ∧ Below w.heap.size w wa ∧ Blk wa w.heap.size 47 (ibC i A n c) ∧ Blk wa (w.heap.size + 1) 47 (ibC iz none 0 0) :=
    ⟨_, rfl, ((Below.refl w.heap.size w).alloc (Nat.le_refl _) _).alloc (by simp) _, (Blk.new _ _ _).alloc _, Blk.new2 _ _ _ _⟩
  have HWA := Lib.hid hwa
  clear hwa
  obtain ⟨c0, c1⟩ := q0.ib
  have hbd := build_restartA i
  go_enter Try.func25, Try.ntmps25
  go_upto_region 1 with (fail)
  change Code.wp _ _ _ _ ((w.alloc (.cells (ibC i A n c) 47)).alloc (.cells (ibC iz none 0 0) 47))
  rw [← HWA.out]
  go_wp2_with ((with_reducible show wpList _ _ _ _ _ _); refine wpList_putIb (k := ⟨i.next, []⟩) rfl rfl rfl rfl q1 rfl ?_; intro w9 ht9 q9)
  exact ret_blk rfl rfl rfl q9 aggIb sizeIb ⟨rfl, hb0.trans (ht9.below _ (by omega))⟩
set_option maxRecDepth 20000 in
set_option maxHeartbeats 8000000 in
theorem act_k5 (w : Line) (q h s t d : Sl) (k x y : Nat) (W : World) (hL : LnAt W w q h s t d) (hU : LnUnder W.heap.size q h s t d) (hI : Link.Inv w k) (hk : k < 1000) (hls : s.n ≤ 100000) (hlt : t.n ≤ 100000) (hld : d.n ≤ 100000) (hx : x < 256) (hy : y < 256) (hr : x % 6 = 5) :
    Calls Try.prog 28 #[.agg (lnC w.o w.i q h s t d false), .agg #[.int .u8 (x : Nat), .int .u8 (y : Nat)]] W (ActIs w (actL w (x, y)) q h s t d W) := by
  have hI2 := act_inv (a := (x, y)) hI hk
  have hwO := inv_wfO hI (by omega)
  have hwI := inv_wfI hI (by omega)
  have hb0 := hI.o.b0
  have hfk := hI.o.fk
  have hqn := hL.o.len
  have hfin : w.o.fin = w.o.base + (q.n : Int) := by unfold Ob.fin; rw [hqn]
  rw [hfin] at hfk
  have hbad := hI.bad
  have HA : actL w (x, y) = ⟨w.o, ⟨w.i.next, []⟩, w.sent, w.told, w.dl, false⟩ := by
    have h2 := hI2.bad
    unfold actL at h2 ⊢
    rw [if_neg (show ¬ x % 6 = 0 by omega), if_neg (show ¬ x % 6 = 1 by omega), if_neg (show ¬ x % 6 = 2 by omega), if_neg (show ¬ x % 6 = 3 by omega), if_neg (show ¬ x % 6 = 4 by omega)] at h2 ⊢
    simp only at h2 ⊢
    rw [← h2]
  rw [HA]
  clear HA hI2
  have HP := Lib.hid (fun W => restart_anyA w.i h.A h.n h.c W)
  clear hwO hwI hI
  have dt0 : (((x : Nat) : Int) % 6 == 0) = false := by simp; omega
  have dt1 : (((x : Nat) : Int) % 6 == 1) = false := by simp; omega
  have dt2 : (((x : Nat) : Int) % 6 == 2) = false := by simp; omega
  have dt3 : (((x : Nat) : Int) % 6 == 3) = false := by simp; omega
  have dt4 : (((x : Nat) : Int) % 6 == 4) = false := by simp; omega
  have dt5 : (((x : Nat) : Int) % 6 == 5) = true := by simp; omega
  obtain ⟨wa, hwa, hbx, q0, q1, q2⟩ := acBox W w q h s t d x y
  have HWA := Lib.hid hwa
  clear hwa
  have HL := Lib.hid hL
  have HU := Lib.hid hU
  clear hL hU
  have C := q0.ln
  obtain ⟨c0, c3, c4, c6, c7, c8, c9⟩ := C
  have k0 := q1.cell 0
  have k1 := q1.cell 1
  simp only [List.getElem?_toArray, List.getElem?_cons_zero, List.getElem?_cons_succ] at k0 k1
  go_enter Try.func28, Try.ntmps28
  go_upto_region 1 with (fail)
  change Code.wp _ _ _ _ (((W.alloc (.cells (lnC w.o w.i q h s t d false) 62)).alloc (.cells #[.int .u8 (x : Nat), .int .u8 (y : Nat)] 65)).alloc (.cells (lnC oz iz sl0 sl0 sl0 sl0 sl0 false) 62))
  rw [← HWA.out]
  go_upto_region 30 with ((with_reducible show wpList _ _ _ _ _ _); refine wpList_lnLoadI rfl rfl rfl q0 ?_)
  refine (HP.out _).mono ?_
  rintro e w3 ⟨rfl, hb⟩
  have hz := hbx.size
  replace q0 := q0.below hb
  replace q2 := q2.below hb
  have lt0 := q0.lt
  have lt2 := q2.lt
  replace hbx := bstep hbx hb
  clear c0 c3 c4 c6 c7 c8 c9 k0 k1 hb
  go_wp2_with (first
    | ((with_reducible show wpList _ _ _ _ _ _); refine wpList_lnI (i' := ⟨w.i.next, []⟩) (A := none) (n := 0) (c := 0) rfl rfl rfl rfl q0 ?_; intro w7 ht7 b7)
    | ((with_reducible show wpList _ _ _ _ _ _); refine wpList_loadRow rfl rfl rfl b7 aggLn sizeLn ?_)
    | ((with_reducible show wpList _ _ _ _ _ _); refine wpList_put (vs := lnC w.o ⟨w.i.next, []⟩ q ⟨none, 0, 0⟩ s t d false) rfl rfl rfl rfl (ht7.blk q2 (by omega)) rfl (by kernel_rfl) (one_lnC _ _ _ _ _ _ _ _) ?_; intro w9 ht9 b9))
  have L := HL.out.below hbx
  have a0 : LnAway W.heap.size q ⟨none, 0, 0⟩ s t d := ⟨HU.out.q.away (Nat.le_refl _), Away.none _, HU.out.s.away (Nat.le_refl _), HU.out.t.away (Nat.le_refl _), HU.out.d.away (Nat.le_refl _)⟩
  have a2 : LnAway (W.heap.size + 1 + 1) q ⟨none, 0, 0⟩ s t d := ⟨HU.out.q.away (by omega), Away.none _, HU.out.s.away (by omega), HU.out.t.away (by omega), HU.out.d.away (by omega)⟩
  have L2 : LnAt w3 ⟨w.o, ⟨w.i.next, []⟩, w.sent, w.told, w.dl, false⟩ q ⟨none, 0, 0⟩ s t d := ⟨L.o, ⟨Nat.le_refl _, by simp [maxLen], RdF.none_ _⟩, L.sc, L.tc, L.dc, L.tl, L.rs, L.rt, L.rd⟩
  exact ln_goal rfl rfl rfl b9 (L2.turned ht7 a0) ht9 a2 (hbx.trans (ht7.below _ (Nat.le_refl _))) (by omega) ⟨KA.refl _ _, KA.none _ _, KA.refl _ _, KA.refl _ _, KA.refl _ _⟩ (.inl ⟨rfl, rfl⟩)
end Go.Proofs.Ytecklplohgfohaa
