/-
  The reference's Receive: what is wrong. Conditions: at most 100000 frames.
-/
import Derived.Test.YtecklplohgfohaaGa
import Derived.Test.YtecklplohgfohaaRvi
namespace Go.Proofs.Ytecklplohgfohaa
set_option linter.unusedSimpArgs false
set_option linter.unusedVariables false
open Go.RowKit Link
set_option maxRecDepth 20000 in
set_option maxHeartbeats 8000000 in
theorem got_bad0 (i : Ib) (A : Option Addr) (n c : Nat) (sm : Bool) (sq : Int) (bd : ByteArray) (w : World) (hn : n ≤ 100000) (hr : RdI w i A n c) (hi : WfI i) (hf : WfF ⟨sm, sq, bd⟩) (hv : validIn i = false) :
    Calls Try.prog 26 #[ibV i A n c, frV ⟨sm, sq, bd⟩] w (GotIs (i, [], 1) w) := by
  have HV := Lib.hid (fun W (h : RdI W i A n c) => refValidIn_any i A n c W hn h.rd hi)
  have HR := Lib.hid hr
  have HL := Lib.hid hr.rd.len
  have hnc := hr.nc
  have hcm : c ≤ 9223372036854775807 := hr.cm
  have hbs : bd.size ≤ 9223372036854775807 := by have := hf.body; unfold maxLen at this; exact (by have h : (⟨sm, sq, bd⟩ : Fr).body.size = bd.size := rfl; omega)
  have HNX : Hid ((Lit.int .i64 i.next).wf = true) := Lib.hid hi.next
  obtain ⟨wa, hwa, hb0, q0, q1, q2⟩ : ∃ wa : World, wa = ((w.alloc (.cells (ibC i A n c) 47)).alloc (.cells (frC ⟨sm, sq, bd⟩) 49)).alloc (.cells (gotC iz none 0 0 none 0 0 0) 57) ∧ Below w.heap.size w wa ∧
      Blk wa w.heap.size 47 (ibC i A n c) ∧ Blk wa (w.heap.size + 1) 49 (frC ⟨sm, sq, bd⟩) ∧ Blk wa (w.heap.size + 1 + 1) 57 (gotC iz none 0 0 none 0 0 0) := by
    refine ⟨_, rfl, (((Below.refl w.heap.size w).alloc (Nat.le_refl _) _).alloc (by simp) _).alloc (by simp; omega) _, ((Blk.new _ _ _).alloc _).alloc _, (Blk.new2 _ _ _ _).alloc _, ?_⟩
    have := Blk.new ((w.alloc (.cells (ibC i A n c) 47)).alloc (.cells (frC ⟨sm, sq, bd⟩) 49)) 57 (gotC iz none 0 0 none 0 0 0)
    simpa using this
  have HWA := Lib.hid hwa
  clear hwa
  have HRa := Lib.hid (HR.out.below hb0)
  obtain ⟨c0, c1⟩ := q0.ib
  obtain ⟨e0, e1, e2⟩ := q1.fr
  clear hi hf hr
  rw [hv] at HV
  go_enter Try.func26, Try.ntmps26
  go_upto_region 1 with (fail)
  change Code.wp _ _ _ _ (((w.alloc (.cells (ibC i A n c) 47)).alloc (.cells (frC ⟨sm, sq, bd⟩) 49)).alloc (.cells (gotC iz none 0 0 none 0 0 0) 57))
  rw [← HWA.out]
  go_wp2_with ((with_reducible show wpList _ _ _ _ _ _); refine wpList_loadRow rfl rfl rfl q0 aggIb sizeIb ?_)
  refine (HV.out _ HRa.out).mono ?_
  rintro e w1 ⟨rfl, hb⟩
  replace q0 := q0.below hb
  replace q1 := q1.below hb
  replace q2 := q2.below hb
  replace hb0 := bstep hb0 hb
  clear c0 c1 e0 e1 e2
  obtain ⟨c0, c1⟩ := q0.ib
  obtain ⟨e0, e1, e2⟩ := q1.fr
  clear hb
  have hbd := buildGotE i A n c
  go_wp2_with (first
    | ((with_reducible show wpList _ _ _ _ _ _); refine wpList_loadRow rfl rfl rfl q0 aggIb sizeIb ?_)
    | ((with_reducible show wpList _ _ _ _ _ _); refine wpList_putGot (k := i) (er := 1) rfl rfl rfl rfl q2 rfl ?_; intro w9 ht9 q9))
  have HB9 : Below w.heap.size w w9 := hb0.trans (ht9.below _ (by omega))
  exact ret_blk rfl rfl rfl q9 aggGot sizeGot ⟨_, _, _, _, _, _, rfl, HR.out.below HB9, RdF.none_ _, HB9⟩
set_option maxRecDepth 20000 in
set_option maxHeartbeats 8000000 in
theorem got_bad1 (i : Ib) (A : Option Addr) (n c : Nat) (sm : Bool) (sq : Int) (bd : ByteArray) (w : World) (hn : n ≤ 100000) (hr : RdI w i A n c) (hi : WfI i) (hf : WfF ⟨sm, sq, bd⟩) (hv : validIn i = true) (s0 : sq < 0) :
    Calls Try.prog 26 #[ibV i A n c, frV ⟨sm, sq, bd⟩] w (GotIs (i, [], 1) w) := by
  have HV := Lib.hid (fun W (h : RdI W i A n c) => refValidIn_any i A n c W hn h.rd hi)
  have HR := Lib.hid hr
  have HL := Lib.hid hr.rd.len
  have hnc := hr.nc
  have hcm : c ≤ 9223372036854775807 := hr.cm
  have hbs : bd.size ≤ 9223372036854775807 := by have := hf.body; unfold maxLen at this; exact (by have h : (⟨sm, sq, bd⟩ : Fr).body.size = bd.size := rfl; omega)
  have HNX : Hid ((Lit.int .i64 i.next).wf = true) := Lib.hid hi.next
  obtain ⟨wa, hwa, hb0, q0, q1, q2⟩ : ∃ wa : World, wa = ((w.alloc (.cells (ibC i A n c) 47)).alloc (.cells (frC ⟨sm, sq, bd⟩) 49)).alloc (.cells (gotC iz none 0 0 none 0 0 0) 57) ∧ Below w.heap.size w wa ∧
      Blk wa w.heap.size 47 (ibC i A n c) ∧ Blk wa (w.heap.size + 1) 49 (frC ⟨sm, sq, bd⟩) ∧ Blk wa (w.heap.size + 1 + 1) 57 (gotC iz none 0 0 none 0 0 0) := by
    refine ⟨_, rfl, (((Below.refl w.heap.size w).alloc (Nat.le_refl _) _).alloc (by simp) _).alloc (by simp; omega) _, ((Blk.new _ _ _).alloc _).alloc _, (Blk.new2 _ _ _ _).alloc _, ?_⟩
    have := Blk.new ((w.alloc (.cells (ibC i A n c) 47)).alloc (.cells (frC ⟨sm, sq, bd⟩) 49)) 57 (gotC iz none 0 0 none 0 0 0)
    simpa using this
  have HWA := Lib.hid hwa
  clear hwa
  have HRa := Lib.hid (HR.out.below hb0)
  obtain ⟨c0, c1⟩ := q0.ib
  obtain ⟨e0, e1, e2⟩ := q1.fr
  clear hi hf hr
  rw [hv] at HV
  have ds0 : decide (sq < 0) = true := by simp; omega
  go_enter Try.func26, Try.ntmps26
  go_upto_region 1 with (fail)
  change Code.wp _ _ _ _ (((w.alloc (.cells (ibC i A n c) 47)).alloc (.cells (frC ⟨sm, sq, bd⟩) 49)).alloc (.cells (gotC iz none 0 0 none 0 0 0) 57))
  rw [← HWA.out]
  go_wp2_with ((with_reducible show wpList _ _ _ _ _ _); refine wpList_loadRow rfl rfl rfl q0 aggIb sizeIb ?_)
  refine (HV.out _ HRa.out).mono ?_
  rintro e w1 ⟨rfl, hb⟩
  replace q0 := q0.below hb
  replace q1 := q1.below hb
  replace q2 := q2.below hb
  replace hb0 := bstep hb0 hb
  clear c0 c1 e0 e1 e2
  obtain ⟨c0, c1⟩ := q0.ib
  obtain ⟨e0, e1, e2⟩ := q1.fr
  clear hb
  have hbd := buildGotE i A n c
  go_wp2_with (first
    | ((with_reducible show wpList _ _ _ _ _ _); refine wpList_loadRow rfl rfl rfl q0 aggIb sizeIb ?_)
    | ((with_reducible show wpList _ _ _ _ _ _); refine wpList_putGot (k := i) (er := 1) rfl rfl rfl rfl q2 rfl ?_; intro w9 ht9 q9))
  have HB9 : Below w.heap.size w w9 := hb0.trans (ht9.below _ (by omega))
  exact ret_blk rfl rfl rfl q9 aggGot sizeGot ⟨_, _, _, _, _, _, rfl, HR.out.below HB9, RdF.none_ _, HB9⟩
set_option maxRecDepth 20000 in
set_option maxHeartbeats 8000000 in
theorem got_bad2 (i : Ib) (A : Option Addr) (n c : Nat) (sm : Bool) (sq : Int) (bd : ByteArray) (w : World) (hn : n ≤ 100000) (hr : RdI w i A n c) (hi : WfI i) (hf : WfF ⟨sm, sq, bd⟩) (hv : validIn i = true) (s0 : ¬ sq < 0) (s1 : 1099511627776 < sq) :
    Calls Try.prog 26 #[ibV i A n c, frV ⟨sm, sq, bd⟩] w (GotIs (i, [], 1) w) := by
  have HV := Lib.hid (fun W (h : RdI W i A n c) => refValidIn_any i A n c W hn h.rd hi)
  have HR := Lib.hid hr
  have HL := Lib.hid hr.rd.len
  have hnc := hr.nc
  have hcm : c ≤ 9223372036854775807 := hr.cm
  have hbs : bd.size ≤ 9223372036854775807 := by have := hf.body; unfold maxLen at this; exact (by have h : (⟨sm, sq, bd⟩ : Fr).body.size = bd.size := rfl; omega)
  have HNX : Hid ((Lit.int .i64 i.next).wf = true) := Lib.hid hi.next
  obtain ⟨wa, hwa, hb0, q0, q1, q2⟩ : ∃ wa : World, wa = ((w.alloc (.cells (ibC i A n c) 47)).alloc (.cells (frC ⟨sm, sq, bd⟩) 49)).alloc (.cells (gotC iz none 0 0 none 0 0 0) 57) ∧ Below w.heap.size w wa ∧
      Blk wa w.heap.size 47 (ibC i A n c) ∧ Blk wa (w.heap.size + 1) 49 (frC ⟨sm, sq, bd⟩) ∧ Blk wa (w.heap.size + 1 + 1) 57 (gotC iz none 0 0 none 0 0 0) := by
    refine ⟨_, rfl, (((Below.refl w.heap.size w).alloc (Nat.le_refl _) _).alloc (by simp) _).alloc (by simp; omega) _, ((Blk.new _ _ _).alloc _).alloc _, (Blk.new2 _ _ _ _).alloc _, ?_⟩
    have := Blk.new ((w.alloc (.cells (ibC i A n c) 47)).alloc (.cells (frC ⟨sm, sq, bd⟩) 49)) 57 (gotC iz none 0 0 none 0 0 0)
    simpa using this
  have HWA := Lib.hid hwa
  clear hwa
  have HRa := Lib.hid (HR.out.below hb0)
  obtain ⟨c0, c1⟩ := q0.ib
  obtain ⟨e0, e1, e2⟩ := q1.fr
  clear hi hf hr
  rw [hv] at HV
  have ds0 : decide (sq < 0) = false := by simp; omega
  have ds1 : decide (1099511627776 < sq) = true := by simp; omega
  go_enter Try.func26, Try.ntmps26
  go_upto_region 1 with (fail)
  change Code.wp _ _ _ _ (((w.alloc (.cells (ibC i A n c) 47)).alloc (.cells (frC ⟨sm, sq, bd⟩) 49)).alloc (.cells (gotC iz none 0 0 none 0 0 0) 57))
  rw [← HWA.out]
  go_wp2_with ((with_reducible show wpList _ _ _ _ _ _); refine wpList_loadRow rfl rfl rfl q0 aggIb sizeIb ?_)
  refine (HV.out _ HRa.out).mono ?_
  rintro e w1 ⟨rfl, hb⟩
  replace q0 := q0.below hb
  replace q1 := q1.below hb
  replace q2 := q2.below hb
  replace hb0 := bstep hb0 hb
  clear c0 c1 e0 e1 e2
  obtain ⟨c0, c1⟩ := q0.ib
  obtain ⟨e0, e1, e2⟩ := q1.fr
  clear hb
  have hbd := buildGotE i A n c
  go_wp2_with (first
    | ((with_reducible show wpList _ _ _ _ _ _); refine wpList_loadRow rfl rfl rfl q0 aggIb sizeIb ?_)
    | ((with_reducible show wpList _ _ _ _ _ _); refine wpList_putGot (k := i) (er := 1) rfl rfl rfl rfl q2 rfl ?_; intro w9 ht9 q9))
  have HB9 : Below w.heap.size w w9 := hb0.trans (ht9.below _ (by omega))
  exact ret_blk rfl rfl rfl q9 aggGot sizeGot ⟨_, _, _, _, _, _, rfl, HR.out.below HB9, RdF.none_ _, HB9⟩
set_option maxRecDepth 20000 in
set_option maxHeartbeats 8000000 in
theorem got_bad3 (i : Ib) (A : Option Addr) (n c : Nat) (sm : Bool) (sq : Int) (bd : ByteArray) (w : World) (hn : n ≤ 100000) (hr : RdI w i A n c) (hi : WfI i) (hf : WfF ⟨sm, sq, bd⟩) (hv : validIn i = true) (s0 : ¬ sq < 0) (s1 : ¬ 1099511627776 < sq) (s2 : 65536 < bd.size) :
    Calls Try.prog 26 #[ibV i A n c, frV ⟨sm, sq, bd⟩] w (GotIs (i, [], 1) w) := by
  have HV := Lib.hid (fun W (h : RdI W i A n c) => refValidIn_any i A n c W hn h.rd hi)
  have HR := Lib.hid hr
  have HL := Lib.hid hr.rd.len
  have hnc := hr.nc
  have hcm : c ≤ 9223372036854775807 := hr.cm
  have hbs : bd.size ≤ 9223372036854775807 := by have := hf.body; unfold maxLen at this; exact (by have h : (⟨sm, sq, bd⟩ : Fr).body.size = bd.size := rfl; omega)
  have HNX : Hid ((Lit.int .i64 i.next).wf = true) := Lib.hid hi.next
  obtain ⟨wa, hwa, hb0, q0, q1, q2⟩ : ∃ wa : World, wa = ((w.alloc (.cells (ibC i A n c) 47)).alloc (.cells (frC ⟨sm, sq, bd⟩) 49)).alloc (.cells (gotC iz none 0 0 none 0 0 0) 57) ∧ Below w.heap.size w wa ∧
      Blk wa w.heap.size 47 (ibC i A n c) ∧ Blk wa (w.heap.size + 1) 49 (frC ⟨sm, sq, bd⟩) ∧ Blk wa (w.heap.size + 1 + 1) 57 (gotC iz none 0 0 none 0 0 0) := by
    refine ⟨_, rfl, (((Below.refl w.heap.size w).alloc (Nat.le_refl _) _).alloc (by simp) _).alloc (by simp; omega) _, ((Blk.new _ _ _).alloc _).alloc _, (Blk.new2 _ _ _ _).alloc _, ?_⟩
    have := Blk.new ((w.alloc (.cells (ibC i A n c) 47)).alloc (.cells (frC ⟨sm, sq, bd⟩) 49)) 57 (gotC iz none 0 0 none 0 0 0)
    simpa using this
  have HWA := Lib.hid hwa
  clear hwa
  have HRa := Lib.hid (HR.out.below hb0)
  obtain ⟨c0, c1⟩ := q0.ib
  obtain ⟨e0, e1, e2⟩ := q1.fr
  clear hi hf hr
  rw [hv] at HV
  have ds0 : decide (sq < 0) = false := by simp; omega
  have ds1 : decide (1099511627776 < sq) = false := by simp; omega
  have ds2 : decide ((65536 : Int) < bd.size) = true := by simp; omega
  go_enter Try.func26, Try.ntmps26
  go_upto_region 1 with (fail)
  change Code.wp _ _ _ _ (((w.alloc (.cells (ibC i A n c) 47)).alloc (.cells (frC ⟨sm, sq, bd⟩) 49)).alloc (.cells (gotC iz none 0 0 none 0 0 0) 57))
  rw [← HWA.out]
  go_wp2_with ((with_reducible show wpList _ _ _ _ _ _); refine wpList_loadRow rfl rfl rfl q0 aggIb sizeIb ?_)
  refine (HV.out _ HRa.out).mono ?_
  rintro e w1 ⟨rfl, hb⟩
  replace q0 := q0.below hb
  replace q1 := q1.below hb
  replace q2 := q2.below hb
  replace hb0 := bstep hb0 hb
  clear c0 c1 e0 e1 e2
  obtain ⟨c0, c1⟩ := q0.ib
  obtain ⟨e0, e1, e2⟩ := q1.fr
  clear hb
  have hbd := buildGotE i A n c
  go_wp2_with (first
    | ((with_reducible show wpList _ _ _ _ _ _); refine wpList_loadRow rfl rfl rfl q0 aggIb sizeIb ?_)
    | ((with_reducible show wpList _ _ _ _ _ _); refine wpList_putGot (k := i) (er := 1) rfl rfl rfl rfl q2 rfl ?_; intro w9 ht9 q9))
  have HB9 : Below w.heap.size w w9 := hb0.trans (ht9.below _ (by omega))
  exact ret_blk rfl rfl rfl q9 aggGot sizeGot ⟨_, _, _, _, _, _, rfl, HR.out.below HB9, RdF.none_ _, HB9⟩
end Go.Proofs.Ytecklplohgfohaa
