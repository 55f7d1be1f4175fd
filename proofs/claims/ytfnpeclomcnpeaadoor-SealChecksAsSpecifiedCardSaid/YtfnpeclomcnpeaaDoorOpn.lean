/-
  Opens and Check; Short. Condition: the tables of constants read as they are laid.
-/
import Derived.Test.YtfnpeclomcnpeaaDoorMk
import Derived.Test.YtfnpeclomcnpeaaDoorEqb
namespace Go.Proofs.YtfnpeclomcnpeaaDoor
set_option linter.unusedSimpArgs false
set_option linter.unusedVariables false
open Go.RowKit Ring Sha
theorem eql_Di (a b : List UInt8) (ha : a.length = 16) (hb : b.length = 16) (w : World) : (binOp .eql 44 (.agg (bv a).toArray) (.agg (bv b).toArray)).run Tryd.prog w = .ok (.bool (decide (a = b))) w := by
  obtain ⟨i, h1, h2, h3, h4⟩ := info_parts (show (Tryd.prog.info? 5).map (fun i => (i.zero, i.size, i.bytes)) = some (some (.int .u8 0), 1, 1) by kernel_rfl)
  exact run_eql_bytes (e := 5) (by kernel_rfl) h1 (by kernel_rfl) (by kernel_rfl) a b ha hb w
theorem neq_Se (a b : List UInt8) (ha : a.length = 16) (hb : b.length = 16) (w : World) : (binOp .neq 43 (.agg (bv a).toArray) (.agg (bv b).toArray)).run Tryd.prog w = .ok (.bool (!decide (a = b))) w := by
  obtain ⟨i, h1, h2, h3, h4⟩ := info_parts (show (Tryd.prog.info? 5).map (fun i => (i.zero, i.size, i.bytes)) = some (some (.int .u8 0), 1, 1) by kernel_rfl)
  exact run_neq_bytes (e := 5) (by kernel_rfl) h1 (by kernel_rfl) (by kernel_rfl) a b ha hb w
theorem eql_Se (a b : List UInt8) (ha : a.length = 16) (hb : b.length = 16) (w : World) : (binOp .eql 43 (.agg (bv a).toArray) (.agg (bv b).toArray)).run Tryd.prog w = .ok (.bool (decide (a = b))) w := by
  obtain ⟨i, h1, h2, h3, h4⟩ := info_parts (show (Tryd.prog.info? 5).map (fun i => (i.zero, i.size, i.bytes)) = some (some (.int .u8 0), 1, 1) by kernel_rfl)
  exact run_eql_bytes (e := 5) (by kernel_rfl) h1 (by kernel_rfl) (by kernel_rfl) a b ha hb w
/-- The digests' bytes. -/
def blindL (s : ByteArray) (l : List ByteArray) : List UInt8 := dig16 (inputL 121 (s :: l))
def sealL (s : ByteArray) (tag : Int) (l : List ByteArray) : List UInt8 := dig16 (inputL tag ([s] ++ l ++ [s]))
theorem length_blindL (s : ByteArray) (l : List ByteArray) : (blindL s l).length = 16 := length_dig16 _
theorem length_sealL (s : ByteArray) (tag : Int) (l : List ByteArray) : (sealL s tag l).length = 16 := length_dig16 _
set_option maxRecDepth 20000 in
set_option maxHeartbeats 1000000 in
theorem opens_any (d : List UInt8) (hd : d.length = 16) (s : ByteArray) (A : Option Addr) (n c : Nat) (l : List ByteArray) (w : World) (hn : n ≤ 100) (hs : ∀ s ∈ l, s.size ≤ 65536) (hks : s.size ≤ 65536) (hr : Rd w A n (sv l)) (hg : GCon w) :
    Calls Tryd.prog 28 #[.agg (bv d).toArray, .string s, .slice A n c] w fun e w' => e = .returned (.bool (decide (blindL s l = d))) ∧ Below w.heap.size w w' := by
  have HB : Hid (∀ W, Rd W A n (sv l) → GCon W → Calls Tryd.prog 27 #[.string s, .slice A n c] W fun e w' => e = .returned (.agg (bv (blindL s l)).toArray) ∧ Below W.heap.size W w') := Lib.hid (fun W hr hg => blind_any s A n c l W hn hs hks hr hg)
  have HL := Lib.hid (length_blindL s l)
  generalize blindL s l = S at *
  have hD : (bv d).toArray.size = 16 := by simp [hd]
  have HD := Lib.hid hD
  have heq : ∀ W, (binOp .eql 44 (.agg (bv S).toArray) (.agg (bv d).toArray)).run Tryd.prog W = .ok (.bool (decide (S = d))) W := fun W => eql_Di S d HL.out hd W
  generalize decide (S = d) = E at *
  clear hD hd
  go_enter Tryd.func28, Tryd.ntmps28
  go_wp2_with fail
  have hb0 := (Below.refl w.heap.size w).alloc (Nat.le_refl _) (.cells (bv d).toArray 44)
  have q3 := Blk.new w 44 (bv d).toArray
  have hrb := hr.below hb0
  have hgb := hg.below hb0
  have hlt3 := q3.lt
  generalize w.alloc (.cells (bv d).toArray 44) = wa at *
  have hS0 : Below wa.heap.size wa wa.drew := (Below.refl _ wa).drew
  refine wp_region_T 5 (by kernel_rfl) ?_
  -- region 1: 6 operations, tail from 5
  refine WpT.take (i := 0) rfl (by kernel_rfl) (fun _ _ _ h => h) (.inl ⟨by rfl, fun w hSw => by clear hSw; go_simp; (try go_bits); (try rw [if_pos (by omega)]); (try with_reducible rfl)⟩) ((Below.refl _ _).drew) ?_
  try simp only [Act.put, List.setIfInBounds_toArray, List.set_cons_zero, List.set_cons_succ]
  refine WpT.take (i := 1) rfl (by kernel_rfl) (fun _ _ _ h => h) (.inl ⟨by rfl, fun w hSw => by clear hSw; go_simp; (try go_bits); (try rw [if_pos (by omega)]); (try with_reducible rfl)⟩) ((Below.refl _ _).drew) ?_
  try simp only [Act.put, List.setIfInBounds_toArray, List.set_cons_zero, List.set_cons_succ]
  refine WpT.take (i := 3) rfl (by kernel_rfl) (fun _ _ _ h => h) (yields_blk rfl rfl rfl (by kernel_rfl) (by rw [HD.out]; kernel_rfl) q3) ((Below.refl _ _).drew) ?_
  try simp only [Act.put, List.setIfInBounds_toArray, List.set_cons_zero, List.set_cons_succ]
  refine WpT.one (i := 2) rfl (by kernel_rfl) (fun K hK => ?_)
  go_simp; refine (HB.out _ (hrb.below hS0) (hgb.below hS0)).mono ?_; rintro e w1 ⟨rfl, hb1⟩; have hS1 := bstep hS0 hb1
  refine hK _ _ (hS1) ?_; clear hK K; try simp only [Act.put, List.setIfInBounds_toArray, List.set_cons_zero, List.set_cons_succ]
  refine WpT.take (i := 4) rfl (by kernel_rfl) (fun _ _ _ h => h) (.inl ⟨by rfl, fun w hSw => by clear hSw; go_simp; (try go_bits); (try rw [if_pos (by omega)]); (try with_reducible rfl)⟩) (hS1) ?_
  try simp only [Act.put, List.setIfInBounds_toArray, List.set_cons_zero, List.set_cons_succ]
  refine WpT.tail (i := 5) rfl (by kernel_rfl) (by kernel_rfl) (fun K hK => ?_)
  go_simp; (try go_bits)
  refine hK _ _ ?_; clear hK K; try simp only [Act.put, List.setIfInBounds_toArray, List.set_cons_zero, List.set_cons_succ]
  refine WpT.done (by kernel_rfl) ?_ _
  go_wp2_with fail
  go_ret
  exact ⟨rfl, bstep hb0 hS1⟩
/-- What Check returns. -/
def chkR (p s tag : Int) (parts : List ByteArray) (S : List UInt8) (day : Int) (l : List Key) : Int := match find (bare p s) l with
  | none => 5
  | some k => if cntB k day then (if sealL k.secret tag parts = S then 0 else 8) else 9
set_option maxRecDepth 20000 in
set_option maxHeartbeats 4000000 in
theorem check_any (A : Option Addr) (n c : Nat) (l : List Key) (p s tag : Int) (B : Option Addr) (m d : Nat) (parts : List ByteArray) (S : List UInt8) (day : Int) (w : World) (hn : n ≤ 1000) (hr : RdK w A n l) (hs : Sorted l) (hv : ∀ k ∈ l, validB k = true)
    (hm : m ≤ 100) (hp : ∀ s ∈ parts, s.size ≤ 65536) (hrp : Rd w B m (sv parts)) (hS : S.length = 16) (hg : GCon w) :
    Calls Tryd.prog 24 #[.slice A n c, .int .i64 p, .int .i64 s, .int .i64 tag, .slice B m d, .agg (bv S).toArray, .int .i64 day] w fun e w' => e = .returned (.int .i64 (chkR p s tag parts S day l)) ∧ Below w.heap.size w w' := by
  have HF := Lib.hid (fun W hr => find_any A n c l p s W (by omega) hr hs)
  have HV : Hid (∀ k, find (bare p s) l = some k → (0 < k.til ∧ k.til ≤ 1048577) ∧ k.secret.size ≤ 64) := Lib.hid (fun k hf => by
    have := (validB_iff k).1 (hv k (find_same _ l k hf).2)
    unfold validP at this
    omega)
  unfold chkR
  change Hid (∀ W, RdK W A n l → Calls _ _ _ W fun e w' => e = .returned (.tuple #[keyV (keyO (find (bare p s) l)), .int .i64 (errO (find (bare p s) l) 5)]) ∧ Below W.heap.size W w') at HF
  generalize find (bare p s) l = F at *
  have HD := Lib.hid (show (bv S).toArray.size = 16 by simp [hS])
  have hb0 := (Below.refl w.heap.size w).alloc (Nat.le_refl _) (.cells (bv S).toArray 43)
  have q12 := Blk.new w 43 (bv S).toArray
  cases F with
  | none =>
    dsimp only
    go_enter Tryd.func24, Tryd.ntmps24
    go_wp2_with fail
    refine (HF.out _ (hr.below hb0)).mono ?_
    rintro e w1 ⟨rfl, hb1⟩
    simp only [keyO, errO, Option.getD_none, Option.isSome_none, Bool.false_eq_true, if_false]
    go_wp2_with (first
      | (refine wpList_allocKy rfl rfl ?_; intro w2 g2 hg2 hbk hb2 hlt2; have Hg2 := Lib.hid hg2; clear hg2)
      | (refine wpList_storeKy (k := zeroKey) rfl rfl rfl rfl hbk ?_; intro w3 hbk3 hb3))
    go_ret
    exact ⟨rfl, (bstep hb0 hb1).trans ((hb2.mono (by have := hb0.size; have := hb1.size; omega)).trans (hb3.mono (by have := Hg2.out; have := hb0.size; have := hb1.size; omega)))⟩
  | some k =>
    dsimp only
    obtain ⟨⟨ht1, ht2⟩, hsec⟩ := HV.out k rfl
    have HC := Lib.hid (fun W => counts_any k day W ht1 ht2)
    have HM : Hid (∀ W, Rd W B m (sv parts) → GCon W → Calls Tryd.prog 22 #[keyV k, .int .i64 tag, .slice B m d] W fun e w' => e = .returned (.agg (bv (sealL k.secret tag parts)).toArray) ∧ Below W.heap.size W w') := Lib.hid (fun W hr hg => make_any k tag B m d parts W hm hp (by omega) hr hg)
    have HLs := Lib.hid (length_sealL k.secret tag parts)
    have hneq : ∀ W, (binOp .neq 43 (.agg (bv (sealL k.secret tag parts)).toArray) (.agg (bv S).toArray)).run Tryd.prog W = .ok (.bool (!decide (sealL k.secret tag parts = S))) W := fun W => neq_Se _ S HLs.out hS W
    have hdec : (if sealL k.secret tag parts = S then (0 : Int) else 8) = if decide (sealL k.secret tag parts = S) = true then 0 else 8 := by simp
    rw [hdec]
    clear hdec HLs HV
    generalize sealL k.secret tag parts = T at *
    generalize decide (T = S) = E at *
    generalize cntB k day = C at *
    simp only [keyO, errO, Option.getD_some, Option.isSome_some, if_true] at HF
    clear hS
    cases C
    · simp only [Bool.false_eq_true, if_false]
      go_enter Tryd.func24, Tryd.ntmps24
      go_wp2_with fail
      refine (HF.out _ (hr.below hb0)).mono ?_
      rintro e w1 ⟨rfl, hb1⟩
      go_wp2_with (first
        | (refine wpList_allocKy rfl rfl ?_; intro w2 g2 hg2 hbk hb2 hlt2; have Hg2 := Lib.hid hg2; clear hg2)
        | (refine wpList_storeKy (k := k) rfl rfl rfl rfl hbk ?_; intro w3 hbk3 hb3)
        | (refine wpList_loadRow rfl rfl rfl hbk3 aggKy sizeKy ?_))
      refine (HC.out _).mono ?_
      rintro e w4 ⟨rfl, hb4⟩
      have hbX : Below w.heap.size w w3 := (bstep hb0 hb1).trans ((hb2.mono (by have := hb0.size; have := hb1.size; omega)).trans (hb3.mono (by have := Hg2.out; have := hb0.size; have := hb1.size; omega)))
      go_wp2
      go_ret
      exact ⟨rfl, bstep hbX hb4⟩
    · simp only [if_true]
      have q12' := q12
      go_enter Tryd.func24, Tryd.ntmps24
      go_wp2_with fail
      refine (HF.out _ (hr.below hb0)).mono ?_
      rintro e w1 ⟨rfl, hb1⟩
      replace q12 := q12.below hb1
      go_wp2_with (first
        | (refine wpList_allocKy rfl rfl ?_; intro w2 g2 hg2 hbk hb2 hlt2; have Hg2 := Lib.hid hg2; clear hg2)
        | (refine wpList_storeKy (k := k) rfl rfl rfl rfl hbk ?_; intro w3 hbk3 hb3)
        | (refine wpList_loadRow rfl rfl rfl hbk3 aggKy sizeKy ?_))
      refine (HC.out _).mono ?_
      rintro e w4 ⟨rfl, hb4⟩
      have hbY : Below w1.heap.size w1 w3 := hb2.trans (hb3.mono (by have := Hg2.out; omega))
      have hbX : Below w.heap.size w w3 := bstep (bstep hb0 hb1) hbY
      replace q12 := (q12.below hbY).below hb4
      have q15 := hbk3.below hb4
      have hbZ := bstep hbX hb4
      have hrZ := hrp.below hbZ
      have hgZ := hg.below hbZ
      clear hb4 hbX hbY hb3 hb2 hbk hbk3 q12'
      go_wp2_with fail
      have hS0 : Below w4.heap.size w4 w4.drew := (Below.refl _ w4).drew
      refine wp_region_T 7 (by kernel_rfl) ?_
      -- region 6: 7 operations, tail from 7
      refine WpT.take (i := 0) rfl (by kernel_rfl) (fun _ _ _ h => h) (yields_blk rfl rfl rfl (by kernel_rfl) (by kernel_rfl) q15) ((Below.refl _ _).drew) ?_
      try simp only [Act.put, List.setIfInBounds_toArray, List.set_cons_zero, List.set_cons_succ]
      refine WpT.take (i := 1) rfl (by kernel_rfl) (fun _ _ _ h => h) (.inl ⟨by rfl, fun w hSw => by clear hSw; go_simp; (try go_bits); (try rw [if_pos (by omega)]); (try with_reducible rfl)⟩) ((Below.refl _ _).drew) ?_
      try simp only [Act.put, List.setIfInBounds_toArray, List.set_cons_zero, List.set_cons_succ]
      refine WpT.take (i := 2) rfl (by kernel_rfl) (fun _ _ _ h => h) (.inl ⟨by rfl, fun w hSw => by clear hSw; go_simp; (try go_bits); (try rw [if_pos (by omega)]); (try with_reducible rfl)⟩) ((Below.refl _ _).drew) ?_
      try simp only [Act.put, List.setIfInBounds_toArray, List.set_cons_zero, List.set_cons_succ]
      refine WpT.take (i := 4) rfl (by kernel_rfl) (fun _ _ _ h => h) (yields_blk rfl rfl rfl (by kernel_rfl) (by rw [HD.out]; kernel_rfl) q12) ((Below.refl _ _).drew) ?_
      try simp only [Act.put, List.setIfInBounds_toArray, List.set_cons_zero, List.set_cons_succ]
      refine WpT.one (i := 3) rfl (by kernel_rfl) (fun K hK => ?_)
      go_simp; refine (HM.out _ (hrZ.below hS0) (hgZ.below hS0)).mono ?_; rintro e w5 ⟨rfl, hb5⟩; have hS5 := bstep hS0 hb5
      refine hK _ _ (hS5) ?_; clear hK K; try simp only [Act.put, List.setIfInBounds_toArray, List.set_cons_zero, List.set_cons_succ]
      refine WpT.take (i := 5) rfl (by kernel_rfl) (fun _ _ _ h => h) (.inl ⟨by rfl, fun w hSw => by clear hSw; go_simp; (try go_bits); (try rw [if_pos (by omega)]); (try with_reducible rfl)⟩) (hS5) ?_
      try simp only [Act.put, List.setIfInBounds_toArray, List.set_cons_zero, List.set_cons_succ]
      refine WpT.one (i := 6) rfl (by kernel_rfl) (fun K hK => ?_)
      go_simp; (try go_bits)
      refine hK _ _ (hS5) ?_; clear hK K; try simp only [Act.put, List.setIfInBounds_toArray, List.set_cons_zero, List.set_cons_succ]
      refine WpT.done (by kernel_rfl) ?_ _
      cases E
      · go_wp2_with fail
        go_ret
        exact ⟨rfl, bstep hbZ hS5⟩
      · go_wp2_with fail
        go_ret
        exact ⟨rfl, bstep hbZ hS5⟩
set_option maxRecDepth 20000 in
set_option maxHeartbeats 4000000 in
theorem refCheck_any (A : Option Addr) (n c : Nat) (l : List Key) (p s tag : Int) (B : Option Addr) (m d : Nat) (parts : List ByteArray) (S : List UInt8) (day : Int) (w : World) (hn : n ≤ 1000) (hr : RdK w A n l) (hv : ∀ k ∈ l, validB k = true)
    (hm : m ≤ 10) (hp : ∀ s ∈ parts, s.size ≤ 400) (hrp : Rd w B m (sv parts)) (hS : S.length = 16) (hg : RCon w) :
    Calls Tryd.prog 25 #[.slice A n c, .int .i64 p, .int .i64 s, .int .i64 tag, .slice B m d, .agg (bv S).toArray, .int .i64 day] w fun e w' => e = .returned (.int .i64 (chkR p s tag parts S day l)) ∧ Below w.heap.size w w' := by
  have HF := Lib.hid (fun W hr => refFind_any A n c l p s W (by omega) hr)
  have HV : Hid (∀ k, find (bare p s) l = some k → k.secret.size ≤ 64) := Lib.hid (fun k hf => by
    have := (validB_iff k).1 (hv k (find_same _ l k hf).2)
    unfold validP at this
    omega)
  unfold chkR
  change Hid (∀ W, RdK W A n l → Calls _ _ _ W fun e w' => e = .returned (.agg (keyedC (keyO (find (bare p s) l)) (errO (find (bare p s) l) 5))) ∧ Below W.heap.size W w') at HF
  generalize find (bare p s) l = F at *
  have HD := Lib.hid (show (bv S).toArray.size = 16 by simp [hS])
  have hb0 := (Below.refl w.heap.size w).alloc (Nat.le_refl _) (.cells (bv S).toArray 43)
  have q12 := Blk.new w 43 (bv S).toArray
  cases F with
  | none =>
    dsimp only
    simp only [keyO, errO, Option.getD_none, Option.isSome_none, Bool.false_eq_true, if_false] at HF
    go_enter Tryd.func25, Tryd.ntmps25
    go_wp2_with fail
    refine (HF.out _ (hr.below hb0)).mono ?_
    rintro e w1 ⟨rfl, hb1⟩
    go_wp2_with (first
      | (refine wpList_allocR rfl rfl (zero_Kd _) ?_; intro w3 g3 hg3 hbk3 hb3 hlt3; have Hg3 := Lib.hid hg3; clear hg3)
      | (refine wpList_storeRow6 (k := zeroKey) (e := 5) rfl rfl rfl rfl hbk3 ?_; intro w4 hbk4 hb4; have q5 := hbk4.cell 5; simp only [List.getElem?_toArray, List.getElem?_cons_zero, List.getElem?_cons_succ] at q5))
    go_ret
    exact ⟨rfl, (bstep hb0 hb1).trans ((hb3.mono (by have := hb0.size; have := hb1.size; omega)).trans (hb4.mono (by have := Hg3.out; have := hb0.size; have := hb1.size; omega)))⟩
  | some k =>
    dsimp only
    have hsec := HV.out k rfl
    have HC := Lib.hid (fun W => refCounts_any k day W)
    have HM : Hid (∀ W, Rd W B m (sv parts) → RCon W → Calls Tryd.prog 23 #[keyV k, .int .i64 tag, .slice B m d] W fun e w' => e = .returned (.agg (bv (sealL k.secret tag parts)).toArray) ∧ Below W.heap.size W w') := Lib.hid (fun W hr hg => refMake_any k tag B m d parts W hm hp (by omega) hr hg)
    have HLs := Lib.hid (length_sealL k.secret tag parts)
    have hneq : ∀ W, (binOp .neq 43 (.agg (bv (sealL k.secret tag parts)).toArray) (.agg (bv S).toArray)).run Tryd.prog W = .ok (.bool (!decide (sealL k.secret tag parts = S))) W := fun W => neq_Se _ S HLs.out hS W
    have hdec : (if sealL k.secret tag parts = S then (0 : Int) else 8) = if decide (sealL k.secret tag parts = S) = true then 0 else 8 := by simp
    rw [hdec]
    clear hdec HLs HV
    generalize sealL k.secret tag parts = T at *
    generalize decide (T = S) = E at *
    generalize cntB k day = C at *
    simp only [keyO, errO, Option.getD_some, Option.isSome_some, if_true] at HF
    clear hS
    cases C
    · simp only [Bool.false_eq_true, if_false]
      go_enter Tryd.func25, Tryd.ntmps25
      go_wp2_with fail
      refine (HF.out _ (hr.below hb0)).mono ?_
      rintro e w1 ⟨rfl, hb1⟩
      go_upto_region 4 with (first
        | (refine wpList_allocR rfl rfl (zero_Kd _) ?_; intro w3 g3 hg3 hbk3 hb3 hlt3; have Hg3 := Lib.hid hg3; clear hg3)
        | (refine wpList_storeRow6 (k := k) (e := 0) rfl rfl rfl rfl hbk3 ?_; intro w4 hbk4 hb4; have q5 := hbk4.cell 5; simp only [List.getElem?_toArray, List.getElem?_cons_zero, List.getElem?_cons_succ] at q5))
      have hc4 := loadKd hbk4
      have hbX : Below w.heap.size w w4 := (bstep hb0 hb1).trans ((hb3.mono (by have := hb0.size; have := hb1.size; omega)).trans (hb4.mono (by have := Hg3.out; have := hb0.size; have := hb1.size; omega)))
      go_wp2_with (refine wpList_loadKy (k := k) rfl rfl rfl hc4 ?_)
      refine (HC.out _).mono ?_
      rintro e w5 ⟨rfl, hb5⟩
      go_wp2
      go_ret
      exact ⟨rfl, bstep hbX hb5⟩
    · simp only [if_true]
      go_enter Tryd.func25, Tryd.ntmps25
      go_wp2_with fail
      refine (HF.out _ (hr.below hb0)).mono ?_
      rintro e w1 ⟨rfl, hb1⟩
      replace q12 := q12.below hb1
      go_upto_region 4 with (first
        | (refine wpList_allocR rfl rfl (zero_Kd _) ?_; intro w3 g3 hg3 hbk3 hb3 hlt3; have Hg3 := Lib.hid hg3; clear hg3)
        | (refine wpList_storeRow6 (k := k) (e := 0) rfl rfl rfl rfl hbk3 ?_; intro w4 hbk4 hb4; have q5 := hbk4.cell 5; simp only [List.getElem?_toArray, List.getElem?_cons_zero, List.getElem?_cons_succ] at q5))
      have hc4 := loadKd hbk4
      have hbY : Below w1.heap.size w1 w4 := hb3.trans (hb4.mono (by have := Hg3.out; omega))
      have hbX : Below w.heap.size w w4 := bstep (bstep hb0 hb1) hbY
      go_wp2_with (refine wpList_loadKy (k := k) rfl rfl rfl hc4 ?_)
      refine (HC.out _).mono ?_
      rintro e w5 ⟨rfl, hb5⟩
      replace q12 := (q12.below hbY).below hb5
      have q15 := hbk4.below hb5
      have hc5 := loadKd q15
      have hbZ := bstep hbX hb5
      have hrZ := hrp.below hbZ
      have hgZ := hg.below hbZ
      clear hb5 hbX hbY hb3 hb4 hbk3 hbk4 hc4 q5
      go_wp2_with fail
      have hS0 : Below w5.heap.size w5 w5.drew := (Below.refl _ w5).drew
      refine wp_region_T 7 (by kernel_rfl) ?_
      -- region 6: 7 operations, tail from 7
      refine WpT.take (i := 0) rfl (by kernel_rfl) (fun _ _ _ h => h) (.inl ⟨by rfl, fun w hSw => by clear hSw; go_simp; (try go_bits); (try rw [if_pos (by omega)]); (try with_reducible rfl)⟩) ((Below.refl _ _).drew) ?_
      try simp only [Act.put, List.setIfInBounds_toArray, List.set_cons_zero, List.set_cons_succ]
      refine WpT.take (i := 1) rfl (by kernel_rfl) (fun _ _ _ h => h) (yields_loadK rfl rfl rfl (by kernel_rfl) (by kernel_rfl) (us := kv k) hc5) ((Below.refl _ _).drew) ?_
      try simp only [Act.put, List.setIfInBounds_toArray, List.set_cons_zero, List.set_cons_succ]
      refine WpT.take (i := 2) rfl (by kernel_rfl) (fun _ _ _ h => h) (.inl ⟨by rfl, fun w hSw => by clear hSw; go_simp; (try go_bits); (try rw [if_pos (by omega)]); (try with_reducible rfl)⟩) ((Below.refl _ _).drew) ?_
      try simp only [Act.put, List.setIfInBounds_toArray, List.set_cons_zero, List.set_cons_succ]
      refine WpT.take (i := 3) rfl (by kernel_rfl) (fun _ _ _ h => h) (.inl ⟨by rfl, fun w hSw => by clear hSw; go_simp; (try go_bits); (try rw [if_pos (by omega)]); (try with_reducible rfl)⟩) ((Below.refl _ _).drew) ?_
      try simp only [Act.put, List.setIfInBounds_toArray, List.set_cons_zero, List.set_cons_succ]
      refine WpT.take (i := 5) rfl (by kernel_rfl) (fun _ _ _ h => h) (yields_blk rfl rfl rfl (by kernel_rfl) (by rw [HD.out]; kernel_rfl) q12) ((Below.refl _ _).drew) ?_
      try simp only [Act.put, List.setIfInBounds_toArray, List.set_cons_zero, List.set_cons_succ]
      refine WpT.one (i := 4) rfl (by kernel_rfl) (fun K hK => ?_)
      go_simp; refine (HM.out _ (hrZ.below hS0) (hgZ.below hS0)).mono ?_; rintro e w6 ⟨rfl, hb6⟩; have hS6 := bstep hS0 hb6
      refine hK _ _ (hS6) ?_; clear hK K; try simp only [Act.put, List.setIfInBounds_toArray, List.set_cons_zero, List.set_cons_succ]
      refine WpT.take (i := 6) rfl (by kernel_rfl) (fun _ _ _ h => h) (.inl ⟨by rfl, fun w hSw => by clear hSw; go_simp; (try go_bits); (try rw [if_pos (by omega)]); (try with_reducible rfl)⟩) (hS6) ?_
      try simp only [Act.put, List.setIfInBounds_toArray, List.set_cons_zero, List.set_cons_succ]
      refine WpT.done (by kernel_rfl) ?_ _
      cases E
      · go_wp2_with fail
        go_ret
        exact ⟨rfl, bstep hbZ hS6⟩
      · go_wp2_with fail
        go_ret
        exact ⟨rfl, bstep hbZ hS6⟩
/-- A list of texts is short. -/
def shortB (l : List ByteArray) (most : Int) : Bool := (l.all fun s => decide (s.size ≤ 300)) && decide ((l.length : Int) ≤ most)
set_option maxRecDepth 20000 in
set_option maxHeartbeats 1000000 in
theorem short_any (A : Option Addr) (n c : Nat) (l : List ByteArray) (most : Int) (w : World) (hn : n ≤ maxLen) (hr : Rd w A n (sv l)) (hl : ∀ s ∈ l, s.size ≤ maxLen) :
    Calls Tryd.prog 21 #[.slice A n c, .int .i64 most] w fun e w' => e = .returned (.bool (shortB l most)) ∧ w = w' := by
  have HL := Lib.hid (show l.length = n by have := hr.len; simpa using this)
  have HB : Hid (∀ x ∈ l, ¬ x.size ≤ 300 → shortB l most = false) := Lib.hid (fun x hx h => by
    unfold shortB
    rw [Bool.and_eq_false_iff]
    exact .inl (by rw [List.all_eq_false]; exact ⟨x, hx, by simpa using h⟩))
  have HA : Hid ((∀ x ∈ l, x.size ≤ 300) → shortB l most = decide ((n : Int) ≤ most)) := Lib.hid (fun h => by
    unfold shortB
    rw [HL.out, List.all_eq_true.2 (fun x hx => by simpa using h x hx), Bool.true_and])
  generalize shortB l most = V at *
  unfold maxLen at hn
  go_enter Tryd.func21, Tryd.ntmps21
  go_wp2_with fail
  go_loop [5] (fun vj => ∃ k : Nat, k ≤ n ∧ vj = .int .i64 k ∧ Hid (∀ x ∈ l.take k, x.size ≤ 300)) (fun vj => n - (intOf vj).toNat)
  case atStart => exact ⟨0, Nat.zero_le _, rfl, Lib.hid (by simp)⟩
  case round =>
    obtain ⟨k, hk, rfl, HP⟩ := hrel
    by_cases hlt : k < n
    · obtain ⟨ad, rfl, hc⟩ := hr.str hlt HL.out
      have HB1 := Lib.hid (HB.out _ (List.getElem_mem (show k < l.length by have := HL.out; omega)))
      have hx := hl _ (List.getElem_mem (show k < l.length by have := HL.out; omega))
      unfold maxLen at hx
      have HN : Hid ((l[k]'(by have := HL.out; omega)).size ≤ 300 → ∀ x ∈ l.take (k + 1), x.size ≤ 300) := Lib.hid (fun h0 x hx => by
        rw [List.take_succ_eq_append_getElem (by have := HL.out; omega)] at hx
        rcases List.mem_append.1 hx with h | h
        · exact HP.out x h
        · simp only [List.mem_singleton] at h
          subst h
          exact h0)
      generalize (l[k]'(by have := HL.out; omega)) = x at *
      by_cases h3 : x.size ≤ 300
      · have d : decide ((300 : Int) < x.size) = false := by simp; omega
        have HN2 := Lib.hid (HN.out h3)
        clear HB1 HN HP HB HA
        go_wp2_with fail
        go_round
        case rel => exact ⟨k + 1, by omega, by go_num, HN2⟩
        case measure => simp [intOf]; omega
      · have d : decide ((300 : Int) < x.size) = true := by simp; omega
        obtain rfl := HB1.out h3
        clear HB1 HN HP HB HA
        go_wp2_with fail
        go_ret
        exact ⟨rfl, rfl⟩
    · obtain rfl : k = n := by omega
      obtain rfl := HA.out (by have := HP.out; rwa [List.take_of_length_le (by have := HL.out; omega)] at this)
      clear HB HA HP
      go_wp2_with fail
      go_ret
      exact ⟨rfl, rfl⟩
end Go.Proofs.YtfnpeclomcnpeaaDoor
