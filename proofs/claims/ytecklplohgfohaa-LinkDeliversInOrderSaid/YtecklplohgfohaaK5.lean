/-
  The law LinkReceivesAsSpecified, walked. Conditions: none.
-/
import Derived.Test.YtecklplohgfohaaSl
import Derived.Test.YtecklplohgfohaaGg
namespace Go.Proofs.Ytecklplohgfohaa
set_option linter.unusedSimpArgs false
set_option linter.unusedVariables false
open Go.RowKit Link
theorem rel_lenD (n : Int) (l : List Fr) : (rel n l).2.1.length ≤ l.length := by
  induction l generalizing n with
  | nil => simp [rel]
  | cons x l ih =>
    simp only [rel]
    split
    · have := ih (n + 1); simp; omega
    · have := ih n; simp; omega
theorem recvI_lens (i : Ib) (f : Fr) : (recvI i f).1.ahead.length ≤ i.ahead.length + 1 ∧ (recvI i f).2.1.length ≤ i.ahead.length + 1 := by
  unfold recvI
  split
  · split
    · exact ⟨by simp, by simp⟩
    · split
      · split
        · exact ⟨insF_len _ _, by simp⟩
        · exact ⟨by simp, by simp⟩
      · have h1 := (rel_len (if f.sum then f.seq else f.seq + 1) i.ahead).1
        have h2 := rel_lenD (if f.sum then f.seq else f.seq + 1) i.ahead
        exact ⟨by dsimp only; omega, by dsimp only; simp; omega⟩
  · exact ⟨by simp, by simp⟩
theorem build_restart (i : Ib) (W : World) : (Instr.build 47 #[(0, .int .i64 i.next)]).run Try.prog W = .ok (ibV ⟨i.next, []⟩ none 0 0) W := by kernel_rfl
set_option maxRecDepth 20000 in
theorem restart_any (i : Ib) (A : Option Addr) (n c : Nat) (w : World) :
    Calls Try.prog 25 #[ibV i A n c] w fun e w' => e = .returned (ibV ⟨i.next, []⟩ none 0 0) ∧ Below w.heap.size w w' := by
  obtain ⟨wa, hwa, hb0, q0, q1⟩ : ∃ wa : World, wa = (w.alloc (.cells (ibC i A n c) 47)).alloc (.cells (ibC iz none 0 0) 47) ∧ Below w.heap.size w wa ∧ Blk wa w.heap.size 47 (ibC i A n c) ∧ Blk wa (w.heap.size + 1) 47 (ibC iz none 0 0) :=
    ⟨_, rfl, ((Below.refl w.heap.size w).alloc (Nat.le_refl _) _).alloc (by simp) _, (Blk.new _ _ _).alloc _, Blk.new2 _ _ _ _⟩
  have HWA := Lib.hid hwa
  clear hwa
  obtain ⟨c0, c1⟩ := q0.ib
  have hbd := build_restart i
  go_enter Try.func25, Try.ntmps25
  go_upto_region 1 with (fail)
  change Code.wp _ _ _ _ ((w.alloc (.cells (ibC i A n c) 47)).alloc (.cells (ibC iz none 0 0) 47))
  rw [← HWA.out]
  go_wp2_with ((with_reducible show wpList _ _ _ _ _ _); refine wpList_putIb (k := ⟨i.next, []⟩) rfl rfl rfl rfl q1 rfl ?_; intro w9 ht9 q9)
  exact ret_blk rfl rfl rfl q9 aggIb sizeIb ⟨rfl, hb0.trans (ht9.below _ (by omega))⟩
theorem Blk.gotIb {w : World} {g : Nat} {t : TypeId} {i : Ib} {A : Option Addr} {n c : Nat} {C : Option Addr} {m d : Nat} {er : Int} (h : Blk w g t (gotC i A n c C m d er)) : ∀ j u, [Value.int .i64 i.next, .slice A n c][j]? = some u → w.cell? ((⟨g, 0, none⟩ : Addr).add j) = some u := by
  intro j u hj
  rcases j with _ | _ | j
  · obtain rfl := Option.some.inj hj; exact h.cell 0
  · obtain rfl := Option.some.inj hj; exact h.cell 1
  · simp at hj
theorem yields_gotIbW {ops : Array Oper} {w0 : World} {o : Oper} {a : Act} {x : Operand} {g : Nat} {t : TypeId} {i : Ib} {A : Option Addr} {n c : Nat} {C : Option Addr} {m d : Nat} {er : Int} (hw : Region.wanted o (yielded ops a.tmps) = true) (ho : o.op = .load 47 x) (ha : a.eval x = .pointer (some ⟨g, 0, none⟩))
    (hb : Blk w0 g t (gotC i A n c C m d er)) : YieldsIf Try.prog ops (Below w0.heap.size w0) o (ibV i A n c) a :=
  yields_loadKW (us := [.int .i64 i.next, .slice A n c]) hw ho ha aggIb sizeIb hb.gotIb
theorem yields_ibW {ops : Array Oper} {w0 : World} {o : Oper} {a : Act} {x : Operand} {g : Nat} {t : TypeId} {i : Ib} {A : Option Addr} {n c : Nat} (hw : Region.wanted o (yielded ops a.tmps) = true) (ho : o.op = .load 47 x) (ha : a.eval x = .pointer (some ⟨g, 0, none⟩))
    (hb : Blk w0 g t (ibC i A n c)) : YieldsIf Try.prog ops (Below w0.heap.size w0) o (ibV i A n c) a :=
  yields_blkW hw ho ha aggIb sizeIb hb
set_option maxRecDepth 100000 in
set_option maxHeartbeats 8000000 in
theorem walkLinkReceivesAsSpecified (i : Ib) (A : Option Addr) (n c : Nat) (f : Fr) (w : World) (hr : RdI w i A n c) (hi : WfI i) (hf : WfF f) :
    Calls Try.prog 5 #[ibV i A n c, frV f] w fun e w' => e = .returned (.bool true) ∧ Below w.heap.size w w' := by
  have HS := Lib.hid (fun W => sanity_any W)
  have hbs : f.body.size ≤ 9223372036854775807 := by have := hf.body; unfold maxLen at this; omega
  obtain ⟨wa, hwa, hb0, q0, q1⟩ : ∃ wa : World, wa = (w.alloc (.cells (ibC i A n c) 47)).alloc (.cells (frC f) 49) ∧ Below w.heap.size w wa ∧ Blk wa w.heap.size 47 (ibC i A n c) ∧ Blk wa (w.heap.size + 1) 49 (frC f) :=
    ⟨_, rfl, ((Below.refl w.heap.size w).alloc (Nat.le_refl _) _).alloc (by simp) _, (Blk.new _ _ _).alloc _, Blk.new2 _ _ _ _⟩
  have HWA := Lib.hid hwa
  clear hwa
  have HL := Lib.hid hr.rd.len
  have HR := Lib.hid hr
  have hnc := hr.nc
  have hcm : c ≤ 9223372036854775807 := hr.cm
  obtain ⟨c0, c1⟩ := q0.ib
  obtain ⟨e0, e1, e2⟩ := q1.fr
  by_cases h1 : 70 < n
  · have d1 : decide ((70 : Int) < n) = true := by simp; omega
    clear h1
    go_enter Try.func5, Try.ntmps5
    go_upto_region 1 with (fail)
    change Code.wp _ _ _ _ ((w.alloc (.cells (ibC i A n c) 47)).alloc (.cells (frC f) 49))
    rw [← HWA.out]
    go_wp2_with fail
    refine (HS.out _).mono ?_
    rintro e w9 ⟨rfl, hb⟩
    go_wp2_with fail
    go_ret
    exact ⟨rfl, bstep hb0 hb⟩
  have d1 : decide ((70 : Int) < n) = false := by simp; omega
  by_cases h2 : 100 < f.body.size
  · have d2 : decide ((100 : Int) < f.body.size) = true := by simp; omega
    clear h1 h2
    go_enter Try.func5, Try.ntmps5
    go_upto_region 1 with (fail)
    change Code.wp _ _ _ _ ((w.alloc (.cells (ibC i A n c) 47)).alloc (.cells (frC f) 49))
    rw [← HWA.out]
    go_wp2_with fail
    refine (HS.out _).mono ?_
    rintro e w9 ⟨rfl, hb⟩
    go_wp2_with fail
    go_ret
    exact ⟨rfl, bstep hb0 hb⟩
  have d2 : decide ((100 : Int) < f.body.size) = false := by simp; omega
  have hn : n ≤ 70 := by omega
  have HV1 := Lib.hid (fun W (h : RdI W i A n c) => validIn_any i A n c W (by omega) h.rd hi)
  have HV2 := Lib.hid (fun W (h : RdI W i A n c) => refValidIn_any i A n c W (by omega) h.rd hi)
  have HRc := Lib.hid (fun W (h : RdI W i A n c) => recv_any i A n c f W (by omega) h hi hf)
  have HGo := Lib.hid (fun W (h : RdI W i A n c) => refRecv_any i A n c f W (by omega) h hi hf)
  have HRs := Lib.hid (fun W => restart_any i A n c W)
  have hlens := recvI_lens i f
  rw [HL.out] at hlens
  have HWI := Lib.hid hi
  generalize recvI i f = R at *
  generalize validIn i = V at *
  obtain ⟨r1, r2, r3⟩ := R
  dsimp only at *
  have HLE := Lib.hid hlens
  clear h1 h2 hlens hi hf
  go_enter Try.func5, Try.ntmps5
  go_upto_region 1 with (fail)
  change Code.wp _ _ _ _ ((w.alloc (.cells (ibC i A n c) 47)).alloc (.cells (frC f) 49))
  rw [← HWA.out]
  go_wp2_with fail
  go_loopw [5] (fun vj wr => ∃ k : Nat, k ≤ n ∧ vj = .int .i64 k ∧ Below wa.heap.size wa wr) (fun vj _ => n - (intOf vj).toNat)
  case atStart => exact ⟨0, Nat.zero_le _, rfl, Below.refl _ _⟩
  case round =>
    obtain ⟨k, hk, rfl, hbw⟩ := hrel
    replace q0 := q0.below hbw
    replace q1 := q1.below hbw
    replace hb0 := bstep hb0 hbw
    clear c0 c1 e0 e1 e2
    obtain ⟨c0, c1⟩ := q0.ib
    by_cases hlt : k < n
    · have hkl : k < i.ahead.length := by have := HL.out; omega
      obtain ⟨ad, rfl, -, -, s2⟩ := (HR.out.below hb0).rd.three hkl
      replace s2 : wr.cell? ⟨(ad.add (k * 3)).block, (ad.add (k * 3)).off + 2, none⟩ = some (.string i.ahead[k].body) := s2
      have hsz : i.ahead[k].body.size ≤ 9223372036854775807 := by have := (HWI.out.ahead _ (List.getElem_mem hkl)).body; unfold maxLen at this; omega
      generalize i.ahead[k] = x at *
      by_cases h3 : 100 < x.body.size
      · have d3 : decide ((100 : Int) < x.body.size) = true := by simp; omega
        clear h3
        go_wp2_with fail
        refine (HS.out _).mono ?_
        rintro e w9 ⟨rfl, hb⟩
        go_wp2_with fail
        go_ret
        exact ⟨rfl, bstep hb0 hb⟩
      · have d3 : decide ((100 : Int) < x.body.size) = false := by simp; omega
        clear h3
        go_wp2_with fail
        exact ⟨⟨k + 1, by omega, by go_num, hbw⟩, by simp [intOf]; omega⟩
    · obtain rfl : k = n := by omega
      clear hbw
      go_wp2_with (first
        | ((with_reducible show wpList _ _ _ _ _ _); refine wpList_loadRow rfl rfl rfl q0 aggIb sizeIb ?_)
        | ((with_reducible show wpList _ _ _ _ _ _); refine wpList_loadRow rfl rfl rfl q1 aggFr sizeFr ?_))
      refine (HRc.out _ (HR.out.below hb0)).mono ?_
      rintro e w5 ⟨A5, n5, c5, v5, rfl, rI5, hown5, hb, -⟩
      obtain ⟨B5, d5, rfl, rX5, -⟩ := own_rdF hown5
      clear hown5
      replace q0 := q0.below hb
      replace q1 := q1.below hb
      replace hb0 := bstep hb0 hb
      clear hb
      go_upto_region 9 with (first
        | ((with_reducible show wpList _ _ _ _ _ _); refine wpList_new (cs := ibC iz none 0 0) rfl rfl (fun w => by kernel_rfl) ?_; intro y6 g6 hg6 p6 hb2 lt6; have HG6 := Lib.hid hg6; clear hg6)
        | ((with_reducible show wpList _ _ _ _ _ _); refine wpList_putIb (k := r1) rfl rfl rfl rfl p6 rfl ?_; intro w6 ht b6))
      have hb : Below w5.heap.size w5 w6 := hb2.trans (ht.below _ (by have := HG6.out; omega))
      replace q0 := q0.below hb
      replace q1 := q1.below hb
      replace rI5 := rI5.below hb
      replace rX5 := rX5.below hb
      replace hb0 := bstep hb0 hb
      clear hb
      clear hb2 ht p6 HG6 lt6
      go_wp2_with ((with_reducible show wpList _ _ _ _ _ _); refine wpList_loadRow rfl rfl rfl q0 aggIb sizeIb ?_)
      refine (HRs.out _).mono ?_
      rintro e w7 ⟨rfl, hb⟩
      replace q0 := q0.below hb
      replace q1 := q1.below hb
      replace rI5 := rI5.below hb
      replace rX5 := rX5.below hb
      replace b6 := b6.below hb
      replace hb0 := bstep hb0 hb
      clear hb
      go_upto_region 10 with (first
        | ((with_reducible show wpList _ _ _ _ _ _); refine wpList_new (cs := ibC iz none 0 0) rfl rfl (fun w => by kernel_rfl) ?_; intro y9 g9 hg9 p9 hb2 lt9; have HG9 := Lib.hid hg9; clear hg9)
        | ((with_reducible show wpList _ _ _ _ _ _); refine wpList_putIb (k := ⟨i.next, []⟩) rfl rfl rfl rfl p9 rfl ?_; intro w8 ht b9))
      have hb : Below w7.heap.size w7 w8 := hb2.trans (ht.below _ (by have := HG9.out; omega))
      replace q0 := q0.below hb
      replace q1 := q1.below hb
      replace rI5 := rI5.below hb
      replace rX5 := rX5.below hb
      replace b6 := b6.below hb
      replace hb0 := bstep hb0 hb
      clear hb
      clear hb2 ht p9 HG9 lt9
      go_wp2_with (first
        | ((with_reducible show wpList _ _ _ _ _ _); refine wpList_loadRow rfl rfl rfl q0 aggIb sizeIb ?_)
        | ((with_reducible show wpList _ _ _ _ _ _); refine wpList_loadRow rfl rfl rfl q1 aggFr sizeFr ?_))
      refine (HGo.out _ (HR.out.below hb0)).mono ?_
      rintro e wg ⟨A6, n6, c6, B6, m6, d6, rfl, rI6, rX6, hb⟩
      dsimp only
      replace q0 := q0.below hb
      replace q1 := q1.below hb
      replace rI5 := rI5.below hb
      replace rX5 := rX5.below hb
      replace b6 := b6.below hb
      replace b9 := b9.below hb
      replace hb0 := bstep hb0 hb
      clear hb
      go_upto_region 11 with (first
        | ((with_reducible show wpList _ _ _ _ _ _); refine wpList_new (cs := gotC iz none 0 0 none 0 0 0) rfl rfl (fun w => by kernel_rfl) ?_; intro y10 g10 hg10 p10 hb2 lt10; have HG10 := Lib.hid hg10; clear hg10)
        | ((with_reducible show wpList _ _ _ _ _ _); refine wpList_putGot (k := r1) (er := r3) rfl rfl rfl rfl p10 rfl ?_; intro wh ht b10))
      have hb : Below wg.heap.size wg wh := hb2.trans (ht.below _ (by have := HG10.out; omega))
      replace q0 := q0.below hb
      replace q1 := q1.below hb
      replace rI5 := rI5.below hb
      replace rX5 := rX5.below hb
      replace b6 := b6.below hb
      replace b9 := b9.below hb
      replace rI6 := rI6.below hb
      replace rX6 := rX6.below hb
      replace hb0 := bstep hb0 hb
      clear hb
      clear hb2 ht p10 HG10 lt10
      clear HRc HGo HRs
      have hle := HLE.out
      have e6 : n5 = n6 := rI5.rd.len.symm.trans rI6.rd.len
      subst e6
      have em : r2.length = m6 := rX6.len
      subst em
      have hn5 := rI5.rd.len
      have dv : (V == V) = true := by simp
      have HB1 := Lib.hid (fun W ha hb => sameIn_any r1 A5 n5 c5 r1 A6 n5 c6 W ha hb (by omega) (by omega))
      have HB2 := Lib.hid (fun W (ha : RdF W B5 r2.length r2) (hb : RdF W B6 r2.length r2) => same_any r2 B5 r2.length d5 B6 r2.length d6 W ha hb (by omega) (by omega))
      rw [sameIB_self] at HB1
      clear hle hn5
      obtain ⟨c0, -⟩ := q0.ib
      obtain ⟨n90, n91⟩ := b9.ib
      have b10l := b10.cell 2
      have b10e := b10.cell 3
      simp only [List.getElem?_toArray, List.getElem?_cons_zero, List.getElem?_cons_succ] at b10l b10e
      have hS0 : Below wh.heap.size wh wh.drew := (Below.refl _ wh).drew
      have hRX := HR.out.below hb0
      clear HR
      refine wp_region_T 39 (by kernel_rfl) ?_
      -- region 11: 40 operations, tail from 39
      refine WpT.one (i := 0) rfl (by kernel_rfl) (fun K hK => ?_)
      go_simp; refine (HS.out _).mono ?_; rintro e w20 ⟨rfl, hbs0⟩; have hS1 := bstep hS0 hbs0
      refine hK _ _ (hS1) ?_; clear hK K; try simp only [Act.put, List.setIfInBounds_toArray, List.set_cons_zero, List.set_cons_succ]
      refine WpT.take (i := 1) rfl (by kernel_rfl) (fun _ _ _ h => h) (.inl ⟨by rfl, fun w hSw => by clear hSw; go_simp; (try go_bits); (try rw [if_pos (by omega)]); (try with_reducible rfl)⟩) (hS1) ?_
      try simp only [Act.put, List.setIfInBounds_toArray, List.set_cons_zero, List.set_cons_succ]
      refine WpT.take (i := 2) rfl (by kernel_rfl) (fun _ _ _ h => h) (yields_ibW (by rfl) rfl rfl q0) (hS1) ?_
      try simp only [Act.put, List.setIfInBounds_toArray, List.set_cons_zero, List.set_cons_succ]
      refine WpT.take (i := 4) rfl (by kernel_rfl) (fun _ _ _ h => h) (yields_ibW (by rfl) rfl rfl q0) (hS1) ?_
      try simp only [Act.put, List.setIfInBounds_toArray, List.set_cons_zero, List.set_cons_succ]
      refine WpT.one (i := 3) rfl (by kernel_rfl) (fun K hK => ?_)
      go_simp; refine (HV1.out _ (hRX.below hS1)).mono ?_; rintro e w3 ⟨rfl, hb3⟩; have hS3 := bstep hS1 hb3
      refine hK _ _ (hS3) ?_; clear hK K; try simp only [Act.put, List.setIfInBounds_toArray, List.set_cons_zero, List.set_cons_succ]
      refine WpT.one (i := 5) rfl (by kernel_rfl) (fun K hK => ?_)
      go_simp; refine (HV2.out _ (hRX.below hS3)).mono ?_; rintro e w4 ⟨rfl, hb4⟩; have hS4 := bstep hS3 hb4
      refine hK _ _ (hS4) ?_; clear hK K; try simp only [Act.put, List.setIfInBounds_toArray, List.set_cons_zero, List.set_cons_succ]
      refine WpT.take (i := 6) rfl (by kernel_rfl) (fun _ _ _ h => h) (.inl ⟨by rfl, fun w hSw => by clear hSw; go_simp; (try go_bits); (try rw [if_pos (by omega)]); (try with_reducible rfl)⟩) (hS4) ?_
      try simp only [Act.put, List.setIfInBounds_toArray, List.set_cons_zero, List.set_cons_succ]
      refine WpT.take (i := 7) rfl (by kernel_rfl) (fun _ _ _ h => h) (.inl ⟨by rfl, fun w hSw => by clear hSw; go_simp; (try go_bits); (try rw [if_pos (by omega)]); (try with_reducible rfl)⟩) (hS4) ?_
      try simp only [Act.put, List.setIfInBounds_toArray, List.set_cons_zero, List.set_cons_succ]
      refine WpT.take (i := 8) rfl (by kernel_rfl) (fun _ _ _ h => h) (.inl ⟨by rfl, fun w hSw => by clear hSw; go_simp; (try go_bits); (try rw [if_pos (by omega)]); (try with_reducible rfl)⟩) (hS4) ?_
      try simp only [Act.put, List.setIfInBounds_toArray, List.set_cons_zero, List.set_cons_succ]
      refine WpT.take (i := 9) rfl (by kernel_rfl) (fun _ _ _ h => h) (yields_ibW (by rfl) rfl rfl b6) (hS4) ?_
      try simp only [Act.put, List.setIfInBounds_toArray, List.set_cons_zero, List.set_cons_succ]
      refine WpT.take (i := 10) rfl (by kernel_rfl) (fun _ _ _ h => h) (.inl ⟨by rfl, fun w hSw => by clear hSw; go_simp; (try go_bits); (try rw [if_pos (by omega)]); (try with_reducible rfl)⟩) (hS4) ?_
      try simp only [Act.put, List.setIfInBounds_toArray, List.set_cons_zero, List.set_cons_succ]
      refine WpT.take (i := 11) rfl (by kernel_rfl) (fun _ _ _ h => h) (yields_gotIbW (by rfl) rfl rfl b10) (hS4) ?_
      try simp only [Act.put, List.setIfInBounds_toArray, List.set_cons_zero, List.set_cons_succ]
      refine WpT.one (i := 12) rfl (by kernel_rfl) (fun K hK => ?_)
      go_simp; refine (HB1.out _ (rI5.below hS4).rd (rI6.below hS4).rd).mono ?_; rintro e w51 ⟨rfl, hb51⟩; have hS5 := bstep hS4 hb51
      refine hK _ _ (hS5) ?_; clear hK K; try simp only [Act.put, List.setIfInBounds_toArray, List.set_cons_zero, List.set_cons_succ]
      refine WpT.take (i := 13) rfl (by kernel_rfl) (fun _ _ _ h => h) (.inl ⟨by rfl, fun w hSw => by clear hSw; go_simp; (try go_bits); (try rw [if_pos (by omega)]); (try with_reducible rfl)⟩) (hS5) ?_
      try simp only [Act.put, List.setIfInBounds_toArray, List.set_cons_zero, List.set_cons_succ]
      refine WpT.take (i := 14) rfl (by kernel_rfl) (fun _ _ _ h => h) (.inl ⟨by rfl, fun w hSw => by clear hSw; go_simp; (try go_bits); (try rw [if_pos (by omega)]); (try with_reducible rfl)⟩) (hS5) ?_
      try simp only [Act.put, List.setIfInBounds_toArray, List.set_cons_zero, List.set_cons_succ]
      refine WpT.take (i := 15) rfl (by kernel_rfl) (fun _ _ _ h => h) (.inl ⟨by rfl, fun w hSw => by clear hSw; go_simp; (try go_bits); (try rw [if_pos (by omega)]); (try with_reducible rfl)⟩) (hS5) ?_
      try simp only [Act.put, List.setIfInBounds_toArray, List.set_cons_zero, List.set_cons_succ]
      refine WpT.take (i := 16) rfl (by kernel_rfl) (fun _ _ _ h => h) (.inl ⟨by rfl, fun w hSw => by clear hSw; go_simp; (try go_bits); (try rw [if_pos (by omega)]); (try with_reducible rfl)⟩) (hS5) ?_
      try simp only [Act.put, List.setIfInBounds_toArray, List.set_cons_zero, List.set_cons_succ]
      refine WpT.take (i := 17) rfl (by kernel_rfl) (fun _ _ _ h => h) (yields_loadW (by rfl) rfl rfl (by kernel_rfl) b10l) (hS5) ?_
      try simp only [Act.put, List.setIfInBounds_toArray, List.set_cons_zero, List.set_cons_succ]
      refine WpT.one (i := 18) rfl (by kernel_rfl) (fun K hK => ?_)
      go_simp; refine (HB2.out _ (rX5.below hS5) (rX6.below hS5)).mono ?_; rintro e w61 ⟨rfl, hb61⟩; have hS6 := bstep hS5 hb61
      refine hK _ _ (hS6) ?_; clear hK K; try simp only [Act.put, List.setIfInBounds_toArray, List.set_cons_zero, List.set_cons_succ]
      refine WpT.take (i := 19) rfl (by kernel_rfl) (fun _ _ _ h => h) (.inl ⟨by rfl, fun w hSw => by clear hSw; go_simp; (try go_bits); (try rw [if_pos (by omega)]); (try with_reducible rfl)⟩) (hS6) ?_
      try simp only [Act.put, List.setIfInBounds_toArray, List.set_cons_zero, List.set_cons_succ]
      refine WpT.take (i := 20) rfl (by kernel_rfl) (fun _ _ _ h => h) (.inl ⟨by rfl, fun w hSw => by clear hSw; go_simp; (try go_bits); (try rw [if_pos (by omega)]); (try with_reducible rfl)⟩) (hS6) ?_
      try simp only [Act.put, List.setIfInBounds_toArray, List.set_cons_zero, List.set_cons_succ]
      refine WpT.take (i := 21) rfl (by kernel_rfl) (fun _ _ _ h => h) (.inl ⟨by rfl, fun w hSw => by clear hSw; go_simp; (try go_bits); (try rw [if_pos (by omega)]); (try with_reducible rfl)⟩) (hS6) ?_
      try simp only [Act.put, List.setIfInBounds_toArray, List.set_cons_zero, List.set_cons_succ]
      refine WpT.take (i := 22) rfl (by kernel_rfl) (fun _ _ _ h => h) (.inl ⟨by rfl, fun w hSw => by clear hSw; go_simp; (try go_bits); (try rw [if_pos (by omega)]); (try with_reducible rfl)⟩) (hS6) ?_
      try simp only [Act.put, List.setIfInBounds_toArray, List.set_cons_zero, List.set_cons_succ]
      refine WpT.take (i := 23) rfl (by kernel_rfl) (fun _ _ _ h => h) (yields_loadW (by rfl) rfl rfl (by kernel_rfl) b10e) (hS6) ?_
      try simp only [Act.put, List.setIfInBounds_toArray, List.set_cons_zero, List.set_cons_succ]
      refine WpT.take (i := 24) rfl (by kernel_rfl) (fun _ _ _ h => h) (.inl ⟨by rfl, fun w hSw => by clear hSw; go_simp; (try go_bits); (try rw [if_pos (by omega)]); (try with_reducible rfl)⟩) (hS6) ?_
      try simp only [Act.put, List.setIfInBounds_toArray, List.set_cons_zero, List.set_cons_succ]
      refine WpT.take (i := 25) rfl (by kernel_rfl) (fun _ _ _ h => h) (.inl ⟨by rfl, fun w hSw => by clear hSw; go_simp; (try go_bits); (try rw [if_pos (by omega)]); (try with_reducible rfl)⟩) (hS6) ?_
      try simp only [Act.put, List.setIfInBounds_toArray, List.set_cons_zero, List.set_cons_succ]
      refine WpT.take (i := 26) rfl (by kernel_rfl) (fun _ _ _ h => h) (.inl ⟨by rfl, fun w hSw => by clear hSw; go_simp; (try go_bits); (try rw [if_pos (by omega)]); (try with_reducible rfl)⟩) (hS6) ?_
      try simp only [Act.put, List.setIfInBounds_toArray, List.set_cons_zero, List.set_cons_succ]
      refine WpT.take (i := 27) rfl (by kernel_rfl) (fun _ _ _ h => h) (.inl ⟨by rfl, fun w hSw => by clear hSw; go_simp; (try go_bits); (try rw [if_pos (by omega)]); (try with_reducible rfl)⟩) (hS6) ?_
      try simp only [Act.put, List.setIfInBounds_toArray, List.set_cons_zero, List.set_cons_succ]
      refine WpT.take (i := 28) rfl (by kernel_rfl) (fun _ _ _ h => h) (yields_loadW (by rfl) rfl rfl (by kernel_rfl) n90) (hS6) ?_
      try simp only [Act.put, List.setIfInBounds_toArray, List.set_cons_zero, List.set_cons_succ]
      refine WpT.take (i := 29) rfl (by kernel_rfl) (fun _ _ _ h => h) (.inl ⟨by rfl, fun w hSw => by clear hSw; go_simp; (try go_bits); (try rw [if_pos (by omega)]); (try with_reducible rfl)⟩) (hS6) ?_
      try simp only [Act.put, List.setIfInBounds_toArray, List.set_cons_zero, List.set_cons_succ]
      refine WpT.take (i := 30) rfl (by kernel_rfl) (fun _ _ _ h => h) (yields_loadW (by rfl) rfl rfl (by kernel_rfl) c0) (hS6) ?_
      try simp only [Act.put, List.setIfInBounds_toArray, List.set_cons_zero, List.set_cons_succ]
      refine WpT.take (i := 31) rfl (by kernel_rfl) (fun _ _ _ h => h) (.inl ⟨by rfl, fun w hSw => by clear hSw; go_simp; (try go_bits); (try rw [if_pos (by omega)]); (try with_reducible rfl)⟩) (hS6) ?_
      try simp only [Act.put, List.setIfInBounds_toArray, List.set_cons_zero, List.set_cons_succ]
      refine WpT.take (i := 32) rfl (by kernel_rfl) (fun _ _ _ h => h) (.inl ⟨by rfl, fun w hSw => by clear hSw; go_simp; (try go_bits); (try rw [if_pos (by omega)]); (try with_reducible rfl)⟩) (hS6) ?_
      try simp only [Act.put, List.setIfInBounds_toArray, List.set_cons_zero, List.set_cons_succ]
      refine WpT.take (i := 33) rfl (by kernel_rfl) (fun _ _ _ h => h) (.inl ⟨by rfl, fun w hSw => by clear hSw; go_simp; (try go_bits); (try rw [if_pos (by omega)]); (try with_reducible rfl)⟩) (hS6) ?_
      try simp only [Act.put, List.setIfInBounds_toArray, List.set_cons_zero, List.set_cons_succ]
      refine WpT.take (i := 34) rfl (by kernel_rfl) (fun _ _ _ h => h) (.inl ⟨by rfl, fun w hSw => by clear hSw; go_simp; (try go_bits); (try rw [if_pos (by omega)]); (try with_reducible rfl)⟩) (hS6) ?_
      try simp only [Act.put, List.setIfInBounds_toArray, List.set_cons_zero, List.set_cons_succ]
      refine WpT.take (i := 35) rfl (by kernel_rfl) (fun _ _ _ h => h) (yields_loadW (by rfl) rfl rfl (by kernel_rfl) n91) (hS6) ?_
      try simp only [Act.put, List.setIfInBounds_toArray, List.set_cons_zero, List.set_cons_succ]
      refine WpT.take (i := 36) rfl (by kernel_rfl) (fun _ _ _ h => h) (.inl ⟨by rfl, fun w hSw => by clear hSw; go_simp; (try go_bits); (try rw [if_pos (by omega)]); (try with_reducible rfl)⟩) (hS6) ?_
      try simp only [Act.put, List.setIfInBounds_toArray, List.set_cons_zero, List.set_cons_succ]
      refine WpT.take (i := 37) rfl (by kernel_rfl) (fun _ _ _ h => h) (.inl ⟨by rfl, fun w hSw => by clear hSw; go_simp; (try go_bits); (try rw [if_pos (by omega)]); (try with_reducible rfl)⟩) (hS6) ?_
      try simp only [Act.put, List.setIfInBounds_toArray, List.set_cons_zero, List.set_cons_succ]
      refine WpT.take (i := 38) rfl (by kernel_rfl) (fun _ _ _ h => h) (.inl ⟨by rfl, fun w hSw => by clear hSw; go_simp; (try go_bits); (try rw [if_pos (by omega)]); (try with_reducible rfl)⟩) (hS6) ?_
      try simp only [Act.put, List.setIfInBounds_toArray, List.set_cons_zero, List.set_cons_succ]
      refine WpT.tail (i := 39) rfl (by kernel_rfl) (by kernel_rfl) (fun K hK => ?_)
      go_simp; (try go_bits)
      refine hK _ _ ?_; clear hK K; try simp only [Act.put, List.setIfInBounds_toArray, List.set_cons_zero, List.set_cons_succ]
      refine WpT.done (by kernel_rfl) ?_ _
      go_wp2_with fail
      go_ret
      exact ⟨rfl, bstep hb0 hS6⟩
end Go.Proofs.Ytecklplohgfohaa
