/-
  The law LinkCatchesUp, walked. Conditions: none.
-/
import Derived.Test.YtecklplohgfohaaCa
import Derived.Test.YtecklplohgfohaaAo
import Derived.Test.YtecklplohgfohaaOr
import Derived.Test.YtecklplohgfohaaSl
namespace Go.Proofs.Ytecklplohgfohaa
set_option linter.unusedSimpArgs false
set_option linter.unusedVariables false
open Go.RowKit Link
set_option maxRecDepth 100000 in
set_option maxHeartbeats 16000000 in
theorem walkLinkCatchesUp (A : Option Addr) (n c : Nat) (l : List (Nat × Nat)) (W : World) (hnc : n ≤ c ∧ c ≤ maxLen) (hr : RdA W A n l) (hl : ∀ a ∈ l, a.1 < 256 ∧ a.2 < 256) :
    Calls Try.prog 7 #[.slice A n c] W fun e W' => e = .returned (.bool true) ∧ Below W.heap.size W W' := by
  have HS := Lib.hid (fun W => sanity_any W)
  have hcm : c ≤ 9223372036854775807 := hnc.2
  have hn9 : n ≤ 9223372036854775807 := Nat.le_trans hnc.1 hcm
  have HL := Lib.hid hr.len
  have HR := Lib.hid hr
  have HA := Lib.hid hl
  clear hr hl hnc
  by_cases h1 : 100 < n
  · have d1 : decide ((100 : Int) < n) = true := by simp; omega
    clear h1
    go_enter Try.func7, Try.ntmps7
    go_wp2_with fail
    refine (HS.out _).mono ?_
    rintro e w9 ⟨rfl, hb⟩
    go_wp2_with fail
    go_ret
    exact ⟨rfl, hb⟩
  have d1 : decide ((100 : Int) < n) = false := by simp; omega
  go_enter Try.func7, Try.ntmps7
  go_wp2_with ((with_reducible show wpList _ _ _ _ _ _); refine wpList_new (cs := lnC oz iz sl0 sl0 sl0 sl0 sl0 false) rfl rfl zeroLn ?_; intro w0 g hg q0 hb0 lt0; have HG := Lib.hid hg; clear hg)
  have hg : W.heap.size ≤ g := by have := HG.out; omega
  clear HG
  go_loopw [4] (fun vi wr => ∃ (k : Nat) (w : Line) (q h s t d : Sl), k ≤ n ∧ vi = .int .i64 k ∧ Blk wr g 62 (lnC w.o w.i q h s t d false) ∧ Hid (LnAt wr w q h s t d) ∧ Hid (LnUnder wr.heap.size q h s t d) ∧ Hid (LnAway g q h s t d) ∧ Hid (Link.Inv w k) ∧ Hid (Lens w k) ∧ Hid (DlOwn W.heap.size wr w q h s t d) ∧ Below W.heap.size W wr) (fun vi _ => n - (intOf vi).toNat)
  case atStart => exact ⟨0, lz, sl0, sl0, sl0, sl0, sl0, Nat.zero_le _, rfl, q0, Lib.hid LnAt.zero, Lib.hid (LnUnder.zero _), Lib.hid (LnAway.zero _), Lib.hid inv_lz, Lib.hid lens_lz, Lib.hid (dlOwn_lz _ _), hb0⟩
  case round =>
    clear q0 hb0 lt0
    obtain ⟨k, w, q, h, s, t, d, hk, rfl, q0, LA, LU, LW, IV, LE, DO, hbx⟩ := hrel
    by_cases hlt : k < n
    · have hkl : k < l.length := by have := HL.out; omega
      obtain ⟨ad, rfl, hc⟩ := (HR.out.below hbx).elem hkl
      have hac := HA.out _ (List.getElem_mem hkl)
      generalize l[k] = a at *
      obtain ⟨x, y⟩ := a
      have hs1 : s.n ≤ 100000 := by have := LA.out.rs.len; have := LE.out.s; omega
      have ht1 : t.n ≤ 100000 := by have := LA.out.tl; have := LE.out.t; omega
      have hd1 : d.n ≤ 100000 := by have := LA.out.rd.len; have := LE.out.d; omega
      have HAC := Lib.hid (fun W hL hU => act_any w q h s t d k x y W hL hU IV.out (by omega) hs1 ht1 hd1 hac.1 hac.2)
      have IV2 := Lib.hid (act_inv (a := (x, y)) IV.out (by omega))
      have LE2 := Lib.hid (act_lens (a := (x, y)) LE.out IV.out)
      generalize actL w (x, y) = w2 at *
      have hlt0 := q0.lt
      clear hac hs1 ht1 hd1
      go_upto_region 7 with fail
      have hS : Below wr.heap.size wr wr.drew := (Below.refl _ wr).drew
      refine wp_region_TB (S := Below (wr).heap.size (wr)) 6 (by kernel_rfl) ?_
      -- region 7: 7 operations, tail from 6
      refine WpT.take (i := 0) rfl (by kernel_rfl) (fun _ _ _ h => h) (yields_blk rfl rfl rfl (by kernel_rfl) (by kernel_rfl) q0) (hS) ?_
      try simp only [Act.put, List.setIfInBounds_toArray, List.set_cons_zero, List.set_cons_succ]
      refine WpT.take (i := 1) rfl (by kernel_rfl) (fun _ _ _ h => h) (.inl ⟨by rfl, fun w hSw => by clear hSw; go_simp; (try go_bits); (try rw [if_pos (by omega)]); (try with_reducible rfl)⟩) (hS) ?_
      try simp only [Act.put, List.setIfInBounds_toArray, List.set_cons_zero, List.set_cons_succ]
      refine WpT.take (i := 2) rfl (by kernel_rfl) (fun _ _ _ h => h) (.inl ⟨by rfl, fun w hSw => by clear hSw; go_simp; (try go_bits); (try rw [if_pos (by omega)]); (try with_reducible rfl)⟩) (hS) ?_
      try simp only [Act.put, List.setIfInBounds_toArray, List.set_cons_zero, List.set_cons_succ]
      refine WpT.take (i := 3) rfl (by kernel_rfl) (fun _ _ _ h => h) (.inl ⟨by rfl, fun w hSw => by clear hSw; go_simp; (try go_bits); (try rw [if_pos (by omega)]); (try with_reducible rfl)⟩) (hS) ?_
      try simp only [Act.put, List.setIfInBounds_toArray, List.set_cons_zero, List.set_cons_succ]
      refine WpT.take (i := 4) rfl (by kernel_rfl) (fun _ _ _ h => h) (yields_loadK (us := acV (x, y)) rfl rfl rfl aggAc sizeAc hc) (hS) ?_
      try simp only [Act.put, List.setIfInBounds_toArray, List.set_cons_zero, List.set_cons_succ]
      refine WpT.one (i := 5) rfl (by kernel_rfl) (fun K hK => ?_)
      go_simp; refine (HAC.out _ (LA.out.below hS) (LU.out.le hS.size)).mono ?_; rintro e w4 ⟨q', h', s', t', d', rfl, L2, hb4, ka, hD⟩; have LW2 := Lib.hid (ka.away (Nat.lt_of_lt_of_le hlt0 hS.size) LW.out); have LU2 := Lib.hid (ka.under hb4.size (LU.out.le hS.size)); have DO2 := Lib.hid (DlIs.step (DO.out.below hS) hD ka hb4 (by have := hbx.size; have := hS.size; omega)); clear ka hD; replace hS := bstep hS hb4
      refine hK _ _ (hS) ?_; clear hK K; try simp only [Act.put, List.setIfInBounds_toArray, List.set_cons_zero, List.set_cons_succ]
      refine WpT.tail (i := 6) rfl (by kernel_rfl) (by kernel_rfl) (fun K hK => ?_)
      refine wp_put (vs := lnC w2.o w2.i q' h' s' t' d' false) rfl (by rfl) (by rfl) (q0.below hS) rfl (by kernel_rfl) (one_lnC _ _ _ _ _ _ _ _) ?_; intro w13 ht13 b13
      refine hK _ _ ?_; clear hK K; try simp only [Act.put, List.setIfInBounds_toArray, List.set_cons_zero, List.set_cons_succ]
      refine WpT.done (by kernel_rfl) ?_ _
      have L3 := Lib.hid (L2.turned ht13 LW2.out)
      have U3 := Lib.hid (show LnUnder w13.heap.size q' h' s' t' d' from by rw [ht13.size]; exact LU2.out)
      have D3 := Lib.hid (DO2.out.turned ht13 (fun e => own_off LW2.out.d e))
      replace hbx := (bstep hbx hS).trans (ht13.below _ hg)
      clear L2 LU2 HAC LA LU LW IV LE DO DO2 hS hb4 hc q0 ht13
      go_wp2_with fail
      exact ⟨⟨k + 1, w2, q', h', s', t', d', by omega, by go_num, b13, L3, U3, LW2, IV2, LE2, D3, hbx⟩, by simp [intOf]; omega⟩
    · obtain rfl : k = n := by omega
      have hk1 : k ≤ 100 := by omega
      have HFA := Lib.hid (frames_all IV.out hk1)
      have HF := Lib.hid (fun W hL => frames_any w.o q.A q.n q.c 1000 W hL (inv_wfO IV.out (by omega)))
      rw [HFA.out.1] at HF
      have HGD := Lib.hid IV.out.o.good
      have HFN := Lib.hid (fun i' got (x : Cat w (framesAll w.o) (framesAll w.o).length i' got) => x.fin IV.out hk1)
      have hC0 := Cat.start IV.out (framesAll w.o)
      have hFl := HFA.out.2
      generalize framesAll w.o = F at *
      have hfk : w.o.fin ≤ 100 := by have := IV.out.o.fk; omega
      have hb9 := IV.out.o.b0
      have hqn := LA.out.o.len
      have hfin : w.o.fin = w.o.base + (q.n : Int) := by unfold Ob.fin; rw [hqn]
      have hdl : d.n ≤ 6500 := by have := LA.out.rd.len; have := LE.out.d; omega
      have HDL := Lib.hid LA.out.rd.len
      go_upto_region 9 with ((with_reducible show wpList _ _ _ _ _ _); refine wpList_lnLoadO rfl rfl rfl q0 ?_)
      refine (HF.out _ LA.out.o).mono ?_
      rintro e w3 ⟨v3, rfl, hown3, hb⟩
      obtain ⟨A3, e3, rfl, h31, h32, hr3⟩ := hown3.form
      have hAw3 : ∀ g', g' < wr.heap.size → Away A3 g' := fun g' hg' => own_away hown3 hg'
      have hUn3 := own_under hown3
      have DA := DO.out
      have hOD : w3.ownsRow W.heap.size 49 3 (.slice d.A d.n d.c) d.n (fvs (w.dl ++ [])) := by rw [List.append_nil]; exact ownsRow_below DA.1 hb
      have hNE : ∀ g', (Value.slice d.A d.n d.c).ownBlock = some g' → Away q.A g' ∧ Away h.A g' ∧ Away A3 g' := fun g' hg' => ⟨(DA.2 g' hg').1, (DA.2 g' hg').2.1, hAw3 g' (World.ownsRow.lt DA.1 g' hg').2⟩
      have RO := Lib.hid (LA.out.o.below hb)
      have RI := Lib.hid (LA.out.i.below hb)
      have R3 := Lib.hid hr3
      have UQ := Lib.hid (LU.out.q.le hb.size)
      have UH := Lib.hid (LU.out.h.le hb.size)
      have U3 := Lib.hid hUn3
      have HO := Lib.hid hOD
      have HN := Lib.hid hNE
      have W3 := Lib.hid (hAw3 g q0.lt)
      have WQ := Lib.hid LW.out.q
      have WH := Lib.hid LW.out.h
      have WD := Lib.hid LW.out.d
      have HC := Lib.hid hC0
      replace q0 := q0.below hb
      replace hbx := bstep hbx hb
      clear hown3 hr3 hAw3 hUn3 DA hOD hNE hC0 hb LA LU LW LE DO HF HFA
      have c9 := q0.cell 9
      simp only [List.getElem?_toArray, List.getElem?_cons_zero, List.getElem?_cons_succ] at c9
      go_wp2_with fail
      go_loopw [7] (fun vj wr => ∃ (j : Nat) (i' : Ib) (got : List Fr) (h' d' : Sl), j ≤ F.length ∧ vj = .int .i64 j ∧ Blk wr g 62 (lnC w.o i' q h' s t d' false) ∧ Hid (RdO wr w.o q.A q.n q.c) ∧ Hid (RdI wr i' h'.A h'.n h'.c) ∧ Hid (RdF wr A3 F.length F) ∧ Hid (Under q.A wr.heap.size) ∧ Hid (Under h'.A wr.heap.size) ∧ Hid (Under A3 wr.heap.size) ∧ Hid (wr.ownsRow W.heap.size 49 3 (.slice d'.A d'.n d'.c) d'.n (fvs (w.dl ++ got))) ∧ Hid (∀ g', (Value.slice d'.A d'.n d'.c).ownBlock = some g' → Away q.A g' ∧ Away h'.A g' ∧ Away A3 g') ∧ Hid (Away h'.A g) ∧ Hid (Away d'.A g) ∧ Hid (Cat w F j i' got) ∧ Hid (d'.n = w.dl.length + got.length) ∧ Below W.heap.size W wr) (fun vj _ => F.length - (intOf vj).toNat)
      case atStart => exact ⟨0, w.i, [], h, d, Nat.zero_le _, rfl, q0, RO, RI, R3, UQ, UH, U3, HO, HN, WH, WD, HC, Lib.hid (by rw [HDL.out]; rfl), hbx⟩
      case round =>
        clear q0 RO RI R3 UQ UH U3 HO HN WH WD HC hbx c9
        obtain ⟨j, i', got, h', d', hj, rfl, q0, RO, RI, R3, UQ, UH, U3, HO, HN, WH, WD, HC, HD, hbx⟩ := hrel
        have hgl : got.length ≤ 65 * j := HC.out.len
        by_cases hjl : j < F.length
        · have hgf := HGD.out _ (List.getElem_mem hjl)
          obtain ⟨af, rfl, hcf⟩ := R3.out.elem hjl
          obtain ⟨hr0, hstep⟩ := HC.out.step hjl hgf (by omega)
          have hwi := iinv_wf HC.out.i (by omega)
          have hwf := good_wf hgf (by omega)
          have hvl := (validIn_facts HC.out.i.v).2.1
          have hhn : h'.n ≤ 64 := by have := RI.out.rd.len; omega
          have hrl := recvI_lenA i' F[j]
          have HP := Lib.hid (fun W (hx : RdI W i' h'.A h'.n h'.c) => recv_any i' h'.A h'.n h'.c F[j] W (by omega) hx hwi hwf)
          have HST := Lib.hid hstep
          generalize F[j] = f at *
          generalize recvI i' f = R at *
          obtain ⟨r1, r2, r3⟩ := R
          simp only at hr0
          subst hr0
          have hrl2 : r2.length ≤ 65 := by have h : r2.length ≤ i'.ahead.length + 1 := hrl; omega
          have hlt0 := q0.lt
          clear hgf hwi hwf hvl hrl hstep
          go_upto_region 14 with fail
          go_cut [8, 9, 10] (fun v8 v9 v10 wx => ∃ (g6 : Nat) (A6 : Option Addr) (n6 e6 : Nat) (A7 : Option Addr) (e7 : Nat), v8 = .pointer (some ⟨g6, 0, none⟩) ∧ v9 = .slice A7 r2.length e7 ∧ v10 = .int .i64 0 ∧ wr.heap.size ≤ g6 ∧ Blk wx g6 47 (ibC r1 A6 n6 e6) ∧ RdI wx r1 A6 n6 e6 ∧ RdF wx A7 r2.length r2 ∧ Hid (∀ g', g' < wr.heap.size → Away A7 g') ∧ KA wr wx h'.A A6 ∧ Below wr.heap.size wr wx)
          case first =>
            have hS : Below wr.heap.size wr wr.drew := (Below.refl _ wr).drew
            refine wp_region_TB (S := Below (wr).heap.size (wr)) 14 (by kernel_rfl) ?_
            -- region 14: 15 operations, tail from 14
            refine WpT.take (i := 0) rfl (by kernel_rfl) (fun _ _ _ h => h) (.inl ⟨by rfl, fun w hSw => by clear hSw; go_simp; (try go_bits); (try rw [if_pos (by omega)]); (try with_reducible rfl)⟩) (hS) ?_
            try simp only [Act.put, List.setIfInBounds_toArray, List.set_cons_zero, List.set_cons_succ]
            refine WpT.take (i := 1) rfl (by kernel_rfl) (fun _ _ _ h => h) (yields_lnI rfl rfl rfl q0) (hS) ?_
            try simp only [Act.put, List.setIfInBounds_toArray, List.set_cons_zero, List.set_cons_succ]
            refine WpT.take (i := 2) rfl (by kernel_rfl) (fun _ _ _ h => h) (.inl ⟨by rfl, fun w hSw => by clear hSw; go_simp; (try go_bits); (try rw [if_pos (by omega)]); (try with_reducible rfl)⟩) (hS) ?_
            try simp only [Act.put, List.setIfInBounds_toArray, List.set_cons_zero, List.set_cons_succ]
            refine WpT.take (i := 3) rfl (by kernel_rfl) (fun _ _ _ h => h) (.inl ⟨by rfl, fun w hSw => by clear hSw; go_simp; (try go_bits); (try rw [if_pos (by omega)]); (try with_reducible rfl)⟩) (hS) ?_
            try simp only [Act.put, List.setIfInBounds_toArray, List.set_cons_zero, List.set_cons_succ]
            refine WpT.take (i := 4) rfl (by kernel_rfl) (fun _ _ _ h => h) (.inl ⟨by rfl, fun w hSw => by clear hSw; go_simp; (try go_bits); (try rw [if_pos (by omega)]); (try with_reducible rfl)⟩) (hS) ?_
            try simp only [Act.put, List.setIfInBounds_toArray, List.set_cons_zero, List.set_cons_succ]
            refine WpT.take (i := 5) rfl (by kernel_rfl) (fun _ _ _ h => h) ((show YieldsIf _ _ _ _ (frV f) _ from yields_loadK (us := fv f) rfl rfl rfl aggFr sizeFr hcf)) (hS) ?_
            try simp only [Act.put, List.setIfInBounds_toArray, List.set_cons_zero, List.set_cons_succ]
            refine WpT.fork (i := 6) (j := 11) rfl rfl (by kernel_rfl) (fun K hK => ?_) (fun K hK => ?_)
            · go_simp; refine (HP.out _ (RI.out.below hS)).mono ?_; rintro e w4 ⟨A6, n6, e6, v7, rfl, rO, hown7, hb4, ka⟩; obtain ⟨A7, e7, rfl, -, -, rX⟩ := hown7.form; have uO := ka.under hb4.size (UH.out.le hS.size); have nO := ka.wide hS.size (Nat.le_refl _); have uX := own_under hown7; have nX := Lib.hid (fun g' (hg' : g' < wr.heap.size) => own_away hown7 (Nat.lt_of_lt_of_le hg' hS.size)); (try have aV := ka.away bV.lt (UH.out.away hgB)); (try have aX : Away A7 gV := own_away hown7 bV.lt); (try replace bV := bV.below hb4); clear hown7; replace hS := bstep hS hb4
              refine hK _ _ (hS) ?_; clear hK K; try simp only [Act.put, List.setIfInBounds_toArray, List.set_cons_zero, List.set_cons_succ]
              refine WpT.take (i := 7) rfl (by kernel_rfl) (fun _ _ _ h => h) (.inl ⟨by rfl, fun w hSw => by clear hSw; go_simp; (try go_bits); (try rw [if_pos (by omega)]); (try with_reducible rfl)⟩) (hS) ?_
              try simp only [Act.put, List.setIfInBounds_toArray, List.set_cons_zero, List.set_cons_succ]
              refine WpT.take (i := 8) rfl (by kernel_rfl) (fun _ _ _ h => h) (.inl ⟨by rfl, fun w hSw => by clear hSw; go_simp; (try go_bits); (try rw [if_pos (by omega)]); (try with_reducible rfl)⟩) (hS) ?_
              try simp only [Act.put, List.setIfInBounds_toArray, List.set_cons_zero, List.set_cons_succ]
              refine WpT.take (i := 9) rfl (by kernel_rfl) (fun _ _ _ h => h) (.inl ⟨by rfl, fun w hSw => by clear hSw; go_simp; (try go_bits); (try rw [if_pos (by omega)]); (try with_reducible rfl)⟩) (hS) ?_
              try simp only [Act.put, List.setIfInBounds_toArray, List.set_cons_zero, List.set_cons_succ]
              refine WpT.take (i := 10) rfl (by kernel_rfl) (fun _ _ _ h => h) (.inl ⟨by rfl, fun w hSw => by clear hSw; go_simp; (try go_bits); (try rw [if_pos (by omega)]); (try with_reducible rfl)⟩) (hS) ?_
              try simp only [Act.put, List.setIfInBounds_toArray, List.set_cons_zero, List.set_cons_succ]
              refine WpT.one (i := 11) rfl (by kernel_rfl) (fun K hK => ?_)
              refine wp_newIb rfl ?_; intro wV gV hgV bV hbV ltV; have hgB : wr.heap.size ≤ gV := (by have := hS.size; omega); (try replace rO := rO.below hbV); (try replace rX := rX.below hbV); (try replace nO := nO.wide (Nat.le_refl _) hbV.size); (try have aV : Away A6 gV := uO.away (by omega)); (try have aX : Away A7 gV := uX.away (by omega)); clear hgV; replace hS := bstep hS hbV
              refine hK _ _ (hS) ?_; clear hK K; try simp only [Act.put, List.setIfInBounds_toArray, List.set_cons_zero, List.set_cons_succ]
              refine WpT.one (i := 12) rfl (by kernel_rfl) (fun K hK => ?_)
              refine wp_put (vs := ibC r1 A6 n6 e6) rfl (by rfl) (by rfl) bV rfl (by kernel_rfl) (one_ibC _ _ _ _) ?_; intro w13 ht13 b13; replace hS := hS.trans (ht13.below _ hgB)
              refine hK _ _ (hS) ?_; clear hK K; try simp only [Act.put, List.setIfInBounds_toArray, List.set_cons_zero, List.set_cons_succ]
              refine WpT.one (i := 13) rfl (by kernel_rfl) (fun K hK => ?_)
              go_simp; (try go_bits)
              refine hK _ _ (hS) ?_; clear hK K; try simp only [Act.put, List.setIfInBounds_toArray, List.set_cons_zero, List.set_cons_succ]
              refine WpT.tail (i := 14) rfl (by kernel_rfl) (by kernel_rfl) (fun K hK => ?_)
              go_simp; (try go_bits)
              refine hK _ _ ?_; clear hK K; try simp only [Act.put, List.setIfInBounds_toArray, List.set_cons_zero, List.set_cons_succ]
              refine WpT.done (by kernel_rfl) ?_ _
              go_wp2_with fail; go_meet; exact ⟨gV, A6, n6, e6, A7, e7, rfl, rfl, rfl, hgB, b13, rO.turned ht13 aV, rX.turned' ht13 aX, nX, fun g hg => nO g (by rw [ht13.size] at hg; exact hg), hS⟩
            · refine wp_newIb rfl ?_; intro wV gV hgV bV hbV ltV; have hgB : wr.heap.size ≤ gV := (by have := hS.size; omega); (try replace rO := rO.below hbV); (try replace rX := rX.below hbV); (try replace nO := nO.wide (Nat.le_refl _) hbV.size); (try have aV : Away A6 gV := uO.away (by omega)); (try have aX : Away A7 gV := uX.away (by omega)); clear hgV; replace hS := bstep hS hbV
              refine hK _ _ (hS) ?_; clear hK K; try simp only [Act.put, List.setIfInBounds_toArray, List.set_cons_zero, List.set_cons_succ]
              refine WpT.one (i := 6) rfl (by kernel_rfl) (fun K hK => ?_)
              go_simp; refine (HP.out _ (RI.out.below hS)).mono ?_; rintro e w4 ⟨A6, n6, e6, v7, rfl, rO, hown7, hb4, ka⟩; obtain ⟨A7, e7, rfl, -, -, rX⟩ := hown7.form; have uO := ka.under hb4.size (UH.out.le hS.size); have nO := ka.wide hS.size (Nat.le_refl _); have uX := own_under hown7; have nX := Lib.hid (fun g' (hg' : g' < wr.heap.size) => own_away hown7 (Nat.lt_of_lt_of_le hg' hS.size)); (try have aV := ka.away bV.lt (UH.out.away hgB)); (try have aX : Away A7 gV := own_away hown7 bV.lt); (try replace bV := bV.below hb4); clear hown7; replace hS := bstep hS hb4
              refine hK _ _ (hS) ?_; clear hK K; try simp only [Act.put, List.setIfInBounds_toArray, List.set_cons_zero, List.set_cons_succ]
              refine WpT.take (i := 7) rfl (by kernel_rfl) (fun _ _ _ h => h) (.inl ⟨by rfl, fun w hSw => by clear hSw; go_simp; (try go_bits); (try rw [if_pos (by omega)]); (try with_reducible rfl)⟩) (hS) ?_
              try simp only [Act.put, List.setIfInBounds_toArray, List.set_cons_zero, List.set_cons_succ]
              refine WpT.take (i := 8) rfl (by kernel_rfl) (fun _ _ _ h => h) (.inl ⟨by rfl, fun w hSw => by clear hSw; go_simp; (try go_bits); (try rw [if_pos (by omega)]); (try with_reducible rfl)⟩) (hS) ?_
              try simp only [Act.put, List.setIfInBounds_toArray, List.set_cons_zero, List.set_cons_succ]
              refine WpT.take (i := 9) rfl (by kernel_rfl) (fun _ _ _ h => h) (.inl ⟨by rfl, fun w hSw => by clear hSw; go_simp; (try go_bits); (try rw [if_pos (by omega)]); (try with_reducible rfl)⟩) (hS) ?_
              try simp only [Act.put, List.setIfInBounds_toArray, List.set_cons_zero, List.set_cons_succ]
              refine WpT.take (i := 10) rfl (by kernel_rfl) (fun _ _ _ h => h) (.inl ⟨by rfl, fun w hSw => by clear hSw; go_simp; (try go_bits); (try rw [if_pos (by omega)]); (try with_reducible rfl)⟩) (hS) ?_
              try simp only [Act.put, List.setIfInBounds_toArray, List.set_cons_zero, List.set_cons_succ]
              refine WpT.one (i := 12) rfl (by kernel_rfl) (fun K hK => ?_)
              refine wp_put (vs := ibC r1 A6 n6 e6) rfl (by rfl) (by rfl) bV rfl (by kernel_rfl) (one_ibC _ _ _ _) ?_; intro w13 ht13 b13; replace hS := hS.trans (ht13.below _ hgB)
              refine hK _ _ (hS) ?_; clear hK K; try simp only [Act.put, List.setIfInBounds_toArray, List.set_cons_zero, List.set_cons_succ]
              refine WpT.one (i := 13) rfl (by kernel_rfl) (fun K hK => ?_)
              go_simp; (try go_bits)
              refine hK _ _ (hS) ?_; clear hK K; try simp only [Act.put, List.setIfInBounds_toArray, List.set_cons_zero, List.set_cons_succ]
              refine WpT.tail (i := 14) rfl (by kernel_rfl) (by kernel_rfl) (fun K hK => ?_)
              go_simp; (try go_bits)
              refine hK _ _ ?_; clear hK K; try simp only [Act.put, List.setIfInBounds_toArray, List.set_cons_zero, List.set_cons_succ]
              refine WpT.done (by kernel_rfl) ?_ _
              go_wp2_with fail; go_meet; exact ⟨gV, A6, n6, e6, A7, e7, rfl, rfl, rfl, hgB, b13, rO.turned ht13 aV, rX.turned' ht13 aX, nX, fun g hg => nO g (by rw [ht13.size] at hg; exact hg), hS⟩
          case rest =>
            obtain ⟨g6, A6, n6, e6, A7, e7, rfl, rfl, rfl, hg6, b6, r6, r7, N7, ka6, hbw⟩ := hcut
            have hzw := hbw.size
            have U6 := Lib.hid (ka6.under hzw UH.out)
            have W6 := Lib.hid (ka6.away hlt0 WH.out)
            have M6 := Lib.hid (fun g' (hg' : g' < wr.heap.size) (ha : Away h'.A g') => ka6.away hg' ha)
            have W7 := Lib.hid (N7.out g hlt0)
            have R6 := Lib.hid r6
            have R7 := Lib.hid r7
            have LT := Lib.hid (fun g' (hg' : (Value.slice d'.A d'.n d'.c).ownBlock = some g') => (World.ownsRow.lt HO.out g' hg').2)
            have HO1 := Lib.hid (ownsRow_below HO.out hbw)
            have RO1 := Lib.hid (RO.out.below hbw)
            have R31 := Lib.hid (R3.out.below hbw)
            replace q0 := q0.below hbw
            replace hbx := bstep hbx hbw
            clear r6 r7 ka6 hbw HO RO R3 RI HP
            go_upto_region 18 with (first
              | ((with_reducible show wpList _ _ _ _ _ _); refine wpList_loadRow rfl rfl rfl b6 aggIb sizeIb ?_)
              | ((with_reducible show wpList _ _ _ _ _ _); refine wpList_lnI (i' := r1) (A := A6) (n := n6) (c := e6) rfl rfl rfl rfl q0 ?_; intro w5 ht5 b5))
            have hz5 := ht5.size
            have HO5 := Lib.hid (ht5.own HO1.out (fun e => own_off WD.out e))
            have RO5 := Lib.hid (RO1.out.turned ht5 WQ.out)
            have R35 := Lib.hid (R31.out.turned' ht5 W3.out)
            have R65 := Lib.hid (R6.out.turned ht5 W6.out)
            have R75 := Lib.hid (R7.out.turned' ht5 W7.out)
            replace hbx := hbx.trans (ht5.below _ hg)
            have hlt5 := b5.lt
            clear ht5 HO1 RO1 R31 R6 R7 q0 b6
            have c8 := b5.cell 8
            simp only [List.getElem?_toArray, List.getElem?_cons_zero, List.getElem?_cons_succ] at c8
            have hd'n : d'.n + r2.length ≤ 1099511627776 := by have := HD.out; have := HDL.out; omega
            go_wp2_with (first
              | ((with_reducible show wpList _ _ _ _ _ _); refine wpList_appO rfl rfl elemFr rfl HO5.out rfl (m := r2.length) R75.out.rd (one_fvs _) hd'n (by have := hbx.size; omega) ?_; intro v8 w8 hown8 hgr8 hv8; obtain ⟨A8, e8, rfl, -, -, -⟩ := ownsRow_form hown8)
              | ((with_reducible show wpList _ _ _ _ _ _); refine wpList_set rfl rfl (by kernel_rfl) rfl (v := .slice A8 (d'.n + r2.length) e8) rfl rfl (b5.grown hgr8 (fun e => own_off WD.out e)) (cs' := lnC w.o r1 q ⟨A6, n6, e6⟩ s t ⟨A8, d'.n + r2.length, e8⟩ false) (by simp) rfl ?_; intro wz ht9 b9))
            have hne8 : (Value.slice A8 (d'.n + r2.length) e8).ownBlock ≠ some g := by
              rcases hv8 with e | e <;> rw [e]
              · exact fun e => own_off WD.out e
              · intro e; have := Option.some.inj e; omega
            have hz8 := hgr8.size
            have hz9 := ht9.size
            refine ⟨⟨j + 1, r1, got ++ r2, ⟨A6, n6, e6⟩, ⟨A8, d'.n + r2.length, e8⟩, by omega, by go_num, b9,
              Lib.hid ((RO5.out.grown hgr8 (fun g' e => (HN.out g' e).1)).turned ht9 WQ.out),
              Lib.hid ((R65.out.grown hgr8 (fun g' e => M6.out g' (LT.out g' e) (HN.out g' e).2.1)).turned ht9 W6.out),
              Lib.hid ((R35.out.grown hgr8 (fun g' e => (HN.out g' e).2.2)).turned' ht9 W3.out),
              Lib.hid (UQ.out.le (by omega)), Lib.hid (U6.out.le (by omega)), Lib.hid (U3.out.le (by omega)),
              Lib.hid (by rw [← List.append_assoc, fvs_app (w.dl ++ got)]; exact ht9.own hown8 hne8),
              Lib.hid (fun g' e => ?_), W6, Lib.hid (away_of_own hne8), HST, Lib.hid (by have := HD.out; rw [List.length_append]; show d'.n + r2.length = _; omega), ?_⟩, by simp [intOf]; omega⟩
            · rcases hv8 with e2 | e2
              · have e3 := e2.symm.trans e
                exact ⟨(HN.out g' e3).1, M6.out g' (LT.out g' e3) (HN.out g' e3).2.1, (HN.out g' e3).2.2⟩
              · have e3 := Option.some.inj (e2.symm.trans e)
                exact ⟨UQ.out.away (by omega), U6.out.away (by omega), U3.out.away (by omega)⟩
            · exact (hbx.trans ((Below.refl _ w5).grown hgr8 hbx.size fun k hk => ((World.ownsRow.lt HO5.out) k hk).1)).trans (ht9.below _ hg)
        · obtain rfl : j = F.length := by omega
          obtain ⟨hnx, hord⟩ := HFN.out i' got HC.out
          obtain ⟨ak2, akf, akw⟩ := ack_done IV.out hk1
          have HK := Lib.hid (fun W hx => ack_any w.o q.A q.n q.c w.o.fin W hx (inv_wfO IV.out (by omega)))
          have HRD := Lib.hid (own_rdI (nx := 0) HO.out (by have := HD.out; rw [List.length_append]; omega)).rd
          have hdn : d'.n ≤ 100000 := by have := HD.out; have := HDL.out; omega
          have hOR : Hid (∀ W', RdF W' d'.A d'.n (w.dl ++ got) → Calls Try.prog 29 #[.agg (lnC w.o i' q h' s t d' false)] W' fun e W'' => e = .returned (.bool true) ∧ Below W'.heap.size W' W'') :=
            Lib.hid (fun W' hx => ordered_any ⟨w.o, i', w.sent, w.told, w.dl ++ got, false⟩ q h' s t d' false W' hx hdn hord (by show i'.next ≤ 1000; omega))
          generalize ackO w.o w.o.fin = K at *
          obtain ⟨k1, k2⟩ := K
          simp only at ak2 akf akw
          subst ak2
          have HFE := Lib.hid (fun A n c W hx => frames_any k1 A n c 1000 W hx akw)
          rw [akf] at HFE
          obtain ⟨c0, c3, c4, -, -, -, -⟩ := q0.ln
          have hnx2 : i'.next = w.o.base + (q.n : Int) := by rw [hnx, hfin]
          rw [hfin] at HK
          rw [hnx2] at c4
          clear hnx hord akf akw HC HFN
          go_upto_region 20 with ((with_reducible show wpList _ _ _ _ _ _); refine wpList_lnLoadO rfl rfl rfl q0 ?_)
          refine (HK.out _ RO.out).mono ?_
          rintro e w9 ⟨A11, n11, e11, rfl, r11, hb, -⟩
          replace q0 := q0.below hb
          replace hbx := bstep hbx hb
          have HR1 := Lib.hid (HRD.out.below hb)
          clear hb c0 c3 c4
          go_upto_region 20 with (first
            | ((with_reducible show wpList _ _ _ _ _ _); refine wpList_new (cs := obC oz none 0 0) rfl rfl (fun w => by kernel_rfl) ?_; intro y9 g11 hg11 p11 hb2 lt11; have HG11 := Lib.hid hg11; clear hg11)
            | ((with_reducible show wpList _ _ _ _ _ _); refine wpList_putOb (k := k1) rfl rfl rfl rfl p11 ?_; intro z9 ht b11))
          have hb : Below w9.heap.size w9 z9 := hb2.trans (ht.below _ (by have := HG11.out; omega))
          replace q0 := q0.below hb
          replace r11 := r11.below hb
          replace hbx := bstep hbx hb
          have HR2 := Lib.hid (HR1.out.below hb)
          clear hb hb2 ht p11 HG11 lt11
          go_wp2_with ((with_reducible show wpList _ _ _ _ _ _); refine wpList_loadOb rfl rfl rfl b11 ?_)
          refine (HFE.out _ _ _ _ r11).mono ?_
          rintro e w12 ⟨v12, rfl, hown12, hb⟩
          obtain ⟨A12, e12, rfl, -, -, -⟩ := hown12.form
          replace q0 := q0.below hb
          replace hbx := bstep hbx hb
          have HR3 := Lib.hid (HR2.out.below hb)
          clear hb hown12 b11 r11
          go_wp2_with fail
          refine (HS.out _).mono ?_
          rintro e w14 ⟨rfl, hb⟩
          replace q0 := q0.below hb
          replace hbx := bstep hbx hb
          have HR4 := Lib.hid (HR3.out.below hb)
          obtain ⟨c0, c3, c4, -, -, -, -⟩ := q0.ln
          rw [hnx2] at c4
          go_wp2_with ((with_reducible show wpList _ _ _ _ _ _); refine wpList_loadRowW (by rfl) rfl rfl q0 aggLn sizeLn ?_)
          refine (hOR.out _ HR4.out).mono ?_
          rintro e w15 ⟨rfl, hb⟩
          go_wp2_with fail
          go_ret
          exact ⟨rfl, bstep hbx hb⟩
end Go.Proofs.Ytecklplohgfohaa
