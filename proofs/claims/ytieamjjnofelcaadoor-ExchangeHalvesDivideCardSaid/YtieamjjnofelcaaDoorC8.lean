/-
  These texts, joined.
  The law ExchangeHalvesDivide, walked. Conditions: the tables of constants stand.
  The law ExchangeHalvesDivide: it returns true for every input, and its arguments read behind the call as before; the row and its tied card. Conditions: the tables start as the program's text lays them.
-/
import Derived.Test.YtieamjjnofelcaaDoorB10
namespace Go.Proofs.YtieamjjnofelcaaDoor
set_option linter.unusedSimpArgs false
set_option linter.unusedVariables false
open Go.RowKit Exch
theorem build0_D (W : World) : (Instr.buildSlice 45 0 #[]).run Tryd.prog W = .ok (.slice (some ⟨W.heap.size, 0, none⟩) 0 0) (W.alloc (.cells #[] 26)) := by kernel_rfl
theorem wp_lit0D {w : World} {o : Oper} {a : Act} {K : Act → World → Prop} {Q : Exit → Act → World → Prop} (ho : o.op = .buildSlice 45 0 #[])
    (h : ∀ w' g, g = w.heap.size → OwnDs w' w.heap.size (.slice (some ⟨g, 0, none⟩) 0 0) [] → Below w.heap.size w w' → K (a.put o.dst (.slice (some ⟨g, 0, none⟩) 0 0)) w') : o.wp Tryd.prog a w K Q := by
  have h2 := h _ _ rfl (World.ownsRow_made w #[] 0 (Nat.le_refl _) (Nat.zero_le _) rfl) ((Below.refl _ _).alloc (Nat.le_refl _) _)
  unfold Oper.wp execOp
  simp only [ho, List.map_toArray, List.map_nil, build0_D, Sem.run_bind, Result.andThen_ok, Sem.run_pure]
  exact h2
/-- Names are appended to a list of the call's own. -/
theorem wp_appD {w : World} {o : Oper} {a : Act} {K : Act → World → Prop} {Q : Exit → Act → World → Prop} {s x : Operand} {B : Nat} {v u : Value} {l k : List Nat}
    (ho : o.op = .call { callee := .builtin .append, args := #[s, x], argTypes := #[45, 45] }) (hs : a.eval s = v) (hx : a.eval x = u) (hown : OwnDs w B v l) {C : Nat} (hu : OwnDs w C u k) (hlen : l.length + k.length ≤ 100000) (hB : B ≤ w.heap.size)
    (h : ∀ v' w', OwnDs w' B v' (l ++ k) → Below B w w' → K (a.put o.dst v') w') : o.wp Tryd.prog a w K Q := by
  obtain ⟨A, c, rfl, -, -, hr⟩ := hu.form
  refine wp_appK ho elemDg hs hown hx (n := l.length) (m := k.length) hr.rd (one_dgsL _) (by omega) hB fun v' w' h1 _ h3 => h v' w' ?_ h3
  unfold OwnDs
  rw [List.length_append, dgsL_app]
  exact h1
theorem OwnDs.rd {w : World} {B : Nat} {v : Value} {l : List Nat} (h : OwnDs w B v l) {A : Option Addr} {n c : Nat} (hv : v = .slice A n c) : RdD w A n l ∧ n = l.length := by
  obtain ⟨A', c', e, -, -, hr⟩ := h.form
  rw [hv] at e
  injection e with e1 e2 e3
  subst e1; subst e2
  exact ⟨hr, rfl⟩
set_option maxRecDepth 20000 in
set_option maxHeartbeats 4000000 in
theorem walkExchangeHalvesDivide (A : Option Addr) (n c : Nat) (l : List It) (v : Nat) (len : Int) (w : World) (hnc : n ≤ c) (hcm : c ≤ maxLen) (hr : RdT w A n l) (hl : ∀ x ∈ l, WfT x) (hAu : Under A w.heap.size) (hv : v < 2 ^ 128) (hlw : (Lit.int .i64 len).wf = true) (hg : GCon w) (hrc : RCon w) :
    Calls Tryd.prog 8 #[stV A n c, pxV v len] w fun e w' => e = .returned (.bool true) ∧ Below w.heap.size w w' := by
  obtain ⟨wa, hwa, hb0, q0, q1⟩ := stpxBox w A n c v len
  have HWA := Lib.hid hwa
  clear hwa
  have hn64 : n ≤ 9223372036854775807 := by unfold maxLen at hcm; omega
  have HG := Lib.hid hg
  have HRC := Lib.hid hrc
  have HV := Lib.hid (lawValid_any l A n c wa hn64 (hr.below hb0) hl (hrc.below hb0))
  have HRT := Lib.hid (fun W => refRight_any v len W hv)
  have HR := Lib.hid hr
  have HL := Lib.hid hl
  have HNC := Lib.hid hnc
  have HCM := Lib.hid hcm
  have HP : Hid (rightB v len = true → 0 ≤ len ∧ Right ⟨v, len.toNat⟩) := Lib.hid (rightB_iff hv).1
  clear hr hl hg hrc hnc hcm hAu hlw
  generalize hRB : rightB v len = R at *
  clear hRB
  have c16 := q1.pxN
  go_enter Tryd.func8, Tryd.ntmps8
  go_upto_region 1 with (fail)
  change Code.wp _ _ _ _ ((w.alloc (.cells (stC A n c) 24)).alloc (.cells (pxC v len) 28))
  rw [← HWA.out]
  go_wp2_with ((with_reducible show wpList _ _ _ ({ dst := some 12, op := _, type := _, pos := _, after := _, guard := _ } :: _) _ _); refine wpList_loadRow rfl rfl rfl q0 aggSt (by rw [sizeSt]; rfl) ?_)
  refine HV.out.mono ?_
  rintro e w1 ⟨V, rfl, hV, hb1⟩
  have HVV := Lib.hid hV
  clear hV
  replace q0 := q0.below hb1
  replace q1 := q1.below hb1
  replace c16 := cell_later hb1 c16
  go_wp2_with ((with_reducible show wpList _ _ _ ({ dst := some 14, op := _, type := _, pos := _, after := _, guard := _ } :: _) _ _); refine wpList_loadRow rfl rfl rfl q1 aggPx (by rw [sizePx, pxC_size]) ?_)
  refine (HRT.out _).mono ?_
  rintro e w2 ⟨rfl, hb2⟩
  replace q0 := q0.below hb2
  replace q1 := q1.below hb2
  replace c16 := cell_later hb2 c16
  have hbx := bstep hb0 (bstep hb1 hb2)
  clear HV HRT hb0 hb1 hb2
  cases V
  · go_wp2_with fail
    refine (sanity_any _ (HG.out.below hbx) (HRC.out.below hbx)).mono ?_
    rintro e w3 ⟨rfl, hb3⟩
    go_wp2_with fail
    go_ret
    exact ⟨rfl, bstep hbx hb3⟩
  cases R
  · go_wp2_with fail
    refine (sanity_any _ (HG.out.below hbx) (HRC.out.below hbx)).mono ?_
    rintro e w3 ⟨rfl, hb3⟩
    go_wp2_with fail
    go_ret
    exact ⟨rfl, bstep hbx hb3⟩
  by_cases h127 : 127 < len
  · have d1 : decide (127 < len) = true := by simpa using h127
    go_wp2_with fail
    refine (sanity_any _ (HG.out.below hbx) (HRC.out.below hbx)).mono ?_
    rintro e w3 ⟨rfl, hb3⟩
    go_wp2_with fail
    go_ret
    exact ⟨rfl, bstep hbx hb3⟩
  have d1 : decide (127 < len) = false := by simpa using h127
  obtain ⟨h60, hvl⟩ := HVV.out rfl
  obtain ⟨h0, hp⟩ := HP.out rfl
  obtain ⟨L, rfl⟩ := Int.eq_ofNat_of_zero_le h0
  rw [Int.toNat_natCast] at hp
  have hL : L ≤ 127 := by omega
  have hlt2 := hp.lt2 hL
  have hz := hp.z
  obtain ⟨p, hpp⟩ : ∃ p : Px, p = ⟨v, L⟩ := ⟨_, rfl⟩
  have hpv : p.v = v := by rw [hpp]
  have hpl : p.len = L := by rw [hpp]
  rw [← hpp] at hp
  have HH : Hid (∀ W, Calls Tryd.prog 30 #[pxV v L] W fun e w' => e = .returned (.tuple #[pxV v ((L + 1 : Nat) : Int), pxV (v + 2 ^ (127 - L)) ((L + 1 : Nat) : Int)]) ∧ Below W.heap.size W w') := Lib.hid (fun W => halves_any v L W hv hL hz hlt2)
  have ha := half_right hp (by omega) false
  have hb := half_right hp (by omega) true
  have ea : (half p false).v = v := by simp [half, hpv]
  have eb : (half p true).v = v + 2 ^ (127 - L) := by simp [half, hpv, hpl]
  have ela : (half p false).len = L + 1 := by simp [half, hpl]
  have elb : (half p true).len = L + 1 := by simp [half, hpl]
  have HNP : Hid (∀ W, Below w.heap.size w W → Calls Tryd.prog 26 #[stV A n c, pxV v L] W fun e w' => ∃ u, e = .returned u ∧ OwnDs w' W.heap.size u (namL l p) ∧ Below W.heap.size W w') := Lib.hid (fun W hW => by
    have h := names_any l A n c p W (by omega) (HR.out.below hW) HNC.out HCM.out HL.out hvl.so hp
    rwa [hpv, hpl] at h)
  have HNA : Hid (∀ W, Below w.heap.size w W → Calls Tryd.prog 26 #[stV A n c, pxV v ((L + 1 : Nat) : Int)] W fun e w' => ∃ u, e = .returned u ∧ OwnDs w' W.heap.size u (namL l (half p false)) ∧ Below W.heap.size W w') := Lib.hid (fun W hW => by
    have h := names_any l A n c (half p false) W (by omega) (HR.out.below hW) HNC.out HCM.out HL.out hvl.so ha
    rwa [ea, ela] at h)
  have HNB : Hid (∀ W, Below w.heap.size w W → Calls Tryd.prog 26 #[stV A n c, pxV (v + 2 ^ (127 - L)) ((L + 1 : Nat) : Int)] W fun e w' => ∃ u, e = .returned u ∧ OwnDs w' W.heap.size u (namL l (half p true)) ∧ Below W.heap.size W w') := Lib.hid (fun W hW => by
    have h := names_any l A n c (half p true) W (by omega) (HR.out.below hW) HNC.out HCM.out HL.out hvl.so hb
    rwa [eb, elb] at h)
  have HUP : Hid (∀ x W, x < 2 ^ 128 → Calls Tryd.prog 23 #[pxV v L, dgV x] W fun e w' => e = .returned (.bool (under p x)) ∧ Below W.heap.size W w') := Lib.hid (fun x W hx => by
    have h := under_any p x W hp hx
    rwa [hpv, hpl] at h)
  have HUA : Hid (∀ x W, x < 2 ^ 128 → Calls Tryd.prog 23 #[pxV v ((L + 1 : Nat) : Int), dgV x] W fun e w' => e = .returned (.bool (under (half p false) x)) ∧ Below W.heap.size W w') := Lib.hid (fun x W hx => by
    have h := under_any (half p false) x W ha hx
    rwa [ea, ela] at h)
  have HUB : Hid (∀ x W, x < 2 ^ 128 → Calls Tryd.prog 23 #[pxV (v + 2 ^ (127 - L)) ((L + 1 : Nat) : Int), dgV x] W fun e w' => e = .returned (.bool (under (half p true) x)) ∧ Below W.heap.size W w') := Lib.hid (fun x W hx => by
    have h := under_any (half p true) x W hb hx
    rwa [eb, elb] at h)
  have HRA : Hid (∀ W, Calls Tryd.prog 15 #[pxV v ((L + 1 : Nat) : Int)] W fun e w' => e = .returned (.bool true) ∧ Below W.heap.size W w') := Lib.hid (fun W => by
    have h := refRight_any v ((L + 1 : Nat) : Int) W hv
    rwa [(rightB_iff hv).2 ⟨by omega, by rw [Int.toNat_natCast]; have e2 : half p false = ⟨v, L + 1⟩ := by simp [half, hpv, hpl]
                                         rwa [e2] at ha⟩] at h)
  have HRB : Hid (∀ W, Calls Tryd.prog 15 #[pxV (v + 2 ^ (127 - L)) ((L + 1 : Nat) : Int)] W fun e w' => e = .returned (.bool true) ∧ Below W.heap.size W w') := Lib.hid (fun W => by
    have h := refRight_any (v + 2 ^ (127 - L)) ((L + 1 : Nat) : Int) W hlt2
    rwa [(rightB_iff hlt2).2 ⟨by omega, by rw [Int.toNat_natCast]; have e2 : half p true = ⟨v + 2 ^ (127 - L), L + 1⟩ := by simp [half, hpv, hpl]
                                           rwa [e2] at hb⟩] at h)
  have HUX : Hid (∀ x ∈ namL l p, x < 2 ^ 128 ∧ under p x = true ∧ ((under (half p false) x = true ∧ under (half p true) x = false) ∨ (under (half p false) x = false ∧ under (half p true) x = true))) := Lib.hid (fun x hx => by
    obtain ⟨h1, h2⟩ := namL_mem.1 hx
    obtain ⟨u1, u2⟩ := under_half hp (by omega) x
    rw [h2] at u1
    refine ⟨hvl.lt x h1, h2, ?_⟩
    clear HUP HUA HUB HRA HRB HNP HNA HNB
    revert u1 u2
    generalize under (half p false) x = a1
    generalize under (half p true) x = a2
    intro u1 u2
    cases a1 <;> cases a2
    · cases u1
    · exact .inr ⟨rfl, rfl⟩
    · exact .inl ⟨rfl, rfl⟩
    · exact absurd ⟨rfl, rfl⟩ u2)
  have HHV : Hid (namL l p = namL l (half p false) ++ namL l (half p true)) := Lib.hid (namL_halves hvl.so hp (by omega))
  have HLA : Hid ((namL l (half p false)).length ≤ 60) := Lib.hid (by have := namL_len (l := l) (p := half p false); have := HR.out.len; omega)
  have HLB : Hid ((namL l (half p true)).length ≤ 60) := Lib.hid (by have := namL_len (l := l) (p := half p true); have := HR.out.len; omega)
  have HLP : Hid ((namL l p).length ≤ 60) := Lib.hid (by have := namL_len (l := l) (p := p); have := HR.out.len; omega)
  have HSN : Hid (∀ W A1 n1 c1 A2 n2 c2, RdD W A1 n1 (namL l p) → RdD W A2 n2 (namL l p) → Calls Tryd.prog 25 #[.slice A1 n1 c1, .slice A2 n2 c2] W fun e w' => e = .returned (.bool true) ∧ Below W.heap.size W w') := Lib.hid (fun W A1 n1 c1 A2 n2 c2 h1 h2 => by
    have h := sameNames_any (namL l p) (namL l p) A1 n1 c1 A2 n2 c2 W h1 h2 (by have := h1.len; have := HLP.out; omega) (by have := h2.len; have := HLP.out; omega) (fun x hx => (HUX.out x hx).1) (fun x hx => (HUX.out x hx).1)
    rwa [decide_eq_true rfl] at h)
  generalize namL l (half p false) = la at *
  generalize namL l (half p true) = lb at *
  generalize namL l p = lp at *
  generalize v + 2 ^ (127 - L) = v2 at *
  generalize ((L + 1 : Nat) : Int) = n2 at *
  obtain ⟨Zx, hZx, hZs⟩ : ∃ Z : Array Value, (∀ W, (zeroValue 28).run Tryd.prog W = .ok (.agg Z) W) ∧ Z.size = 17 := ⟨_, zeroPx, rfl⟩
  clear ha hb ea eb ela elb hpv hpl hpp hz hlt2 hvl HP HVV h0 h127 hp
  go_wp2_with ((with_reducible show wpList _ _ _ ({ dst := some 29, op := _, type := _, pos := _, after := _, guard := _ } :: _) _ _); refine wpList_loadRow rfl rfl rfl q1 aggPx (by rw [sizePx, pxC_size]) ?_)
  refine (HH.out _).mono ?_
  rintro e w3 ⟨rfl, hb3⟩
  replace q0 := q0.below hb3
  replace q1 := q1.below hb3
  replace c16 := cell_later hb3 c16
  replace hbx := bstep hbx hb3
  clear hb3 HH
  go_upto_region 6 with first
    | ((with_reducible show wpList _ _ _ ({ dst := some 7, op := _, type := _, pos := _, after := _, guard := _ } :: _) _ _); refine wpList_new (cs := Zx) rfl rfl hZx ?_; intro w8 g8 hg8 q8 hb8 lt8; have HG8 := Lib.hid hg8; clear hg8)
    | ((with_reducible show wpList _ _ _ ({ dst := some 8, op := _, type := _, pos := _, after := _, guard := _ } :: _) _ _); refine wpList_new (cs := Zx) rfl rfl hZx ?_; intro w9 g9 hg9 q9 hb9 lt9; have HG9 := Lib.hid hg9; clear hg9; replace q8 := q8.below hb9)
    | ((with_reducible show wpList _ _ _ ({ dst := none, op := Op.store _ (Operand.tmp 7) _, type := _, pos := _, after := _, guard := _ } :: _) _ _); refine wpList_put (vs := pxC v n2) rfl rfl rfl rfl q8 (by rw [pxC_size, hZs]) (by rw [sizePx, pxC_size]) (one_pxC _ _) ?_; intro w10 ht10 b10; replace q9 := ht10.blk q9 (by have := HG9.out; have := lt8; omega))
    | ((with_reducible show wpList _ _ _ ({ dst := none, op := Op.store _ (Operand.tmp 8) _, type := _, pos := _, after := _, guard := _ } :: _) _ _); refine wpList_put (vs := pxC v2 n2) rfl rfl rfl rfl q9 (by rw [pxC_size, hZs]) (by rw [sizePx, pxC_size]) (one_pxC _ _) ?_; intro w11 ht11 b11; replace b10 := ht11.blk b10 (by have := HG9.out; have := lt8; omega))
  have hge8 : w3.heap.size ≤ g8 := by have := HG8.out; omega
  have hge9 : w3.heap.size ≤ g9 := by have := HG9.out; have := lt8; omega
  have hbz : Below w3.heap.size w3 w11 := ((hb8.trans (hb9.mono hb8.size)).trans (ht10.below _ hge8)).trans (ht11.below _ hge9)
  replace q0 := q0.below hbz
  replace q1 := q1.below hbz
  replace c16 := cell_later hbz c16
  replace hbx := bstep hbx hbz
  clear hb8 hb9 ht10 ht11 q9 q8 HG8 HG9 lt8 lt9 hbz hge8 hge9 hZx hZs
  go_wp2_with first
    | ((with_reducible show wpList _ _ _ ({ dst := some 33, op := _, type := _, pos := _, after := _, guard := _ } :: _) _ _); refine wpList_loadRow rfl rfl rfl q0 aggSt (by rw [sizeSt]; rfl) ?_)
    | ((with_reducible show wpList _ _ _ ({ dst := some 34, op := _, type := _, pos := _, after := _, guard := _ } :: _) _ _); refine wpList_loadRow rfl rfl rfl q1 aggPx (by rw [sizePx, pxC_size]) ?_)
  refine (HNP.out _ hbx).mono ?_
  rintro e w12 ⟨v9, rfl, own9, hb12⟩
  replace q0 := q0.below hb12
  replace q1 := q1.below hb12
  replace b10 := b10.below hb12
  replace b11 := b11.below hb12
  replace c16 := cell_later hb12 c16
  replace hbx := bstep hbx hb12
  clear hb12 HNP
  go_upto_region 7 with fail
  go_cut [10] (fun v10 wx => OwnDs wx w12.heap.size v10 lp ∧ Below w12.heap.size w12 wx)
  case first =>
   have hS : Below w12.heap.size w12 w12.drew := (Below.refl _ _).drew
   have hla := HLA.out
   have hlb := HLB.out
   refine wp_region_TB (S := Below (w12).heap.size (w12)) 9 (by kernel_rfl) ?_
   -- region 7: 10 operations, tail from 9
   refine WpT.take (i := 1) rfl (by kernel_rfl) (fun _ _ _ h => h) (yields_blk rfl rfl rfl aggSt (by rw [sizeSt]; rfl) q0) (hS) ?_
   try simp only [Act.put, List.setIfInBounds_toArray, List.set_cons_zero, List.set_cons_succ]
   refine WpT.take (i := 2) rfl (by kernel_rfl) (fun _ _ _ h => h) (yields_blk rfl rfl rfl aggPx (by rw [sizePx, pxC_size]) b10) (hS) ?_
   try simp only [Act.put, List.setIfInBounds_toArray, List.set_cons_zero, List.set_cons_succ]
   refine WpT.take (i := 5) rfl (by kernel_rfl) (fun _ _ _ h => h) (yields_blk rfl rfl rfl aggSt (by rw [sizeSt]; rfl) q0) (hS) ?_
   try simp only [Act.put, List.setIfInBounds_toArray, List.set_cons_zero, List.set_cons_succ]
   refine WpT.take (i := 6) rfl (by kernel_rfl) (fun _ _ _ h => h) (yields_blk rfl rfl rfl aggPx (by rw [sizePx, pxC_size]) b11) (hS) ?_
   try simp only [Act.put, List.setIfInBounds_toArray, List.set_cons_zero, List.set_cons_succ]
   refine WpT.fork (i := 0) (j := 3) rfl rfl (by kernel_rfl) (fun K hK => ?_) (fun K hK => ?_)
   · refine wp_lit0D rfl ?_; intro wE gE hgE ownE hbE; clear hgE; replace ownE := ownE.lower hS.size; (try replace own3 := own3.below hbE); replace hS := bstep hS hbE
     refine hK _ _ (hS) ?_; clear hK K; try simp only [Act.put, List.setIfInBounds_toArray, List.set_cons_zero, List.set_cons_succ]
     refine WpT.one (i := 3) rfl (by kernel_rfl) (fun K hK => ?_)
     go_simp; refine (HNA.out _ (bstep hbx hS)).mono ?_; rintro e w3 ⟨v3, rfl, own3, hb3⟩; (try replace ownE := ownE.below hb3); replace hS := bstep hS hb3
     refine hK _ _ (hS) ?_; clear hK K; try simp only [Act.put, List.setIfInBounds_toArray, List.set_cons_zero, List.set_cons_succ]
     refine WpT.one (i := 4) rfl (by kernel_rfl) (fun K hK => ?_)
     refine wp_appD rfl (by rfl) (by rfl) ownE own3 (by simp only [List.length_nil]; omega) hS.size ?_; intro v4 w4 own4 hb4; rw [List.nil_append] at own4; replace hS := hS.trans hb4
     refine hK _ _ (hS) ?_; clear hK K; try simp only [Act.put, List.setIfInBounds_toArray, List.set_cons_zero, List.set_cons_succ]
     refine WpT.one (i := 7) rfl (by kernel_rfl) (fun K hK => ?_)
     go_simp; refine (HNB.out _ (bstep hbx hS)).mono ?_; rintro e w5 ⟨v5, rfl, own5, hb5⟩; replace own4 := own4.below hb5; replace hS := bstep hS hb5
     refine hK _ _ (hS) ?_; clear hK K; try simp only [Act.put, List.setIfInBounds_toArray, List.set_cons_zero, List.set_cons_succ]
     refine WpT.one (i := 8) rfl (by kernel_rfl) (fun K hK => ?_)
     refine wp_appD rfl (by rfl) (by rfl) own4 own5 (by omega) hS.size ?_; intro v6 w6 own6 hb6; rw [← HHV.out] at own6; replace hS := hS.trans hb6
     refine hK _ _ (hS) ?_; clear hK K; try simp only [Act.put, List.setIfInBounds_toArray, List.set_cons_zero, List.set_cons_succ]
     refine WpT.tail (i := 9) rfl (by kernel_rfl) (by kernel_rfl) (fun K hK => ?_)
     go_simp; (try go_bits)
     refine hK _ _ ?_; clear hK K; try simp only [Act.put, List.setIfInBounds_toArray, List.set_cons_zero, List.set_cons_succ]
     refine WpT.done (by kernel_rfl) ?_ _
     go_wp2_with fail; go_meet; exact ⟨own6, hS⟩
   · go_simp; refine (HNA.out _ (bstep hbx hS)).mono ?_; rintro e w3 ⟨v3, rfl, own3, hb3⟩; (try replace ownE := ownE.below hb3); replace hS := bstep hS hb3
     refine hK _ _ (hS) ?_; clear hK K; try simp only [Act.put, List.setIfInBounds_toArray, List.set_cons_zero, List.set_cons_succ]
     refine WpT.one (i := 0) rfl (by kernel_rfl) (fun K hK => ?_)
     refine wp_lit0D rfl ?_; intro wE gE hgE ownE hbE; clear hgE; replace ownE := ownE.lower hS.size; (try replace own3 := own3.below hbE); replace hS := bstep hS hbE
     refine hK _ _ (hS) ?_; clear hK K; try simp only [Act.put, List.setIfInBounds_toArray, List.set_cons_zero, List.set_cons_succ]
     refine WpT.one (i := 4) rfl (by kernel_rfl) (fun K hK => ?_)
     refine wp_appD rfl (by rfl) (by rfl) ownE own3 (by simp only [List.length_nil]; omega) hS.size ?_; intro v4 w4 own4 hb4; rw [List.nil_append] at own4; replace hS := hS.trans hb4
     refine hK _ _ (hS) ?_; clear hK K; try simp only [Act.put, List.setIfInBounds_toArray, List.set_cons_zero, List.set_cons_succ]
     refine WpT.one (i := 7) rfl (by kernel_rfl) (fun K hK => ?_)
     go_simp; refine (HNB.out _ (bstep hbx hS)).mono ?_; rintro e w5 ⟨v5, rfl, own5, hb5⟩; replace own4 := own4.below hb5; replace hS := bstep hS hb5
     refine hK _ _ (hS) ?_; clear hK K; try simp only [Act.put, List.setIfInBounds_toArray, List.set_cons_zero, List.set_cons_succ]
     refine WpT.one (i := 8) rfl (by kernel_rfl) (fun K hK => ?_)
     refine wp_appD rfl (by rfl) (by rfl) own4 own5 (by omega) hS.size ?_; intro v6 w6 own6 hb6; rw [← HHV.out] at own6; replace hS := hS.trans hb6
     refine hK _ _ (hS) ?_; clear hK K; try simp only [Act.put, List.setIfInBounds_toArray, List.set_cons_zero, List.set_cons_succ]
     refine WpT.tail (i := 9) rfl (by kernel_rfl) (by kernel_rfl) (fun K hK => ?_)
     go_simp; (try go_bits)
     refine hK _ _ ?_; clear hK K; try simp only [Act.put, List.setIfInBounds_toArray, List.set_cons_zero, List.set_cons_succ]
     refine WpT.done (by kernel_rfl) ?_ _
     go_wp2_with fail; go_meet; exact ⟨own6, hS⟩
  case rest =>
    obtain ⟨own10, hbc⟩ := hcut
    replace q0 := q0.below hbc
    replace q1 := q1.below hbc
    replace b10 := b10.below hbc
    replace b11 := b11.below hbc
    replace own9 := own9.below hbc
    replace c16 := cell_later hbc c16
    replace hbx := bstep hbx hbc
    clear hbc HNA HNB HLA HLB HHV
    obtain ⟨A9, c9, rfl, -, -, hr9⟩ := own9.form
    obtain ⟨A10, c10, rfl, -, -, hr10⟩ := own10.form
    clear own9 own10
    have HR9 := Lib.hid hr9
    have HR10 := Lib.hid hr10
    have hlp := HLP.out
    clear hr9 hr10
    go_wp2_with fail
    go_loopw [11] (fun vk wr => ∃ k : Nat, k ≤ lp.length ∧ vk = .int .i64 k ∧ Below wc.heap.size wc wr) (fun vk _ => lp.length - (intOf vk).toNat)
    case atStart => exact ⟨0, Nat.zero_le _, rfl, Below.refl _ _⟩
    case round =>
      obtain ⟨k, hk, rfl, hbw⟩ := hrel
      by_cases hlt : k < lp.length
      · obtain ⟨ad, had, hc⟩ := (HR9.out.below hbw).elem hlt
        obtain rfl := had
        obtain ⟨hx, hup, hab⟩ := HUX.out lp[k] (List.getElem_mem _)
        generalize lp[k] = x at *
        replace q1 := q1.below hbw
        replace b10 := b10.below hbw
        replace b11 := b11.below hbw
        have HP1 := Lib.hid (fun W => HUP.out x W hx)
        have HA1 := Lib.hid (fun W => HUA.out x W hx)
        have HB1 := Lib.hid (fun W => HUB.out x W hx)
        rw [hup] at HP1
        have hca := px_cells b10
        have hcb := px_cells b11
        generalize under (half p false) x = ua at *
        generalize under (half p true) x = ub at *
        clear hup
        have hS : Below wr.heap.size wr wr.drew := (Below.refl _ _).drew
        go_upto_region 11 with fail
        rcases hab with ⟨rfl, rfl⟩ | ⟨rfl, rfl⟩
        · skip
          refine wp_region_TB (S := Below (wr).heap.size (wr)) 22 (by kernel_rfl) ?_
          -- region 11: 22 operations, tail from 22
          refine WpT.take (i := 0) rfl (by kernel_rfl) (fun _ _ _ h => h) (yields_blk rfl rfl rfl aggPx (by rw [sizePx, pxC_size]) q1) (hS) ?_
          try simp only [Act.put, List.setIfInBounds_toArray, List.set_cons_zero, List.set_cons_succ]
          refine WpT.take (i := 1) rfl (by kernel_rfl) (fun _ _ _ h => h) (.inl ⟨by rfl, fun w hSw => by clear hSw; go_simp; (try go_bits); (try rw [if_pos (by omega)]); (try with_reducible rfl)⟩) (hS) ?_
          try simp only [Act.put, List.setIfInBounds_toArray, List.set_cons_zero, List.set_cons_succ]
          refine WpT.take (i := 2) rfl (by kernel_rfl) (fun _ _ _ h => h) (.inl ⟨by rfl, fun w hSw => by clear hSw; go_simp; (try go_bits); (try rw [if_pos (by omega)]); (try with_reducible rfl)⟩) (hS) ?_
          try simp only [Act.put, List.setIfInBounds_toArray, List.set_cons_zero, List.set_cons_succ]
          refine WpT.take (i := 3) rfl (by kernel_rfl) (fun _ _ _ h => h) (.inl ⟨by rfl, fun w hSw => by clear hSw; go_simp; (try go_bits); (try rw [if_pos (by omega)]); (try with_reducible rfl)⟩) (hS) ?_
          try simp only [Act.put, List.setIfInBounds_toArray, List.set_cons_zero, List.set_cons_succ]
          refine WpT.take (i := 4) rfl (by kernel_rfl) (fun _ _ _ h => h) (yields_loadK (us := bv (dg x)) rfl rfl rfl aggDg (by rw [sizeDg, bv_dg_len]) hc) (hS) ?_
          try simp only [Act.put, List.setIfInBounds_toArray, List.set_cons_zero, List.set_cons_succ]
          refine WpT.one (i := 5) rfl (by kernel_rfl) (fun K hK => ?_)
          go_simp; refine (HP1.out _).mono ?_; rintro e w5 ⟨rfl, hb5⟩; replace hS := bstep hS hb5
          refine hK _ _ (hS) ?_; clear hK K; try simp only [Act.put, List.setIfInBounds_toArray, List.set_cons_zero, List.set_cons_succ]
          refine WpT.take (i := 6) rfl (by kernel_rfl) (fun _ _ _ h => h) (.inl ⟨by rfl, fun w hSw => by clear hSw; go_simp; (try go_bits); (try rw [if_pos (by omega)]); (try with_reducible rfl)⟩) (hS) ?_
          try simp only [Act.put, List.setIfInBounds_toArray, List.set_cons_zero, List.set_cons_succ]
          refine WpT.take (i := 7) rfl (by kernel_rfl) (fun _ _ _ h => h) (.inl ⟨by rfl, fun w hSw => by clear hSw; go_simp; (try go_bits); (try rw [if_pos (by omega)]); (try with_reducible rfl)⟩) (hS) ?_
          try simp only [Act.put, List.setIfInBounds_toArray, List.set_cons_zero, List.set_cons_succ]
          refine WpT.take (i := 8) rfl (by kernel_rfl) (fun _ _ _ h => h) (yields_loadKW (us := pxL v n2) (by rfl) rfl rfl aggPx (by rw [sizePx, pxL_len]) hca) (hS) ?_
          try simp only [Act.put, List.setIfInBounds_toArray, List.set_cons_zero, List.set_cons_succ]
          refine WpT.take (i := 9) rfl (by kernel_rfl) (fun _ _ _ h => h) (.inl ⟨by rfl, fun w hSw => by clear hSw; go_simp; (try go_bits); (try rw [if_pos (by omega)]); (try with_reducible rfl)⟩) (hS) ?_
          try simp only [Act.put, List.setIfInBounds_toArray, List.set_cons_zero, List.set_cons_succ]
          refine WpT.take (i := 10) rfl (by kernel_rfl) (fun _ _ _ h => h) (.inl ⟨by rfl, fun w hSw => by clear hSw; go_simp; (try go_bits); (try rw [if_pos (by omega)]); (try with_reducible rfl)⟩) (hS) ?_
          try simp only [Act.put, List.setIfInBounds_toArray, List.set_cons_zero, List.set_cons_succ]
          refine WpT.take (i := 11) rfl (by kernel_rfl) (fun _ _ _ h => h) (.inl ⟨by rfl, fun w hSw => by clear hSw; go_simp; (try go_bits); (try rw [if_pos (by omega)]); (try with_reducible rfl)⟩) (hS) ?_
          try simp only [Act.put, List.setIfInBounds_toArray, List.set_cons_zero, List.set_cons_succ]
          refine WpT.take (i := 12) rfl (by kernel_rfl) (fun _ _ _ h => h) (yields_loadKW (us := bv (dg x)) (by rfl) rfl rfl aggDg (by rw [sizeDg, bv_dg_len]) hc) (hS) ?_
          try simp only [Act.put, List.setIfInBounds_toArray, List.set_cons_zero, List.set_cons_succ]
          refine WpT.take (i := 14) rfl (by kernel_rfl) (fun _ _ _ h => h) (yields_loadKW (us := pxL v2 n2) (by rfl) rfl rfl aggPx (by rw [sizePx, pxL_len]) hcb) (hS) ?_
          try simp only [Act.put, List.setIfInBounds_toArray, List.set_cons_zero, List.set_cons_succ]
          refine WpT.take (i := 15) rfl (by kernel_rfl) (fun _ _ _ h => h) (.inl ⟨by rfl, fun w hSw => by clear hSw; go_simp; (try go_bits); (try rw [if_pos (by omega)]); (try with_reducible rfl)⟩) (hS) ?_
          try simp only [Act.put, List.setIfInBounds_toArray, List.set_cons_zero, List.set_cons_succ]
          refine WpT.take (i := 16) rfl (by kernel_rfl) (fun _ _ _ h => h) (.inl ⟨by rfl, fun w hSw => by clear hSw; go_simp; (try go_bits); (try rw [if_pos (by omega)]); (try with_reducible rfl)⟩) (hS) ?_
          try simp only [Act.put, List.setIfInBounds_toArray, List.set_cons_zero, List.set_cons_succ]
          refine WpT.take (i := 17) rfl (by kernel_rfl) (fun _ _ _ h => h) (.inl ⟨by rfl, fun w hSw => by clear hSw; go_simp; (try go_bits); (try rw [if_pos (by omega)]); (try with_reducible rfl)⟩) (hS) ?_
          try simp only [Act.put, List.setIfInBounds_toArray, List.set_cons_zero, List.set_cons_succ]
          refine WpT.take (i := 18) rfl (by kernel_rfl) (fun _ _ _ h => h) (yields_loadKW (us := bv (dg x)) (by rfl) rfl rfl aggDg (by rw [sizeDg, bv_dg_len]) hc) (hS) ?_
          try simp only [Act.put, List.setIfInBounds_toArray, List.set_cons_zero, List.set_cons_succ]
          refine WpT.one (i := 13) rfl (by kernel_rfl) (fun K hK => ?_)
          go_simp; refine (HA1.out _).mono ?_; rintro e w6 ⟨rfl, hb6⟩; replace hS := bstep hS hb6
          refine hK _ _ (hS) ?_; clear hK K; try simp only [Act.put, List.setIfInBounds_toArray, List.set_cons_zero, List.set_cons_succ]
          refine WpT.one (i := 19) rfl (by kernel_rfl) (fun K hK => ?_)
          go_simp; refine (HB1.out _).mono ?_; rintro e w7 ⟨rfl, hb7⟩; replace hS := bstep hS hb7
          refine hK _ _ (hS) ?_; clear hK K; try simp only [Act.put, List.setIfInBounds_toArray, List.set_cons_zero, List.set_cons_succ]
          refine WpT.take (i := 20) rfl (by kernel_rfl) (fun _ _ _ h => h) (.inl ⟨by rfl, fun w hSw => by clear hSw; go_simp; (try go_bits); (try rw [if_pos (by omega)]); (try with_reducible rfl)⟩) (hS) ?_
          try simp only [Act.put, List.setIfInBounds_toArray, List.set_cons_zero, List.set_cons_succ]
          refine WpT.take (i := 21) rfl (by kernel_rfl) (fun _ _ _ h => h) (.inl ⟨by rfl, fun w hSw => by clear hSw; go_simp; (try go_bits); (try rw [if_pos (by omega)]); (try with_reducible rfl)⟩) (hS) ?_
          try simp only [Act.put, List.setIfInBounds_toArray, List.set_cons_zero, List.set_cons_succ]
          refine WpT.done (by kernel_rfl) ?_ _
          skip
          have hbn := bstep hbw hS
          clear hc hca hcb q1 b10 b11
          go_wp2_with fail
          exact ⟨⟨k + 1, by omega, by go_num, hbn⟩, by simp [intOf]; omega⟩
        · skip
          refine wp_region_TB (S := Below (wr).heap.size (wr)) 22 (by kernel_rfl) ?_
          -- region 11: 22 operations, tail from 22
          refine WpT.take (i := 0) rfl (by kernel_rfl) (fun _ _ _ h => h) (yields_blk rfl rfl rfl aggPx (by rw [sizePx, pxC_size]) q1) (hS) ?_
          try simp only [Act.put, List.setIfInBounds_toArray, List.set_cons_zero, List.set_cons_succ]
          refine WpT.take (i := 1) rfl (by kernel_rfl) (fun _ _ _ h => h) (.inl ⟨by rfl, fun w hSw => by clear hSw; go_simp; (try go_bits); (try rw [if_pos (by omega)]); (try with_reducible rfl)⟩) (hS) ?_
          try simp only [Act.put, List.setIfInBounds_toArray, List.set_cons_zero, List.set_cons_succ]
          refine WpT.take (i := 2) rfl (by kernel_rfl) (fun _ _ _ h => h) (.inl ⟨by rfl, fun w hSw => by clear hSw; go_simp; (try go_bits); (try rw [if_pos (by omega)]); (try with_reducible rfl)⟩) (hS) ?_
          try simp only [Act.put, List.setIfInBounds_toArray, List.set_cons_zero, List.set_cons_succ]
          refine WpT.take (i := 3) rfl (by kernel_rfl) (fun _ _ _ h => h) (.inl ⟨by rfl, fun w hSw => by clear hSw; go_simp; (try go_bits); (try rw [if_pos (by omega)]); (try with_reducible rfl)⟩) (hS) ?_
          try simp only [Act.put, List.setIfInBounds_toArray, List.set_cons_zero, List.set_cons_succ]
          refine WpT.take (i := 4) rfl (by kernel_rfl) (fun _ _ _ h => h) (yields_loadK (us := bv (dg x)) rfl rfl rfl aggDg (by rw [sizeDg, bv_dg_len]) hc) (hS) ?_
          try simp only [Act.put, List.setIfInBounds_toArray, List.set_cons_zero, List.set_cons_succ]
          refine WpT.one (i := 5) rfl (by kernel_rfl) (fun K hK => ?_)
          go_simp; refine (HP1.out _).mono ?_; rintro e w5 ⟨rfl, hb5⟩; replace hS := bstep hS hb5
          refine hK _ _ (hS) ?_; clear hK K; try simp only [Act.put, List.setIfInBounds_toArray, List.set_cons_zero, List.set_cons_succ]
          refine WpT.take (i := 6) rfl (by kernel_rfl) (fun _ _ _ h => h) (.inl ⟨by rfl, fun w hSw => by clear hSw; go_simp; (try go_bits); (try rw [if_pos (by omega)]); (try with_reducible rfl)⟩) (hS) ?_
          try simp only [Act.put, List.setIfInBounds_toArray, List.set_cons_zero, List.set_cons_succ]
          refine WpT.take (i := 7) rfl (by kernel_rfl) (fun _ _ _ h => h) (.inl ⟨by rfl, fun w hSw => by clear hSw; go_simp; (try go_bits); (try rw [if_pos (by omega)]); (try with_reducible rfl)⟩) (hS) ?_
          try simp only [Act.put, List.setIfInBounds_toArray, List.set_cons_zero, List.set_cons_succ]
          refine WpT.take (i := 8) rfl (by kernel_rfl) (fun _ _ _ h => h) (yields_loadKW (us := pxL v n2) (by rfl) rfl rfl aggPx (by rw [sizePx, pxL_len]) hca) (hS) ?_
          try simp only [Act.put, List.setIfInBounds_toArray, List.set_cons_zero, List.set_cons_succ]
          refine WpT.take (i := 9) rfl (by kernel_rfl) (fun _ _ _ h => h) (.inl ⟨by rfl, fun w hSw => by clear hSw; go_simp; (try go_bits); (try rw [if_pos (by omega)]); (try with_reducible rfl)⟩) (hS) ?_
          try simp only [Act.put, List.setIfInBounds_toArray, List.set_cons_zero, List.set_cons_succ]
          refine WpT.take (i := 10) rfl (by kernel_rfl) (fun _ _ _ h => h) (.inl ⟨by rfl, fun w hSw => by clear hSw; go_simp; (try go_bits); (try rw [if_pos (by omega)]); (try with_reducible rfl)⟩) (hS) ?_
          try simp only [Act.put, List.setIfInBounds_toArray, List.set_cons_zero, List.set_cons_succ]
          refine WpT.take (i := 11) rfl (by kernel_rfl) (fun _ _ _ h => h) (.inl ⟨by rfl, fun w hSw => by clear hSw; go_simp; (try go_bits); (try rw [if_pos (by omega)]); (try with_reducible rfl)⟩) (hS) ?_
          try simp only [Act.put, List.setIfInBounds_toArray, List.set_cons_zero, List.set_cons_succ]
          refine WpT.take (i := 12) rfl (by kernel_rfl) (fun _ _ _ h => h) (yields_loadKW (us := bv (dg x)) (by rfl) rfl rfl aggDg (by rw [sizeDg, bv_dg_len]) hc) (hS) ?_
          try simp only [Act.put, List.setIfInBounds_toArray, List.set_cons_zero, List.set_cons_succ]
          refine WpT.take (i := 14) rfl (by kernel_rfl) (fun _ _ _ h => h) (yields_loadKW (us := pxL v2 n2) (by rfl) rfl rfl aggPx (by rw [sizePx, pxL_len]) hcb) (hS) ?_
          try simp only [Act.put, List.setIfInBounds_toArray, List.set_cons_zero, List.set_cons_succ]
          refine WpT.take (i := 15) rfl (by kernel_rfl) (fun _ _ _ h => h) (.inl ⟨by rfl, fun w hSw => by clear hSw; go_simp; (try go_bits); (try rw [if_pos (by omega)]); (try with_reducible rfl)⟩) (hS) ?_
          try simp only [Act.put, List.setIfInBounds_toArray, List.set_cons_zero, List.set_cons_succ]
          refine WpT.take (i := 16) rfl (by kernel_rfl) (fun _ _ _ h => h) (.inl ⟨by rfl, fun w hSw => by clear hSw; go_simp; (try go_bits); (try rw [if_pos (by omega)]); (try with_reducible rfl)⟩) (hS) ?_
          try simp only [Act.put, List.setIfInBounds_toArray, List.set_cons_zero, List.set_cons_succ]
          refine WpT.take (i := 17) rfl (by kernel_rfl) (fun _ _ _ h => h) (.inl ⟨by rfl, fun w hSw => by clear hSw; go_simp; (try go_bits); (try rw [if_pos (by omega)]); (try with_reducible rfl)⟩) (hS) ?_
          try simp only [Act.put, List.setIfInBounds_toArray, List.set_cons_zero, List.set_cons_succ]
          refine WpT.take (i := 18) rfl (by kernel_rfl) (fun _ _ _ h => h) (yields_loadKW (us := bv (dg x)) (by rfl) rfl rfl aggDg (by rw [sizeDg, bv_dg_len]) hc) (hS) ?_
          try simp only [Act.put, List.setIfInBounds_toArray, List.set_cons_zero, List.set_cons_succ]
          refine WpT.one (i := 13) rfl (by kernel_rfl) (fun K hK => ?_)
          go_simp; refine (HA1.out _).mono ?_; rintro e w6 ⟨rfl, hb6⟩; replace hS := bstep hS hb6
          refine hK _ _ (hS) ?_; clear hK K; try simp only [Act.put, List.setIfInBounds_toArray, List.set_cons_zero, List.set_cons_succ]
          refine WpT.one (i := 19) rfl (by kernel_rfl) (fun K hK => ?_)
          go_simp; refine (HB1.out _).mono ?_; rintro e w7 ⟨rfl, hb7⟩; replace hS := bstep hS hb7
          refine hK _ _ (hS) ?_; clear hK K; try simp only [Act.put, List.setIfInBounds_toArray, List.set_cons_zero, List.set_cons_succ]
          refine WpT.take (i := 20) rfl (by kernel_rfl) (fun _ _ _ h => h) (.inl ⟨by rfl, fun w hSw => by clear hSw; go_simp; (try go_bits); (try rw [if_pos (by omega)]); (try with_reducible rfl)⟩) (hS) ?_
          try simp only [Act.put, List.setIfInBounds_toArray, List.set_cons_zero, List.set_cons_succ]
          refine WpT.take (i := 21) rfl (by kernel_rfl) (fun _ _ _ h => h) (.inl ⟨by rfl, fun w hSw => by clear hSw; go_simp; (try go_bits); (try rw [if_pos (by omega)]); (try with_reducible rfl)⟩) (hS) ?_
          try simp only [Act.put, List.setIfInBounds_toArray, List.set_cons_zero, List.set_cons_succ]
          refine WpT.done (by kernel_rfl) ?_ _
          skip
          have hbn := bstep hbw hS
          clear hc hca hcb q1 b10 b11
          go_wp2_with fail
          exact ⟨⟨k + 1, by omega, by go_num, hbn⟩, by simp [intOf]; omega⟩
      · obtain rfl : k = lp.length := by omega
        have hcb := px_cells (b11.below hbw)
        have hca := px_cells (b10.below hbw)
        have hr9 := HR9.out.below hbw
        have hr10 := HR10.out.below hbw
        go_wp2_with fail
        refine (sanity_any _ (HG.out.below (bstep hbx hbw)) (HRC.out.below (bstep hbx hbw))).mono ?_
        rintro e wz ⟨rfl, hbz⟩
        replace hca := fun j u hj => cell_later hbz (hca j u hj)
        replace hcb := fun j u hj => cell_later hbz (hcb j u hj)
        go_wp2_with fail
        refine (HSN.out _ _ _ _ _ _ _ (hr9.below hbz) (hr10.below hbz)).mono ?_
        rintro e wy ⟨rfl, hby⟩
        replace hca := fun j u hj => cell_later hby (hca j u hj)
        replace hcb := fun j u hj => cell_later hby (hcb j u hj)
        go_wp2_with ((with_reducible show wpList _ _ _ ({ dst := some 80, op := _, type := _, pos := _, after := _, guard := _ } :: _) _ _); refine wpList_loadKW (us := pxL v n2) (by rfl) rfl rfl aggPx (by rw [sizePx, pxL_len]) hca ?_)
        refine (HRA.out _).mono ?_
        rintro e wu ⟨rfl, hbu⟩
        replace hcb := fun j u hj => cell_later hbu (hcb j u hj)
        go_wp2_with ((with_reducible show wpList _ _ _ ({ dst := some 84, op := _, type := _, pos := _, after := _, guard := _ } :: _) _ _); refine wpList_loadKW (us := pxL v2 n2) (by rfl) rfl rfl aggPx (by rw [sizePx, pxL_len]) hcb ?_)
        refine (HRB.out _).mono ?_
        rintro e wt ⟨rfl, hbt⟩
        go_wp2_with fail
        go_ret
        exact ⟨rfl, bstep (bstep (bstep (bstep (bstep hbx hbw) hbz) hby) hbu) hbt⟩
end Go.Proofs.YtieamjjnofelcaaDoor
namespace Go.Proofs.YtieamjjnofelcaaDoor.exchangeHalvesDivide
set_option linter.unusedSimpArgs false
set_option linter.unusedVariables false
open Go.ChangeShapes Go.WideShapes Go.ChangeAt Go.RowKit Go.Proofs.YtieamjjnofelcaaDoor
open Go.ChangeMaps (open_string shut_string)

set_option maxRecDepth 20000 in
set_option maxHeartbeats 1000000 in
theorem contract (H : Type) (enc : TypeId × Value → H) (W : World) (base : Nat) (args : Array Value) (ds gs : List (DataW H)) (before : List MemPlace)
    (hval : ∀ (j : Nat) t v, Tryd.f8.params[j]? = some t → args[j]? = some v → Value.okWide Tryd.prog W .any base t v)
    (hW : DataW.Whole enc Tryd.prog Tryd.f8.params.toList Rows.exchangeHalvesDivideSpec.vars false W args.toList ds gs before) (hL : laidMetH Tryd.prog Rows.exchangeHalvesDivideRow.laid W) :
    Calls Tryd.prog 8 args W fun e W' => ∃ v, e = .returned v ∧ Rows.exchangeHalvesDivideSpec.post enc Tryd.prog Tryd.f8 false true false false W args v W' := by
  have hW' := hW
  have hRef : RCon W := rcon_of hL
  have hCon : GCon W := con_of hL.tail
  obtain ⟨p, q, hA0, hV, rfl, hfz, hnd⟩ := hW
  have hA : DataW.TrodAll enc Tryd.prog W 0 (fun _ => true) true Tryd.f8.params.toList args.toList ds p := hA0
  rw [Tryd.params8] at hA hval
  obtain ⟨v0, vs0, d0, ds0, p0, q0, hargs, rfl, rfl, h0, r0⟩ := trodAll_cons hA
  obtain ⟨v1, vs1, d1, ds1, p1, q1, rfl, rfl, rfl, h1, r1⟩ := trodAll_cons r0
  obtain ⟨rfl, rfl, rfl⟩ := trodAll_nil r1
  obtain rfl : args = #[v0, v1] := by cases args; simp_all
  obtain ⟨rfl, rfl⟩ := trodVars_none hV
  have k0 := h0
  have lt0 : ∀ x ∈ p0, x.block < W.heap.size := by obtain ⟨m, hm⟩ := k0; exact DataW.trod_lt m _ _ _ hm
  obtain ⟨A0, n0, c0, l0, rfl, x0, y0, z0, f0, u0⟩ := open_stock (hval 0 24 v0 rfl rfl) h0
  have k1 := h1
  have lt1 : ∀ x ∈ p1, x.block < W.heap.size := by obtain ⟨m, hm⟩ := k1; exact DataW.trod_lt m _ _ _ hm
  obtain ⟨a1, b1, rfl, x1, f1⟩ := open_prefix (hval 1 28 v1 rfl rfl) h1
  clear hA0
  refine (walkExchangeHalvesDivide A0 n0 c0 l0 a1 b1 W x0 y0 z0 f0 u0 x1 f1 hCon hRef).mono fun e W' ⟨he, bel⟩ => ?_
  subst he
  exact ⟨_, rfl, _, _, _, [], _, [], hW', trodAll_mk1 (shut_bool (by kernel_rfl) _), (trodAll_cons_mk (Below.trod laidOut (by kernel_rfl) (of_decide_eq_true (by kernel_rfl)) k0 bel lt0) (trodAll_cons_mk (Below.trod laidOut (by kernel_rfl) (of_decide_eq_true (by kernel_rfl)) k1 bel lt1) trodAll_mk0)), rfl, bel.frame _, fun h => by cases h⟩

theorem laid_met (os : Os) : laidMet Tryd.prog Rows.exchangeHalvesDivideRow.laid ((laidWorldR os).forCall (fun _ _ => 0) ⟨#[], #[.agg #[.slice none 0 0], .agg #[.int .u8 0, .int .u8 0, .int .u8 0, .int .u8 0, .int .u8 0, .int .u8 0, .int .u8 0, .int .u8 0, .int .u8 0, .int .u8 0, .int .u8 0, .int .u8 0, .int .u8 0, .int .u8 0, .int .u8 0, .int .u8 0, .int .i64 0]], []⟩).memory :=
  laidMet_of_run' 8 (by kernel_rfl) (by kernel_rfl)
theorem reads (os : Os) {H : Type} (enc : TypeId × Value → H) : ∃ places, DataW.whole enc Tryd.prog ((laidWorldR os).forCall (fun _ _ => 0) ⟨#[], #[.agg #[.slice none 0 0], .agg #[.int .u8 0, .int .u8 0, .int .u8 0, .int .u8 0, .int .u8 0, .int .u8 0, .int .u8 0, .int .u8 0, .int .u8 0, .int .u8 0, .int .u8 0, .int .u8 0, .int .u8 0, .int .u8 0, .int .u8 0, .int .u8 0, .int .i64 0]], []⟩).memory Tryd.f8.params.toList Rows.exchangeHalvesDivideSpec.vars false (#[.agg #[.slice none 0 0], .agg #[.int .u8 0, .int .u8 0, .int .u8 0, .int .u8 0, .int .u8 0, .int .u8 0, .int .u8 0, .int .u8 0, .int .u8 0, .int .u8 0, .int .u8 0, .int .u8 0, .int .u8 0, .int .u8 0, .int .u8 0, .int .u8 0, .int .i64 0]] : Array Value).toList 8 = some ([.agg [.nil], .agg [.agg [.lit (.int .u8 0), .lit (.int .u8 0), .lit (.int .u8 0), .lit (.int .u8 0), .lit (.int .u8 0), .lit (.int .u8 0), .lit (.int .u8 0), .lit (.int .u8 0), .lit (.int .u8 0), .lit (.int .u8 0), .lit (.int .u8 0), .lit (.int .u8 0), .lit (.int .u8 0), .lit (.int .u8 0), .lit (.int .u8 0), .lit (.int .u8 0)], .lit (.int .i64 0)]], [], places) :=
  ⟨[], by kernel_rfl⟩
set_option maxRecDepth 100000 in
theorem lifted (os : Os) (started : os.Started) (H : Type) (enc : TypeId × Value → H) (F : Stop.Interp) :
    ReturnsInHanded {} Tryd.checked os 8 .any ((OpenSpec.ofChange Rows.exchangeHalvesDivideSpec).preRow enc Tryd.prog Tryd.f8 Rows.exchangeHalvesDivideRow.domain false Rows.exchangeHalvesDivideRow.laid) (((OpenSpec.ofChange Rows.exchangeHalvesDivideSpec).at F).post enc Tryd.prog Tryd.f8 false true false false) := by
  obtain ⟨places, hx⟩ := reads os enc
  refine returnsInHanded_of_row (C := Tryd.checked) (s := OpenSpec.ofChange Rows.exchangeHalvesDivideSpec) own started (by kernel_rfl) Tryd.func8
    (witness_row_at (enc := enc) (C := Tryd.checked) false (laidWorldR os) #[.agg #[.slice none 0 0], .agg #[.int .u8 0, .int .u8 0, .int .u8 0, .int .u8 0, .int .u8 0, .int .u8 0, .int .u8 0, .int .u8 0, .int .u8 0, .int .u8 0, .int .u8 0, .int .u8 0, .int .u8 0, .int .u8 0, .int .u8 0, .int .u8 0, .int .i64 0]] rfl (by kernel_rfl) (by kernel_rfl) (by kernel_rfl)
      (OpenSpec.preRow_of_cond 8 hx (by kernel_rfl) (fun k hk => by cases hk) (by kernel_rfl) (laid_met os))) ?_
  intro W base args ds gs before hval hW _ _ _ hL _ _
  exact contract H enc W base args ds gs before hval hW hL
theorem said : Rows.ExchangeHalvesDivideSaid :=
  OpenClaim.holds_of_cond 8 Tryd.f8 rfl rfl rfl rfl rfl rfl rfl ⟨rfl, rfl, rfl, rfl, rfl⟩ rfl rfl rfl rfl rfl (by kernel_rfl) Tryd.func8 (by kernel_rfl)
    (of_decide_eq_true (by kernel_rfl)) (by unfold Func.isWrapper; first | (rw [if_pos (by decide +kernel)]; kernel_rfl) | (rw [if_neg (by decide +kernel)]; exact ⟨rfl, rfl⟩))
    (fun os started H enc _ F => by rw [OpenClaim.pre_eq_preRow]; exact lifted os started H enc F)
theorem plain (f : FuncId) (fn : Func) (hf : Tryd.pinned.checked.prog.funcNamed "antiquary/antiquarylaw44.ExchangeHalvesDivide" = some f) (hfn : Tryd.pinned.checked.prog.funcs[f]? = some fn) :
    false = Tryd.pinned.checked.prog.looks [] ∧ ∀ (j : Nat) t, fn.params[j]? = some t → Tryd.pinned.checked.prog.wantsStandIn t = false := by
  obtain rfl : f = 8 := Option.some.inj ((show Tryd.prog.funcNamed "antiquary/antiquarylaw44.ExchangeHalvesDivide" = some 8 by kernel_rfl).symm.trans hf) |>.symm
  obtain rfl : fn = Tryd.f8 := (Option.some.inj (Tryd.func8.symm.trans hfn)).symm
  refine ⟨by kernel_rfl, fun j t ht => ?_⟩
  rw [Tryd.params8] at ht
  have hm := Array.mem_of_getElem? ht
  have hall : Tryd.f8.params.toList.all (fun t => !Tryd.prog.wantsStandIn t) = true := by kernel_rfl
  rw [Tryd.params8] at hall
  have := List.all_eq_true.1 hall t (by simpa using hm)
  have h2 : Tryd.prog.wantsStandIn t = false := by simpa using this
  exact h2
theorem card_holds : Rows.ExchangeHalvesDivideCardSaid :=
  Claim7.holds_tied_plain_at .later [] _ _ _ _ said (fun _ h => by cases h) (by kernel_rfl) (fun _ h => by cases h) exchangeHalvesDivide_row_tie rfl ⟨rfl, rfl⟩ (by kernel_rfl) rfl plain (by kernel_rfl)
#print axioms card_holds
end Go.Proofs.YtieamjjnofelcaaDoor.exchangeHalvesDivide
