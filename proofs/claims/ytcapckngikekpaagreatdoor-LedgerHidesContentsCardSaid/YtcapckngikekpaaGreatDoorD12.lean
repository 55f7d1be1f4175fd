/-
  What is known of the functions that the laws of this seat reach, joined. Conditions: each theorem's own.
-/
import Derived.Test.YtcapckngikekpaaGreatDoorD11
import Derived.Test.YtcapckngikekpaaGreatDoorCards
import Derived.Test.YtcapckngikekpaaGreatDoorTie
import Derived.ProofKit
import Derived.OpenShut
import Derived.ShutString
import Derived.SliceStrings
import Derived.Carry
import Derived.Deep.DeepHandedRow
import Derived.Lib.LaidTab
import Derived.Stop.LaidErr
import Derived.Deep.Slices
import Derived.ChangeSame
import Derived.WideKeyPair
namespace Go.Proofs.YtcapckngikekpaaGreatDoor
set_option linter.unusedSimpArgs false
set_option linter.unusedVariables false
open Go.RowKit Exch Merk Ring
theorem wpList_putAt {P : Program} {w : World} {ops : Array Oper} {rest : List Oper} {o : Oper} {a : Act} {Q : Exit → Act → World → Prop} (hgd : o.guard = none) {ty : TypeId} {x y : Operand} (ho : o.op = .store ty x y) {g j : Nat} (hx : a.eval x = .pointer (some ⟨g, j, none⟩))
    {T : TypeId} {cs cs' : Array Value} {vs : List Value} (hy : a.eval y = .agg vs.toArray) (hb : Blk w g T cs) (hl : j + vs.length ≤ cs.size) (hi : (P.info? ty).map (·.size) = some vs.length) (h1 : ∀ v ∈ vs, v.oneCell' = true) (hcs : (cs.toList.take j ++ vs ++ cs.toList.drop (j + vs.length)).toArray = cs')
    (h : ∀ w', Turned g w w' → Blk w' g T cs' → wpList P ops Q rest (a.put o.dst undef) w') : wpList P ops Q (o :: rest) a w :=
  wpList_plain hgd fun K hK => wp_putAt ho hx hy hb hl hi h1 hcs fun w' h2 h3 => hK _ _ (h w' h2 h3)
/-- An event whose vector, attributes and nonce are others. -/
def otherR (r : EvR) (vA : Option Addr) (vn vc : Nat) (vl : List Int) (aA : Option Addr) (an ac : Nat) (al : List At) (n : Nat) : EvR := ⟨{ r.e with vec := vl, attrs := al, nonce := n }, vA, vn, vc, aA, an, ac⟩
theorem ev_set7 (r : EvR) (A : Option Addr) (n c : Nat) (l : List Int) : (evC r).setIfInBounds 7 (.slice A n c) = evC ⟨{ r.e with vec := l }, A, n, c, r.aA, r.an, r.ac⟩ := by simp [evC, evL]
theorem ev_set8 (r : EvR) (A : Option Addr) (n c : Nat) (l : List At) : (evC r).setIfInBounds 8 (.slice A n c) = evC ⟨{ r.e with attrs := l }, r.vA, r.vn, r.vc, A, n, c⟩ := by simp [evC, evL]
theorem ev_nonceSet (r : EvR) (b : Nat) : ((evC r).toList.take 9 ++ bv (dg b) ++ (evC r).toList.drop (9 + (bv (dg b)).length)).toArray = evC ⟨{ r.e with nonce := b }, r.vA, r.vn, r.vc, r.aA, r.an, r.ac⟩ := by
  have e : (evC r).toList.drop (9 + (bv (dg b)).length) = [] := List.drop_eq_nil_of_le (by rw [bv_dg_len]; show (evL r).length ≤ 25; rw [evL_len]; omega)
  rw [e, List.append_nil]
  have h : (evC r).toList.take 9 = [.int .i64 r.e.kind, .int .i64 r.e.commit, .int .i64 r.e.day, .int .i64 r.e.id, .int .i64 r.e.owner, .int .i64 r.e.til, .int .i64 r.e.frm, .slice r.vA r.vn r.vc, .slice r.aA r.an r.ac] := by
    show (evL r).take 9 = _
    unfold evL
    rw [List.take_append_of_le_length (by simp)]
    rfl
  rw [h]
  rfl
theorem face_other (H : He) (r : EvR) (vA : Option Addr) (vn vc : Nat) (vl : List Int) (aA : Option Addr) (an ac : Nat) (al : List At) (n : Nat) : { faceOf H (otherR r vA vn vc vl aA an ac al n).e with blind := (faceOf H r.e).blind } = faceOf H r.e := rfl
theorem face_same (H : He) (r : EvR) (vA : Option Addr) (vn vc : Nat) (vl : List Int) (aA : Option Addr) (an ac : Nat) (al : List At) (n : Nat) : (faceOf H (otherR r vA vn vc vl aA an ac al n).e = faceOf H r.e) ↔ ((faceOf H r.e).blind = (faceOf H (otherR r vA vn vc vl aA an ac al n).e).blind) := by
  constructor
  · intro h; rw [h]
  · intro h
    have := face_other H r vA vn vc vl aA an ac al n
    rw [← this, h]
theorem fc_c7 {W : World} {g : Nat} {f : Fc} (q : Blk W g 29 (fcC f)) : ∀ j u, (bv (dg f.blind))[j]? = some u → W.cell? ((⟨g, 7, none⟩ : Addr).add j) = some u := fc_bl q
theorem hidesBox (w : World) (r : EvR) (n : Nat) : ∃ wa : World, wa = (w.alloc (.cells (evC r) 27)).alloc (.cells (dgC n) 25) ∧ Below w.heap.size w wa ∧ Blk wa w.heap.size 27 (evC r) ∧ Blk wa (w.heap.size + 1) 25 (dgC n) := box2 w _ _ _ _
set_option maxRecDepth 100000 in
set_option maxHeartbeats 16000000 in
theorem walkLedgerHidesContents (r : EvR) (vA : Option Addr) (vn vc : Nat) (vl : List Int) (aA : Option Addr) (an ac : Nat) (al : List At) (n : Nat) (w : World) (hk : EvOk w r) (hw : EvWf r.e) (v1 : vn ≤ vc) (v2 : vc ≤ maxLen) (v3 : vl.length = vn) (v4 : Rd w vA vn (iv vl)) (v5 : fits64 vl)
    (a1 : an ≤ ac) (a2 : ac ≤ maxLen) (a3 : RdA w aA an al) (a4 : ∀ a ∈ al, (-9223372036854775808 ≤ a.kind ∧ a.kind ≤ 9223372036854775807) ∧ -9223372036854775808 ≤ a.n ∧ a.n ≤ 9223372036854775807) (hn : n < 2 ^ 128) (hg : GCon w) (hrc : RCon w) (hgb : GBru w) :
    Calls Tryz.prog 9 #[evV r, .slice vA vn vc, .slice aA an ac, dgV n] w fun e w' => e = .returned (.bool true) ∧ Below w.heap.size w w' := by
  obtain ⟨wa, hwa, hb0, q1, q2⟩ := hidesBox w r n
  have HWA := Lib.hid hwa
  obtain ⟨R, hR⟩ : ∃ R, otherR r vA vn vc vl aA an ac al n = R := ⟨_, rfl⟩
  have hkR : EvOk w R := by rw [← hR]; exact ⟨v3, v4, v1, v2, a3, a1, a2, hn⟩
  have hwR : EvWf R.e := by rw [← hR]; exact ⟨v5, a4, hw.nums⟩
  have HC1 := Lib.hid (ev_set7 r vA vn vc vl)
  have HC2 := Lib.hid (ev_set8 ⟨{ r.e with vec := vl }, vA, vn, vc, r.aA, r.an, r.ac⟩ aA an ac al)
  have HC3 : Hid (((evC ⟨{ ({ r.e with vec := vl } : Ev) with attrs := al }, vA, vn, vc, aA, an, ac⟩).toList.take 9 ++ bv (dg n) ++ (evC ⟨{ ({ r.e with vec := vl } : Ev) with attrs := al }, vA, vn, vc, aA, an, ac⟩).toList.drop (9 + (bv (dg n)).length)).toArray = evC R) := Lib.hid (by rw [ev_nonceSet, ← hR]; rfl)
  have HSA := Lib.hid (fun W (hb : Below w.heap.size w W) => sane W (hg.below hb) (hrc.below hb) (hgb.below hb))
  have HFW := Lib.hid (fun W (hb : Below w.heap.size w W) => fewEvent_any r W (hk.below hb))
  have HFR := Lib.hid (fun W (hb : Below w.heap.size w W) => fewEvent_any R W (hkR.below hb))
  have HI := Lib.hid (fewB_iff r.e)
  have HIR := Lib.hid (fewB_iff R.e)
  have HFO := Lib.hid (fun (hf : EvFew r.e) W (hb : Below w.heap.size w W) => faceOf_any lds r W (hk.below hb) hw hf (hg.below hb))
  have HFP := Lib.hid (fun (hf : EvFew R.e) W (hb : Below w.heap.size w W) => faceOf_any lds R W (hkR.below hb) hwR hf (hg.below hb))
  have HXX := Lib.hid (fun (hf : EvFew r.e) W (hb : Below w.heap.size w W) => opens_any lds (faceOf theHe r.e) r W (faceOf_lt lds r.e) (hk.below hb) hw hf (hg.below hb))
  have HXR := Lib.hid (fun (hf : EvFew R.e) W (hb : Below w.heap.size w W) => opens_any lds (faceOf theHe r.e) R W (faceOf_lt lds r.e) (hkR.below hb) hwR hf (hg.below hb))
  have HYX := Lib.hid (fun (hf : EvFew r.e) W (hb : Below w.heap.size w W) => opens_any lds (faceOf theHe R.e) r W (faceOf_lt lds R.e) (hk.below hb) hw hf (hg.below hb))
  have hf1 := faceOf_lt lds r.e
  have hf2 := faceOf_lt lds R.e
  have hiff : (faceOf theHe R.e = faceOf theHe r.e) ↔ ((faceOf theHe r.e).blind = (faceOf theHe R.e).blind) := by rw [← hR]; exact face_same theHe r vA vn vc vl aA an ac al n
  have hoth : { faceOf theHe R.e with blind := (faceOf theHe r.e).blind } = faceOf theHe r.e := by rw [← hR]; exact face_other theHe r vA vn vc vl aA an ac al n
  have h25 := evL_len
  have h23 := fcL_len
  have hs23 := fcC_size
  have hs25 := evC_size
  have hce := blk_row (xs := evL r) q1
  clear hwa hk hw v1 v2 v3 v4 v5 a1 a2 a3 a4 hn hg hrc hgb hkR hwR hR
  unfold BIs at *
  unfold FcIs at HFO HFP
  generalize hF1 : faceOf theHe r.e = F at *
  generalize hF2 : faceOf theHe R.e = G at *
  clear hF1 hF2
  obtain ⟨b, hbd⟩ : ∃ b, decide (F.blind = G.blind) = b := ⟨_, rfl⟩
  have hb1 : decide (G = F) = b := by rw [← hbd]; exact decide_eq_decide.2 hiff
  have hb2 : decide (F = G) = b := by rw [← hb1]; exact decide_eq_decide.2 eq_comm
  rw [show decide (F = F) = true from decide_eq_true rfl] at HXX
  rw [hb1] at HXR
  rw [hb2] at HYX
  have HOT := Lib.hid hoth
  have hEF := Lib.hid (fun W => (by have := eql_Fc hf1 hf1 W; rw [show decide (F = F) = true from decide_eq_true rfl] at this; exact this : (binOp .eql 29 (fcV F) (fcV F)).run Tryz.prog W = .ok (.bool true) W))
  clear hiff hoth hb1 hb2
  have HQ1 := Lib.hid (fun W (h : Below wa.heap.size wa W) => q1.below h)
  have HQ2 := Lib.hid (fun W (h : Below wa.heap.size wa W) => blk_row (xs := bv (dg n)) (q2.below h))
  go_enter Tryz.func9, Tryz.ntmps9
  go_upto_region 1 with fail
  change Code.wp _ _ _ _ ((w.alloc (.cells (evC r) 27)).alloc (.cells (dgC n) 25))
  rw [← HWA.out]
  have h25r := h25 r
  go_upto_region 2 with (first
    | ((with_reducible show wpList _ _ _ (⟨some 16, _, _, _, _, _⟩ :: _) _ _); refine wpList_loadK (us := evL r) rfl rfl rfl aggEv (by rw [sizeEv, h25r]) hce ?_)
    | ((with_reducible show wpList _ _ _ (⟨some 9, _, _, _, _, _⟩ :: _) _ _); refine wpList_newRow (z := evC zeroEvR) (vs := evC r) rfl rfl rfl rfl (zeroEv_v _) (fun _ => rfl) (fun _ => rfl) (by rw [hs25, hs25]) (by rw [sizeEv, hs25]) (one_evC _) ?_; intro w1 g9 hg9 b9 hb1 lt1; have hg9' : wa.heap.size ≤ g9 := (by omega); clear hg9 lt1))
  clear hce q1 q2
  go_upto_region 3 with ((with_reducible show wpList _ _ _ (⟨none, _, _, _, _, _⟩ :: _) _ _); refine wpList_set rfl rfl (by kernel_rfl) rfl rfl rfl b9 (by rw [hs25]; omega) HC1.out ?_; intro w2 ht2 b92)
  go_upto_region 4 with ((with_reducible show wpList _ _ _ (⟨none, _, _, _, _, _⟩ :: _) _ _); refine wpList_set rfl rfl (by kernel_rfl) rfl rfl rfl b92 (by rw [hs25]; omega) HC2.out ?_; intro w3 ht3 b93)
  have hb3 : Below wa.heap.size wa w3 := (hb1.trans (ht2.below _ hg9')).trans (ht3.below _ hg9')
  have hcn := HQ2.out _ hb3
  clear b9 b92 ht2 ht3 hb1
  go_upto_region 5 with (first
    | ((with_reducible show wpList _ _ _ (⟨some 21, _, _, _, _, _⟩ :: _) _ _); refine wpList_loadK (us := bv (dg n)) rfl rfl rfl aggDg (by rw [sizeDg, bv_dg_len]) hcn ?_)
    | ((with_reducible show wpList _ _ _ (⟨none, _, _, _, _, _⟩ :: _) _ _); refine wpList_putAt (vs := bv (dg n)) rfl rfl rfl rfl b93 (by rw [bv_dg_len, hs25]; omega) (by rw [sizeDg, bv_dg_len]) (one_bvL _) HC3.out ?_; intro w4 ht4 b94))
  have hb4 : Below wa.heap.size wa w4 := hb3.trans (ht4.below _ hg9')
  have hce := blk_row (xs := evL r) (HQ1.out _ hb4)
  have hcR := blk_row (xs := evL R) b94
  have h25R := h25 R
  replace hb0 := bstep hb0 hb4
  clear hcn b93 ht4 hb3 hb4 HQ1 HQ2 b94 hg9'
  go_wp2_with ((with_reducible show wpList _ _ _ (⟨some 23, _, _, _, _, _⟩ :: _) _ _); refine wpList_loadK (us := evL r) rfl rfl rfl aggEv (by rw [sizeEv, h25r]) hce ?_)
  refine (HFW.out _ hb0).mono ?_
  rintro e w5 ⟨rfl, hbx⟩
  replace hce := fun j u h => cell_later hbx (hce j u h)
  replace hcR := fun j u h => cell_later hbx (hcR j u h)
  replace hb0 := bstep hb0 hbx
  clear hbx
  go_wp2_with ((with_reducible show wpList _ _ _ (⟨some 25, _, _, _, _, _⟩ :: _) _ _); refine wpList_loadK (us := evL R) rfl rfl rfl aggEv (by rw [sizeEv, h25R]) hcR ?_)
  refine (HFR.out _ hb0).mono ?_
  rintro e w6 ⟨rfl, hbx⟩
  replace hce := fun j u h => cell_later hbx (hce j u h)
  replace hcR := fun j u h => cell_later hbx (hcR j u h)
  replace hb0 := bstep hb0 hbx
  clear hbx HFW HFR
  generalize fewB r.e = B1 at *
  generalize fewB R.e = B2 at *
  by_cases hB : B1 = true ∧ B2 = true
  rotate_left
  · have hh : B1 = false ∨ (B1 = true ∧ B2 = false) := by cases B1 <;> cases B2 <;> simp_all
    clear HI HIR HFO HFP HXX HXR HYX hB
    rcases hh with rfl | ⟨rfl, rfl⟩
    all_goals (go_wp2_with fail; refine (HSA.out _ hb0).mono ?_; rintro e w7 ⟨rfl, hb7⟩; go_wp2_with fail; go_ret; exact ⟨rfl, bstep hb0 hb7⟩)
  obtain ⟨rfl, rfl⟩ := hB
  have hfr : EvFew r.e := HI.out.1 rfl
  have hfR : EvFew R.e := HIR.out.1 rfl
  have HFO' := Lib.hid (HFO.out hfr)
  have HFP' := Lib.hid (HFP.out hfR)
  have HXX' := Lib.hid (HXX.out hfr)
  have HXR' := Lib.hid (HXR.out hfR)
  have HYX' := Lib.hid (HYX.out hfr)
  clear HI HIR HFO HFP HXX HXR HYX hfr hfR
  go_wp2_with ((with_reducible show wpList _ _ _ (⟨some 34, _, _, _, _, _⟩ :: _) _ _); refine wpList_loadK (us := evL r) rfl rfl rfl aggEv (by rw [sizeEv, h25r]) hce ?_)
  refine (HFO'.out _ hb0).mono ?_
  rintro e w7 ⟨rfl, hb7⟩
  go_upto_region 10 with ((with_reducible show wpList _ _ _ (⟨some 12, _, _, _, _, _⟩ :: _) _ _); refine wpList_newRow (z := fcC zeroFc) (vs := fcC F) rfl rfl rfl rfl (zeroFc_v _) (fun _ => rfl) (fun _ => rfl) (by rw [hs23, hs23]) (by rw [sizeFc, hs23]) (one_fcC _) ?_; intro w8 g12 hg12 b12 hb8 lt8; clear hg12 lt8)
  have hbx := bstep hb7 hb8
  replace hce := fun j u h => cell_later hbx (hce j u h)
  replace hcR := fun j u h => cell_later hbx (hcR j u h)
  replace hb0 := bstep hb0 hbx
  clear hbx hb7 hb8
  go_wp2_with ((with_reducible show wpList _ _ _ (⟨some 36, _, _, _, _, _⟩ :: _) _ _); refine wpList_loadK (us := evL R) rfl rfl rfl aggEv (by rw [sizeEv, h25R]) hcR ?_)
  refine (HFP'.out _ hb0).mono ?_
  rintro e w9 ⟨rfl, hb9⟩
  go_upto_region 11 with ((with_reducible show wpList _ _ _ (⟨some 13, _, _, _, _, _⟩ :: _) _ _); refine wpList_newRow (z := fcC zeroFc) (vs := fcC G) rfl rfl rfl rfl (zeroFc_v _) (fun _ => rfl) (fun _ => rfl) (by rw [hs23, hs23]) (by rw [sizeFc, hs23]) (one_fcC _) ?_; intro wA g13 hg13 b13 hbA ltA; clear hg13 ltA)
  have hbx := bstep hb9 hbA
  replace hce := fun j u h => cell_later hbx (hce j u h)
  replace hcR := fun j u h => cell_later hbx (hcR j u h)
  replace hb0 := bstep hb0 hbx
  replace b12 := b12.below hbx
  clear hbx hb9 hbA
  have hl12 := fc_c7 b12
  have hl13 := fc_c7 b13
  go_upto_region 12 with (first
    | ((with_reducible show wpList _ _ _ (⟨some 39, _, _, _, _, _⟩ :: _) _ _); refine wpList_loadK (us := bv (dg F.blind)) rfl rfl rfl aggDg (by rw [sizeDg, bv_dg_len]) hl12 ?_)
    | ((with_reducible show wpList _ _ _ (⟨some 41, _, _, _, _, _⟩ :: _) _ _); refine wpList_loadK (us := bv (dg G.blind)) rfl rfl rfl aggDg (by rw [sizeDg, bv_dg_len]) hl13 ?_)
    | ((with_reducible show wpList _ _ _ (⟨some 42, _, _, _, _, _⟩ :: _) _ _); refine wpList_eqDg (by rfl) rfl rfl rfl hf1 hf2 (fun W => by kernel_rfl) ?_; rw [hbd]))
  have hr13 := blk_row (xs := fcL G) b13
  have h23G := h23 G
  have h23F := h23 F
  go_upto_region 13 with (first
    | ((with_reducible show wpList _ _ _ (⟨some 43, _, _, _, _, _⟩ :: _) _ _); refine wpList_loadK (us := fcL G) rfl rfl rfl aggFc (by rw [sizeFc, h23G]) hr13 ?_)
    | ((with_reducible show wpList _ _ _ (⟨some 15, _, _, _, _, _⟩ :: _) _ _); refine wpList_newRow (z := fcC zeroFc) (vs := fcC G) rfl rfl rfl rfl (zeroFc_v _) (fun _ => rfl) (fun _ => rfl) (by rw [hs23, hs23]) (by rw [sizeFc, hs23]) (one_fcC _) ?_; intro wB g15 hg15 b15 hbB ltB; have hg15' : wA.heap.size ≤ g15 := (by omega); clear hg15 ltB))
  have HB15 : Hid (((fcC G).toList.take 7 ++ bv (dg F.blind) ++ (fcC G).toList.drop (7 + (bv (dg F.blind)).length)).toArray = fcC F) := Lib.hid (by rw [fc_blind, HOT.out])
  replace hl12 := fun j u h => cell_later hbB (hl12 j u h)
  go_upto_region 14 with (first
    | ((with_reducible show wpList _ _ _ (⟨some 45, _, _, _, _, _⟩ :: _) _ _); refine wpList_loadK (us := bv (dg F.blind)) rfl rfl rfl aggDg (by rw [sizeDg, bv_dg_len]) hl12 ?_)
    | ((with_reducible show wpList _ _ _ (⟨none, _, _, _, _, _⟩ :: _) _ _); refine wpList_putAt (vs := bv (dg F.blind)) rfl rfl rfl rfl b15 (by rw [bv_dg_len, hs23]; omega) (by rw [sizeDg, bv_dg_len]) (one_bvL _) HB15.out ?_; intro wC htC b15c))
  have hbC : Below wA.heap.size wA wC := hbB.trans (htC.below _ hg15')
  replace hce := fun j u h => cell_later hbC (hce j u h)
  replace hcR := fun j u h => cell_later hbC (hcR j u h)
  replace hb0 := bstep hb0 hbC
  replace b12 := b12.below hbC
  replace b13 := b13.below hbC
  clear hbC hbB htC b15 hg15' hl12 hl13 hr13
  go_wp2_with fail
  refine (HSA.out _ hb0).mono ?_
  rintro e wD ⟨rfl, hbx⟩
  replace hce := fun j u h => cell_later hbx (hce j u h)
  replace hcR := fun j u h => cell_later hbx (hcR j u h)
  replace hb0 := bstep hb0 hbx
  replace b12 := b12.below hbx
  replace b13 := b13.below hbx
  replace b15c := b15c.below hbx
  clear hbx
  have hx12 := blk_row (xs := fcL F) b12
  have hx15 := blk_row (xs := fcL F) b15c
  go_wp2_with (first
    | ((with_reducible show wpList _ _ _ (⟨some 49, _, _, _, _, _⟩ :: _) _ _); refine wpList_loadKW (us := fcL F) (by rfl) rfl rfl aggFc (by rw [sizeFc, h23F]) hx15 ?_)
    | ((with_reducible show wpList _ _ _ (⟨some 50, _, _, _, _, _⟩ :: _) _ _); refine wpList_loadKW (us := fcL F) (by rfl) rfl rfl aggFc (by rw [sizeFc, h23F]) hx12 ?_)
    | ((with_reducible show wpList _ _ _ (⟨some 51, _, _, _, _, _⟩ :: _) _ _); refine wpList_eqlW (v := .bool true) (by rfl) rfl rfl rfl (fun W => by kernel_rfl) (hEF.out _) ?_)
    | ((with_reducible show wpList _ _ _ (⟨some 54, _, _, _, _, _⟩ :: _) _ _); refine wpList_loadKW (us := fcL F) (by rfl) rfl rfl aggFc (by rw [sizeFc, h23F]) hx12 ?_)
    | ((with_reducible show wpList _ _ _ (⟨some 55, _, _, _, _, _⟩ :: _) _ _); refine wpList_loadKW (us := evL r) (by rfl) rfl rfl aggEv (by rw [sizeEv, h25r]) hce ?_))
  refine (HXX'.out _ hb0).mono ?_
  rintro e wE ⟨rfl, hbx⟩
  replace hce := fun j u h => cell_later hbx (hce j u h)
  replace hcR := fun j u h => cell_later hbx (hcR j u h)
  replace hb0 := bstep hb0 hbx
  replace hx12 := fun j u h => cell_later hbx (hx12 j u h)
  replace b13 := b13.below hbx
  clear hbx hx15 b12 b15c
  go_wp2_with (first
    | ((with_reducible show wpList _ _ _ (⟨some 59, _, _, _, _, _⟩ :: _) _ _); refine wpList_loadKW (us := fcL F) (by rfl) rfl rfl aggFc (by rw [sizeFc, h23F]) hx12 ?_)
    | ((with_reducible show wpList _ _ _ (⟨some 60, _, _, _, _, _⟩ :: _) _ _); refine wpList_loadKW (us := evL R) (by rfl) rfl rfl aggEv (by rw [sizeEv, h25R]) hcR ?_))
  refine (HXR'.out _ hb0).mono ?_
  rintro e wF ⟨rfl, hbx⟩
  replace hce := fun j u h => cell_later hbx (hce j u h)
  replace hb0 := bstep hb0 hbx
  replace b13 := b13.below hbx
  have hx13 := blk_row (xs := fcL G) b13
  clear hbx hx12 hcR b13
  go_wp2_with (first
    | ((with_reducible show wpList _ _ _ (⟨some 63, _, _, _, _, _⟩ :: _) _ _); refine wpList_eqlW (v := .bool true) (by rfl) rfl rfl rfl (fun W => by cases b <;> kernel_rfl) (run_eqB b _) ?_)
    | ((with_reducible show wpList _ _ _ (⟨some 66, _, _, _, _, _⟩ :: _) _ _); refine wpList_loadKW (us := fcL G) (by rfl) rfl rfl aggFc (by rw [sizeFc, h23G]) hx13 ?_)
    | ((with_reducible show wpList _ _ _ (⟨some 67, _, _, _, _, _⟩ :: _) _ _); refine wpList_loadKW (us := evL r) (by rfl) rfl rfl aggEv (by rw [sizeEv, h25r]) hce ?_))
  refine (HYX'.out _ hb0).mono ?_
  rintro e wG ⟨rfl, hbx⟩
  go_wp2_with ((with_reducible show wpList _ _ _ (⟨some 70, _, _, _, _, _⟩ :: _) _ _); refine wpList_eqlW (v := .bool true) (by rfl) rfl rfl rfl (fun W => by cases b <;> kernel_rfl) (run_eqB b _) ?_)
  go_ret
  exact ⟨rfl, bstep hb0 hbx⟩
end Go.Proofs.YtcapckngikekpaaGreatDoor
namespace Go.Proofs.YtcapckngikekpaaGreatDoor
set_option linter.unusedSimpArgs false
set_option linter.unusedVariables false
set_option maxRecDepth 20000
open Go.ChangeShapes Go.WideShapes Go.ChangeAt Go.RowKit Sha Exch Merk Ring
theorem own : ownKnob Tryz.prog.godebug = none := by kernel_rfl
theorem laidOut : laidOutB Tryz.prog = true := by kernel_rfl
theorem gCon : Tryz.prog.globalNamed "antiquary/hash.constants" = some 2 := by kernel_rfl
theorem gConT : (Tryz.prog.globals[2]?).map (·.type) = some 214 := by kernel_rfl
theorem con_of {W : World} {rest : List (String × DataW Unit)} (h : laidMet Tryz.prog (("antiquary/hash.constants", Rows.laid_antiquary_hash_constants) :: rest) W) : GCon W := by
  have t : Lib.TabIs Tryz.prog W "antiquary/hash.constants" .u32 (K.map fun n => ((n : Nat) : Int)) :=
    Lib.tabIs_of_head (rest := rest) gCon gConT (n := 64) (e := 186) (by kernel_rfl) (by kernel_rfl) (by kernel_rfl) (by kernel_rfl) h
  unfold Lib.TabIs World.var? at t
  rw [gCon] at t
  simp only [Option.bind_some] at t
  split at t
  · rename_i cs T fr hh
    injection t with t
    refine ⟨T, fr, ?_⟩
    rw [hh, t]
    simp [wv]
  · cases t
/-- A world for the witness: the settled one, the tables holding what their initialisers lay. -/
def layRow (cs : Array Value) : Obj → Obj
  | .cells _ t frozen => .cells cs t frozen
  | o => o
noncomputable def laidWorld (os : Os) : World :=
  { World.holding Tryz.prog os ⟨#[], #[], []⟩ with heap := (World.holding Tryz.prog os ⟨#[], #[], []⟩).heap.modify 2 (layRow (K.map fun n => Value.int .u32 (n : Nat)).toArray) }
theorem gRef : Tryz.prog.globalNamed "antiquary/antiquaryref02.constants" = some 3 := by kernel_rfl
theorem gRefT : (Tryz.prog.globals[3]?).map (·.type) = some 214 := by kernel_rfl
theorem rcon_of {W : World} {rest : List (String × DataW Unit)} (h : laidMet Tryz.prog (("antiquary/antiquaryref02.constants", Rows.laid_antiquary_antiquaryref02_constants) :: rest) W) : RCon W := by
  have t : Lib.TabIs Tryz.prog W "antiquary/antiquaryref02.constants" .u32 (K.map fun n => ((n : Nat) : Int)) :=
    Lib.tabIs_of_head (rest := rest) gRef gRefT (n := 64) (e := 186) (by kernel_rfl) (by kernel_rfl) (by kernel_rfl) (by kernel_rfl) h
  intro k hk
  have hlen : K.length = 64 := by decide
  rw [t.cell gRef k (by simp [hlen, hk])]
  simp [hlen, hk]
theorem gBru : Tryz.prog.globalNamed "math/bits.deBruijn64tab" = some 1 := by kernel_rfl
theorem gBruT : (Tryz.prog.globals[1]?).map (·.type) = some 188 := by kernel_rfl
theorem bru_of {W : World} {rest : List (String × DataW Unit)} (h : laidMet Tryz.prog (("math/bits.deBruijn64tab", Rows.laid_math_bits_deBruijn64tab) :: rest) W) : GBru W := by
  have t : Lib.TabIs Tryz.prog W "math/bits.deBruijn64tab" .u8 (Lib.deBruijn64tab.map fun n => ((n : Nat) : Int)) :=
    Lib.tabIs_of_head (rest := rest) gBru gBruT (n := 64) (e := 5) (by kernel_rfl) (by kernel_rfl) (by kernel_rfl) (by kernel_rfl) h
  intro k hk
  have hlen : Lib.deBruijn64tab.length = 64 := by decide
  rw [t.cell gBru k (by simp [hlen, hk])]
  simp [hlen, hk]
noncomputable def laidWorldR (os : Os) : World :=
  { laidWorld os with heap := (((laidWorld os).heap.modify 3 (layRow (K.map fun n => Value.int .u32 (n : Nat)).toArray)).modify 1 (layRow (Lib.deBruijn64tab.map fun n => Value.int .u8 (n : Nat)).toArray)).modify 0 (layRow (Lib.deBruijn32tab.map fun n => Value.int .u8 (n : Nat)).toArray) }
def partsT : TypeDesc → List (Nat × TypeId)
  | .struct fs => fs.toList.map fun f => (f.offset, f.type)
  | _ => []
theorem fields_of {d : Option TypeDesc} {l : List (Nat × TypeId)} (h : d.map partsT = some l) (hl : l ≠ []) : ∃ fs : Array Field, d = some (.struct fs) ∧ fs.toList.map (fun f => (f.offset, f.type)) = l := by
  cases d with
  | none => simp at h
  | some d =>
    simp only [Option.map_some, Option.some.injEq] at h
    cases d <;> simp only [partsT] at h <;> try (exact absurd h.symm hl)
    rename_i fs
    exact ⟨fs, rfl, h⟩
section
variable {H : Type} {enc : TypeId × Value → H} {W : World} {P : Program}
/-- The parts of a struct. -/
theorem struct_at {base fuel : Nat} {t : TypeId} {L : List (Nat × TypeId)} {cs : List Value} {x : DataW H × List MemPlace} (hu : (P.underlying t).map partsT = some L) (hL : L ≠ []) (h : DataW.trod enc P W base (fun _ => true) true fuel t cs = some x) :
    cs.length = P.cellsOf t ∧ ∀ (i o : Nat) (ty : TypeId), L[i]? = some (o, ty) → ∃ n y, DataW.trod enc P W base (fun _ => true) true n ty ((cs.drop o).take (P.cellsOf ty)) = some y := by
  obtain ⟨fs, hs, hf⟩ := fields_of hu hL
  obtain ⟨xs, n, _, _, hcl, hxl, hx⟩ := DataW.trod_struct hs h
  refine ⟨hcl, fun i o ty hi => ?_⟩
  rw [← hf, List.getElem?_map, Option.map_eq_some_iff] at hi
  obtain ⟨f, h1, h2⟩ := hi
  injection h2 with e1 e2
  subst e1; subst e2
  have h3 : fs[i]? = some f := by rw [← h1]; simp
  have h4 := hx i f h3
  rw [List.getElem?_eq_getElem (by rw [hxl]; exact (Array.getElem?_eq_some_iff.1 h3).1)] at h4
  exact ⟨n, _, h4⟩
theorem open_bytes {base fuel k : Nat} {t e : TypeId} (hu : P.underlying t = some (.array k e)) (he : P.underlying e = some (.int .u8)) (hc : P.cellsOf e = 1) (hct : P.cellsOf t = k) {cs : List Value} {x : DataW H × List MemPlace}
    (h : DataW.trod enc P W base (fun _ => true) true fuel t cs = some x) : ∃ L : List UInt8, cs = bv L ∧ L.length = k := by
  obtain ⟨xs, m, _, _, hl, hxl, hrow⟩ := DataW.trod_array hu h
  rw [hct] at hl
  have each : ∀ i, i < k → ∃ b : UInt8, cs[i]? = some (.int .u8 (b.toNat : Nat)) := fun i hi => by
    have h1 := hrow i hi
    rw [hc, Nat.mul_one] at h1
    rw [List.getElem?_eq_getElem (by omega)] at h1
    obtain ⟨n, e1, _, hw⟩ := DataW.trod_int he h1
    have hn : 0 ≤ n ∧ n < 256 := by simp [Lit.wf, IntKind.min, IntKind.max, IntKind.bits, IntKind.signed] at hw; omega
    refine ⟨UInt8.ofNat n.toNat, ?_⟩
    have e2 : cs[i]? = some (.int .u8 n) := by
      have h3 : (cs.drop i)[0]? = some (.int .u8 n) := by
        have : ((cs.drop i).take 1)[0]? = some (.int .u8 n) := by rw [e1]; rfl
        rwa [List.getElem?_take_of_lt (by omega)] at this
      rwa [List.getElem?_drop, Nat.add_zero] at h3
    rw [e2]
    have : ((UInt8.ofNat n.toNat).toNat : Int) = n := by simp; omega
    rw [this]
  haveI : Inhabited UInt8 := ⟨0⟩
  obtain ⟨f, hf2⟩ := Go.Deep.choose_lt each
  refine ⟨(List.range k).map f, ?_, by simp⟩
  apply List.ext_getElem?
  intro i
  by_cases hi : i < k
  · rw [hf2 i hi]
    simp [bv, hi]
  · rw [List.getElem?_eq_none (by omega), List.getElem?_eq_none (by simp [bv]; omega)]
/-- A slice of elements of k cells. -/
theorem open_rowCells {α : Type} [Inhabited α] {base fuel k : Nat} {t e : TypeId} (ht : P.underlying t = some (.slice e)) (hc : P.cellsOf e = k) (hk : 0 < k) (f : α → List Value) (hf : ∀ x, (f x).length = k) (Wf : α → Prop)
    (hel : ∀ base fuel cs x, DataW.trod enc P W base (fun _ => true) true fuel e cs = some x → ∃ a, cs = f a ∧ Wf a) {cs : List Value} {x : DataW H × List MemPlace} (h : DataW.trod enc P W base (fun _ => true) true fuel t cs = some x) :
    ∃ A n c, ∃ l : List α, cs = [.slice A n c] ∧ n ≤ c ∧ c ≤ maxLen ∧ l.length = n ∧ Rd W A (n * k) (l.flatMap f) ∧ ∀ a ∈ l, Wf a := by
  rcases Go.Deep.open_slice ht h with ⟨hcs, _⟩ | ⟨x, n, c, m, q, D, Pl, hcs, _, hl, hm, hmm, _, hrow⟩
  · exact ⟨none, 0, 0, [], hcs, Nat.le_refl _, by simp [maxLen], rfl, by rw [Nat.zero_mul]; exact Rd.none_ _, by simp⟩
  · simp only [if_true] at hmm
    have each : ∀ i, i < n → ∃ a : α, (∀ j u, (f a)[j]? = some u → W.cell? ((x.add (i * k)).add j) = some u) ∧ Wf a := fun i hi => by
      obtain ⟨cs', h1, h2⟩ := hrow i (by omega)
      obtain ⟨a, rfl, hw⟩ := hel _ _ _ _ h2
      refine ⟨a, fun j u hj => ?_, hw⟩
      rw [hc] at h1
      obtain ⟨_, hlen, hcell⟩ := World.cells?_some h1
      rw [hcell j (by have := (List.getElem?_eq_some_iff.1 hj).1; rw [hf] at this; exact this), hj]
    obtain ⟨K, hK⟩ := Go.Deep.choose_lt each
    refine ⟨some x, n, c, (List.range n).map K, hcs, hl, hm, by simp, ⟨by rw [length_fl hf]; simp, fun j u hj => ⟨x, rfl, ?_⟩⟩, fun r hr => ?_⟩
    · have hlt := (List.getElem?_eq_some_iff.1 hj).1
      rw [length_fl hf] at hlt
      simp only [List.length_map, List.length_range] at hlt
      have hdk : j / k < n := Nat.div_lt_of_lt_mul (by rw [Nat.mul_comm]; exact hlt)
      have e : j = j / k * k + j % k := by rw [Nat.mul_comm]; exact (Nat.div_add_mod j k).symm
      have hg := fl_get hf ((List.range n).map K) (j / k) (by simp; exact hdk) (j % k) (Nat.mod_lt _ hk)
      rw [← e] at hg
      rw [hg] at hj
      simp only [List.getElem_map, List.getElem_range] at hj
      have := (hK (j / k) hdk).1 (j % k) u hj
      rw [add_of_add, ← e] at this
      exact this
    · simp only [List.mem_map, List.mem_range] at hr
      obtain ⟨i, hi, rfl⟩ := hr
      exact (hK i hi).2
end
section
variable {H : Type} {enc : TypeId × Value → H} {W : World}
theorem uDg : Tryz.prog.underlying 25 = some (.array 16 5) := by kernel_rfl
theorem cDg : Tryz.prog.cellsOf 25 = 16 := by kernel_rfl
theorem cInt : Tryz.prog.cellsOf 3 = 1 := by kernel_rfl
theorem cStr : Tryz.prog.cellsOf 9 = 1 := by kernel_rfl
theorem uInt : Tryz.prog.underlying 3 = some (.int .i64) := by kernel_rfl
theorem uStr : Tryz.prog.underlying 9 = some .string := by kernel_rfl
theorem open_dgCells {base fuel : Nat} {cs : List Value} {x : DataW H × List MemPlace} (h : DataW.trod enc Tryz.prog W base (fun _ => true) true fuel 25 cs = some x) : ∃ n, cs = bv (dg n) ∧ n < 2 ^ 128 := by
  obtain ⟨L, rfl, hl⟩ := open_bytes uDg (by kernel_rfl) (by kernel_rfl) cDg h
  refine ⟨val L, by rw [dg_val hl], ?_⟩
  have := val_lt L
  rw [hl] at this
  exact this
theorem open_digest {base : Nat} {v : Value} {d : DataW H} {p : List MemPlace} (hval : Value.okWide Tryz.prog W .any base 25 v) (h : DataW.Trod enc Tryz.prog W 0 (fun _ => true) true 25 v d p) : ∃ n, v = dgV n ∧ n < 2 ^ 128 := by
  simp only [Value.okWide, uDg] at hval
  obtain ⟨cs, rfl, _⟩ := hval
  obtain ⟨fuel, hf⟩ := h
  obtain ⟨n, e, hn⟩ := open_dgCells hf
  refine ⟨n, ?_, hn⟩
  simp only [Value.cells] at e
  show Value.agg cs = .agg (bv (dg n)).toArray
  rw [← e]
theorem cut_at (cs : List Value) (o n : Nat) : cs.drop o = (cs.drop o).take n ++ cs.drop (o + n) := by
  rw [← List.drop_drop]; exact (List.take_append_drop n (cs.drop o)).symm
theorem okWide_structQ {P : Program} {base : Nat} {t : TypeId} {fs : Array Field} {v : Value} (hs : P.underlying t = some (.struct fs)) (hval : Value.okWide P W .any base t v) : ∃ cs, v = .agg cs := by
  simp only [Value.okWide, hs] at hval
  obtain ⟨cs, rfl, _⟩ := hval
  exact ⟨cs, rfl⟩
theorem wf_int {n : Int} (h : (Lit.int .i64 n).wf = true) : -9223372036854775808 ≤ n ∧ n ≤ 9223372036854775807 := by
  simp [Lit.wf, IntKind.min, IntKind.max, IntKind.bits, IntKind.signed] at h
  omega
theorem oInt {base fuel : Nat} {cs : List Value} {x : DataW H × List MemPlace} (h : DataW.trod enc Tryz.prog W base (fun _ => true) true fuel 3 cs = some x) : ∃ z : Int, cs = [.int .i64 z] ∧ -9223372036854775808 ≤ z ∧ z ≤ 9223372036854775807 := by
  obtain ⟨z, e, _, w⟩ := DataW.trod_int uInt h
  exact ⟨z, e, wf_int w⟩
theorem oStr {base fuel : Nat} {cs : List Value} {x : DataW H × List MemPlace} (h : DataW.trod enc Tryz.prog W base (fun _ => true) true fuel 9 cs = some x) : ∃ s : ByteArray, cs = [.string s] ∧ s.size ≤ maxLen := by
  obtain ⟨s, e, _, w⟩ := DataW.trod_string uStr h
  exact ⟨s, e, w⟩
instance : Inhabited At := ⟨⟨⟨#[]⟩, 0, 0, ⟨#[]⟩⟩⟩
instance : Inhabited EvR := ⟨zeroEvR⟩
instance : Inhabited Hd := ⟨zeroHd⟩
def WfAt (a : At) : Prop := (-9223372036854775808 ≤ a.kind ∧ a.kind ≤ 9223372036854775807) ∧ -9223372036854775808 ≤ a.n ∧ a.n ≤ 9223372036854775807
theorem flat_iv (l : List Int) : (l.flatMap fun z => [Value.int .i64 z]) = iv l := by
  induction l with
  | nil => rfl
  | cons x l ih => rw [List.flatMap_cons, ih]; rfl
theorem oInts {base fuel : Nat} {cs : List Value} {x : DataW H × List MemPlace} (h : DataW.trod enc Tryz.prog W base (fun _ => true) true fuel 22 cs = some x) :
    ∃ A n c, ∃ l : List Int, cs = [.slice A n c] ∧ n ≤ c ∧ c ≤ maxLen ∧ l.length = n ∧ Rd W A n (iv l) ∧ fits64 l := by
  obtain ⟨A, n, c, l, e, h1, h2, h3, h4, h5⟩ := open_rowCells (t := 22) (e := 3) (by kernel_rfl) (k := 1) cInt (by omega) (fun z : Int => [Value.int .i64 z]) (fun _ => rfl) (fun z => -9223372036854775808 ≤ z ∧ z ≤ 9223372036854775807) (fun _ _ _ _ h => oInt h) h
  rw [flat_iv, Nat.mul_one] at h4
  exact ⟨A, n, c, l, e, h1, h2, h3, h4, h5⟩
theorem open_atCells {base fuel : Nat} {cs : List Value} {x : DataW H × List MemPlace} (h : DataW.trod enc Tryz.prog W base (fun _ => true) true fuel 100 cs = some x) : ∃ a : At, cs = atL a ∧ WfAt a := by
  obtain ⟨hl, hf⟩ := struct_at (L := [(0, 9), (1, 3), (2, 3), (3, 9)]) (by kernel_rfl) (by simp) h
  rw [show Tryz.prog.cellsOf 100 = 4 by kernel_rfl] at hl
  obtain ⟨m0, y0, g0⟩ := hf 0 0 _ rfl
  rw [cStr] at g0
  obtain ⟨z0, e0, w0⟩ := oStr g0
  obtain ⟨m1, y1, g1⟩ := hf 1 1 _ rfl
  rw [cInt] at g1
  obtain ⟨z1, e1, w1⟩ := oInt g1
  obtain ⟨m2, y2, g2⟩ := hf 2 2 _ rfl
  rw [cInt] at g2
  obtain ⟨z2, e2, w2⟩ := oInt g2
  obtain ⟨m3, y3, g3⟩ := hf 3 3 _ rfl
  rw [cStr] at g3
  obtain ⟨z3, e3, w3⟩ := oStr g3
  have t4 : cs.drop 4 = [] := List.drop_of_length_le (by omega)
  have t3 := cut_at cs 3 1
  rw [e3, t4] at t3
  have t2 := cut_at cs 2 1
  rw [e2, t3] at t2
  have t1 := cut_at cs 1 1
  rw [e1, t2] at t1
  have t0 := cut_at cs 0 1
  rw [e0, t1] at t0
  rw [List.drop_zero] at t0
  exact ⟨⟨z0, z1, z2, z3⟩, t0, w1, w2⟩
theorem open_fcCells {base fuel : Nat} {cs : List Value} {x : DataW H × List MemPlace} (h : DataW.trod enc Tryz.prog W base (fun _ => true) true fuel 29 cs = some x) : ∃ f : Fc, cs = fcL f ∧ FcFit f ∧ f.blind < 2 ^ 128 := by
  obtain ⟨hl, hf⟩ := struct_at (L := [(0, 3), (1, 3), (2, 3), (3, 3), (4, 3), (5, 3), (6, 3), (7, 25)]) (by kernel_rfl) (by simp) h
  rw [show Tryz.prog.cellsOf 29 = 23 by kernel_rfl] at hl
  obtain ⟨m0, y0, g0⟩ := hf 0 0 _ rfl
  rw [cInt] at g0
  obtain ⟨z0, e0, w0⟩ := oInt g0
  obtain ⟨m1, y1, g1⟩ := hf 1 1 _ rfl
  rw [cInt] at g1
  obtain ⟨z1, e1, w1⟩ := oInt g1
  obtain ⟨m2, y2, g2⟩ := hf 2 2 _ rfl
  rw [cInt] at g2
  obtain ⟨z2, e2, w2⟩ := oInt g2
  obtain ⟨m3, y3, g3⟩ := hf 3 3 _ rfl
  rw [cInt] at g3
  obtain ⟨z3, e3, w3⟩ := oInt g3
  obtain ⟨m4, y4, g4⟩ := hf 4 4 _ rfl
  rw [cInt] at g4
  obtain ⟨z4, e4, w4⟩ := oInt g4
  obtain ⟨m5, y5, g5⟩ := hf 5 5 _ rfl
  rw [cInt] at g5
  obtain ⟨z5, e5, w5⟩ := oInt g5
  obtain ⟨m6, y6, g6⟩ := hf 6 6 _ rfl
  rw [cInt] at g6
  obtain ⟨z6, e6, w6⟩ := oInt g6
  obtain ⟨m7, y7, g7⟩ := hf 7 7 _ rfl
  rw [cDg] at g7
  obtain ⟨z7, e7, w7⟩ := open_dgCells g7
  have t8 : cs.drop 23 = [] := List.drop_of_length_le (by omega)
  have t7 := cut_at cs 7 16
  rw [e7, t8] at t7
  have t6 := cut_at cs 6 1
  rw [e6, t7] at t6
  have t5 := cut_at cs 5 1
  rw [e5, t6] at t5
  have t4 := cut_at cs 4 1
  rw [e4, t5] at t4
  have t3 := cut_at cs 3 1
  rw [e3, t4] at t3
  have t2 := cut_at cs 2 1
  rw [e2, t3] at t2
  have t1 := cut_at cs 1 1
  rw [e1, t2] at t1
  have t0 := cut_at cs 0 1
  rw [e0, t1] at t0
  rw [List.drop_zero] at t0
  exact ⟨⟨z0, z1, z2, z3, z4, z5, z6, z7⟩, by rw [t0]; simp [fcL], ⟨fun x hx => by simp only [faceNums, List.mem_cons, List.not_mem_nil, or_false] at hx; rcases hx with rfl | rfl | rfl | rfl | rfl | rfl | rfl <;> assumption⟩, w7⟩
theorem open_evCells {base fuel : Nat} {cs : List Value} {x : DataW H × List MemPlace} (h : DataW.trod enc Tryz.prog W base (fun _ => true) true fuel 27 cs = some x) : ∃ r : EvR, cs = evL r ∧ EvOk W r ∧ EvWf r.e := by
  obtain ⟨hl, hf⟩ := struct_at (L := [(0, 3), (1, 3), (2, 3), (3, 3), (4, 3), (5, 3), (6, 3), (7, 22), (8, 23), (9, 25)]) (by kernel_rfl) (by simp) h
  rw [show Tryz.prog.cellsOf 27 = 25 by kernel_rfl] at hl
  obtain ⟨m0, y0, g0⟩ := hf 0 0 _ rfl
  rw [cInt] at g0
  obtain ⟨z0, e0, w0⟩ := oInt g0
  obtain ⟨m1, y1, g1⟩ := hf 1 1 _ rfl
  rw [cInt] at g1
  obtain ⟨z1, e1, w1⟩ := oInt g1
  obtain ⟨m2, y2, g2⟩ := hf 2 2 _ rfl
  rw [cInt] at g2
  obtain ⟨z2, e2, w2⟩ := oInt g2
  obtain ⟨m3, y3, g3⟩ := hf 3 3 _ rfl
  rw [cInt] at g3
  obtain ⟨z3, e3, w3⟩ := oInt g3
  obtain ⟨m4, y4, g4⟩ := hf 4 4 _ rfl
  rw [cInt] at g4
  obtain ⟨z4, e4, w4⟩ := oInt g4
  obtain ⟨m5, y5, g5⟩ := hf 5 5 _ rfl
  rw [cInt] at g5
  obtain ⟨z5, e5, w5⟩ := oInt g5
  obtain ⟨m6, y6, g6⟩ := hf 6 6 _ rfl
  rw [cInt] at g6
  obtain ⟨z6, e6, w6⟩ := oInt g6
  obtain ⟨m7, y7, g7⟩ := hf 7 7 _ rfl
  rw [(show Tryz.prog.cellsOf 22 = 1 by kernel_rfl)] at g7
  obtain ⟨A7, n7, c7, z7, e7, a7, b7, l7, r7, w7⟩ := oInts g7
  obtain ⟨m8, y8, g8⟩ := hf 8 8 _ rfl
  rw [(show Tryz.prog.cellsOf 23 = 1 by kernel_rfl)] at g8
  obtain ⟨A8, n8, c8, z8, e8, a8, b8, l8, r8, w8⟩ := open_rowCells (t := 23) (e := 100) (by kernel_rfl) (k := 4) (by kernel_rfl) (by omega) atL atL_len WfAt (fun _ _ _ _ h => open_atCells h) g8
  obtain ⟨m9, y9, g9⟩ := hf 9 9 _ rfl
  rw [cDg] at g9
  obtain ⟨z9, e9, w9⟩ := open_dgCells g9
  have t10 : cs.drop 25 = [] := List.drop_of_length_le (by omega)
  have t9 := cut_at cs 9 16
  rw [e9, t10] at t9
  have t8 := cut_at cs 8 1
  rw [e8, t9] at t8
  have t7 := cut_at cs 7 1
  rw [e7, t8] at t7
  have t6 := cut_at cs 6 1
  rw [e6, t7] at t6
  have t5 := cut_at cs 5 1
  rw [e5, t6] at t5
  have t4 := cut_at cs 4 1
  rw [e4, t5] at t4
  have t3 := cut_at cs 3 1
  rw [e3, t4] at t3
  have t2 := cut_at cs 2 1
  rw [e2, t3] at t2
  have t1 := cut_at cs 1 1
  rw [e1, t2] at t1
  have t0 := cut_at cs 0 1
  rw [e0, t1] at t0
  rw [List.drop_zero] at t0
  exact ⟨⟨⟨z0, z1, z2, z3, z4, z5, z6, z7, z8, z9⟩, A7, n7, c7, A8, n8, c8⟩, by rw [t0]; simp [evL], ⟨l7, r7, a7, b7, ⟨l8, r8⟩, a8, b8, w9⟩, ⟨w7, w8, fun x hx => by simp only [List.mem_cons, List.not_mem_nil, or_false] at hx; rcases hx with rfl | rfl | rfl | rfl | rfl | rfl | rfl <;> assumption⟩⟩
theorem open_fc {base : Nat} {v : Value} {d : DataW H} {p : List MemPlace} (hval : Value.okWide Tryz.prog W .any base 29 v) (h : DataW.Trod enc Tryz.prog W 0 (fun _ => true) true 29 v d p) : ∃ f : Fc, v = fcV f ∧ FcFit f ∧ f.blind < 2 ^ 128 := by
  obtain ⟨fs, hs, _⟩ := fields_of (l := [(0, 3), (1, 3), (2, 3), (3, 3), (4, 3), (5, 3), (6, 3), (7, 25)]) (show (Tryz.prog.underlying 29).map partsT = _ by kernel_rfl) (by simp)
  obtain ⟨cs, rfl⟩ := okWide_structQ hs hval
  obtain ⟨fuel, hf⟩ := h
  obtain ⟨r, e, hr⟩ := open_fcCells hf
  refine ⟨r, ?_, hr⟩
  simp only [Value.cells] at e
  show Value.agg cs = .agg (fcL r).toArray
  rw [← e]
theorem open_ev {base : Nat} {v : Value} {d : DataW H} {p : List MemPlace} (hval : Value.okWide Tryz.prog W .any base 27 v) (h : DataW.Trod enc Tryz.prog W 0 (fun _ => true) true 27 v d p) : ∃ r : EvR, v = evV r ∧ EvOk W r ∧ EvWf r.e := by
  obtain ⟨fs, hs, _⟩ := fields_of (l := [(0, 3), (1, 3), (2, 3), (3, 3), (4, 3), (5, 3), (6, 3), (7, 22), (8, 23), (9, 25)]) (show (Tryz.prog.underlying 27).map partsT = _ by kernel_rfl) (by simp)
  obtain ⟨cs, rfl⟩ := okWide_structQ hs hval
  obtain ⟨fuel, hf⟩ := h
  obtain ⟨r, e, hr⟩ := open_evCells hf
  refine ⟨r, ?_, hr⟩
  simp only [Value.cells] at e
  show Value.agg cs = .agg (evL r).toArray
  rw [← e]
theorem open_rdAttrs {base : Nat} {v : Value} {d : DataW H} {p : List MemPlace} (hval : Value.okWide Tryz.prog W .any base 23 v) (h : DataW.Trod enc Tryz.prog W 0 (fun _ => true) true 23 v d p) :
    ∃ A n c, ∃ l : List At, v = .slice A n c ∧ n ≤ c ∧ c ≤ maxLen ∧ RdA W A n l ∧ ∀ a ∈ l, WfAt a := by
  obtain ⟨fuel, hf⟩ := h
  obtain ⟨A, n, c, l, e, h1, h2, h3, h4, h5⟩ := open_rowCells (t := 23) (e := 100) (by kernel_rfl) (k := 4) (by kernel_rfl) (by omega) atL atL_len WfAt (fun _ _ _ _ h => open_atCells h) hf
  have hs : Tryz.prog.underlying 23 = some (.slice 100) := by kernel_rfl
  obtain ⟨A0, n0, c0, rfl⟩ : ∃ A n c, v = .slice A n c := by
    cases v <;> simp only [Value.okWide, hs, Cell.okWide, Cell.ok] at hval <;> first | exact ⟨_, _, _, rfl⟩ | (simp [Value.cells] at e) | exact hval.elim
  simp only [Value.cells] at e
  injection e with e _
  injection e with e1 e2 e3
  subst e1; subst e2; subst e3
  exact ⟨_, _, _, l, rfl, h1, h2, ⟨h3, h4⟩, h5⟩
theorem open_rdInts64 {base : Nat} {v : Value} {d : DataW H} {p : List MemPlace} (hval : Value.okWide Tryz.prog W .any base 22 v) (h : DataW.Trod enc Tryz.prog W 0 (fun _ => true) true 22 v d p) :
    ∃ A n c, ∃ l : List Int, v = .slice A n c ∧ n ≤ c ∧ c ≤ maxLen ∧ l.length = n ∧ Rd W A n (iv l) ∧ fits64 l := by
  obtain ⟨fuel, hf⟩ := h
  obtain ⟨A, n, c, l, e, h1, h2, h3, h4, h5⟩ := open_rowCells (t := 22) (e := 3) (by kernel_rfl) (k := 1) (by kernel_rfl) (by omega) (fun z : Int => [Value.int .i64 z]) (fun _ => rfl) (fun z => -9223372036854775808 ≤ z ∧ z ≤ 9223372036854775807) (fun _ _ _ _ h => oInt h) hf
  have hs : Tryz.prog.underlying 22 = some (.slice 3) := by kernel_rfl
  obtain ⟨A0, n0, c0, rfl⟩ : ∃ A n c, v = .slice A n c := by
    cases v <;> simp only [Value.okWide, hs, Cell.okWide, Cell.ok] at hval <;> first | exact ⟨_, _, _, rfl⟩ | (simp [Value.cells] at e) | exact hval.elim
  simp only [Value.cells] at e
  injection e with e _
  injection e with e1 e2 e3
  subst e1; subst e2; subst e3
  exact ⟨_, _, _, l, rfl, h1, h2, h3, by rw [flat_iv, Nat.mul_one] at h4; exact h4, h5⟩
end
end Go.Proofs.YtcapckngikekpaaGreatDoor
