/-
  The law LinkSendsAsSpecified, walked. Conditions: none.
-/
import Derived.Test.YtecklplohgfohaaSl
import Derived.Test.YtecklplohgfohaaFw
import Derived.Test.YtecklplohgfohaaRp
import Derived.Test.YtecklplohgfohaaRf
import Derived.Test.YtecklplohgfohaaRk
import Derived.Test.YtecklplohgfohaaRq
namespace Go.Proofs.Ytecklplohgfohaa
set_option linter.unusedSimpArgs false
set_option linter.unusedVariables false
open Go.RowKit Link
theorem putO_len {o : Ob} {s : ByteArray} (h : o.queue.length ≤ 1001) : (putO o s).1.queue.length ≤ 2000 := by
  unfold putO
  split
  · split
    · simp [oz]
    · simp; omega
  · simp [oz]
theorem foldO_len {o : Ob} {u : Int} {s : ByteArray} (h : o.queue.length ≤ 1001) : (foldO o u s).1.queue.length ≤ 2000 := by
  unfold foldO
  split
  · simp; omega
  · simp [oz]
theorem ackO_len {o : Ob} {u : Int} (h : o.queue.length ≤ 1001) : (ackO o u).1.queue.length ≤ 2000 := by
  unfold ackO
  split
  · split
    · simp; omega
    · split
      · simp; omega
      · simp; omega
  · simp [oz]
theorem framesO_len {o : Ob} {u : Int} : (framesO o u).1.length ≤ 2000 := by
  unfold framesO
  split
  · rename_i h
    simp only [Bool.and_eq_true] at h
    have := framesAll_len h.1
    simp; omega
  · simp
theorem Blk.outOb {w : World} {g : Nat} {t : TypeId} {o : Ob} {A : Option Addr} {n c : Nat} {er : Int} (h : Blk w g t (outC o A n c er)) : ∀ j u, [Value.int .i64 o.base, .int .i64 o.acked, .string o.summary, .slice A n c][j]? = some u → w.cell? ((⟨g, 0, none⟩ : Addr).add j) = some u := by
  intro j u hj
  rcases j with _ | _ | _ | _ | j
  · obtain rfl := Option.some.inj hj; exact h.cell 0
  · obtain rfl := Option.some.inj hj; exact h.cell 1
  · obtain rfl := Option.some.inj hj; exact h.cell 2
  · obtain rfl := Option.some.inj hj; exact h.cell 3
  · simp at hj
theorem yields_outObW {ops : Array Oper} {w0 : World} {o : Oper} {a : Act} {x : Operand} {g : Nat} {t : TypeId} {k : Ob} {A : Option Addr} {n c : Nat} {er : Int} (hw : Region.wanted o (yielded ops a.tmps) = true) (ho : o.op = .load 24 x) (ha : a.eval x = .pointer (some ⟨g, 0, none⟩))
    (hb : Blk w0 g t (outC k A n c er)) : YieldsIf Try.prog ops (Below w0.heap.size w0) o (obV k A n c) a :=
  yields_loadKW (us := [.int .i64 k.base, .int .i64 k.acked, .string k.summary, .slice A n c]) hw ho ha aggOb sizeOb hb.outOb
theorem yields_obW {ops : Array Oper} {w0 : World} {o : Oper} {a : Act} {x : Operand} {g : Nat} {t : TypeId} {k : Ob} {A : Option Addr} {n c : Nat} (hw : Region.wanted o (yielded ops a.tmps) = true) (ho : o.op = .load 24 x) (ha : a.eval x = .pointer (some ⟨g, 0, none⟩))
    (hb : Blk w0 g t (obC k A n c)) : YieldsIf Try.prog ops (Below w0.heap.size w0) o (obV k A n c) a :=
  yields_blkW hw ho ha aggOb sizeOb hb
theorem wpList_outObW {w : World} {ops : Array Oper} {rest : List Oper} {o : Oper} {a : Act} {Q : Exit → Act → World → Prop} (hw : Region.wanted o (yielded ops a.tmps) = true) {x : Operand} (ho : o.op = .load 24 x) {g : Nat} {t : TypeId} (ha : a.eval x = .pointer (some ⟨g, 0, none⟩)) {k : Ob} {A : Option Addr} {n c : Nat} {er : Int}
    (hb : Blk w g t (outC k A n c er)) (h : wpList Try.prog ops Q rest (a.put o.dst (obV k A n c)) w) : wpList Try.prog ops Q (o :: rest) a w :=
  wpList_loadKW (us := [.int .i64 k.base, .int .i64 k.acked, .string k.summary, .slice A n c]) hw ho ha aggOb sizeOb hb.outOb h
set_option maxRecDepth 100000 in
set_option maxHeartbeats 8000000 in
theorem walkLinkSendsAsSpecified (o : Ob) (A : Option Addr) (n c : Nat) (s : ByteArray) (u : Int) (w : World) (hr : RdO w o A n c) (ho : WfO o) (hs : s.size ≤ maxLen) (hu : (Lit.int .i64 u).wf = true) :
    Calls Try.prog 3 #[obV o A n c, .string s, .int .i64 u] w fun e w' => e = .returned (.bool true) ∧ Below w.heap.size w w' := by
  have HS := Lib.hid (fun W => sanity_any W)
  have HFW := Lib.hid (fun W (h : RdO W o A n c) => fewOut_any o A n c W h ho)
  have hss : s.size ≤ 9223372036854775807 := by unfold maxLen at hs; omega
  obtain ⟨wa, hwa, hb0, q0⟩ := obBox w o A n c
  have HWA := Lib.hid hwa
  clear hwa
  have HR := Lib.hid hr
  have HV1 := Lib.hid (fun W (h : RdO W o A n c) => validOut_any o A n c W (Nat.le_trans h.nc h.cm) h.len h.rd ho)
  have HV2 := Lib.hid (fun W (h : RdO W o A n c) => refValidOut_any o A n c W (Nat.le_trans h.nc h.cm) h.len h.rd ho)
  have HLP := Lib.hid (fun h : o.queue.length ≤ 1001 => putO_len (s := s) h)
  have HLF := Lib.hid (fun h : o.queue.length ≤ 1001 => foldO_len (u := u) (s := s) h)
  have HLA := Lib.hid (fun h : o.queue.length ≤ 1001 => ackO_len (u := u) h)
  have HLR := Lib.hid (framesO_len (o := o) (u := u))
  have HP1 := Lib.hid (fun W (h : RdO W o A n c) => put_any o A n c s W h ho hs)
  have HF1 := Lib.hid (fun W (h : RdO W o A n c) => fold_any o A n c u s W h ho hs)
  have HR1 := Lib.hid (fun W (h : RdO W o A n c) => frames_any o A n c u W h ho)
  have HA1 := Lib.hid (fun W (h : RdO W o A n c) => ack_any o A n c u W h ho)
  have HP2 := Lib.hid (fun W (h : RdO W o A n c) => refPut_any o A n c s W h ho hs)
  have HF2 := Lib.hid (fun W (h : RdO W o A n c) => refFold_any o A n c u s W h ho hs)
  have HR2 := Lib.hid (fun W (h : RdO W o A n c) => refFrames_any o A n c u W h ho)
  have HA2 := Lib.hid (fun W (h : RdO W o A n c) => refAck_any o A n c u W h ho)
  generalize validOut o = V at *
  generalize putO o s = P at *
  generalize foldO o u s = F at *
  generalize framesO o u = R at *
  generalize ackO o u = K at *
  obtain ⟨p1, pe⟩ := P
  obtain ⟨f1, fe⟩ := F
  obtain ⟨r1, re⟩ := R
  obtain ⟨k1, ke⟩ := K
  dsimp only at *
  have HLN := Lib.hid hr.len
  clear ho hs hr hu
  go_enter Try.func3, Try.ntmps3
  go_upto_region 1 with (fail)
  change Code.wp _ _ _ _ (w.alloc (.cells (obC o A n c) 24))
  rw [← HWA.out]
  go_wp2_with ((with_reducible show wpList _ _ _ _ _ _); refine wpList_loadOb rfl rfl rfl q0 ?_)
  refine (HFW.out _ (HR.out.below hb0)).mono ?_
  rintro e w1 ⟨V1, rfl, hV, hb⟩
  replace q0 := q0.below hb
  replace hb0 := bstep hb0 hb
  clear hb
  cases V1
  · go_wp2_with fail
    refine (HS.out _).mono ?_
    rintro e w9 ⟨rfl, hb⟩
    go_wp2_with fail
    go_ret
    exact ⟨rfl, bstep hb0 hb⟩
  have hn : n ≤ 1001 := hV rfl
  clear hV
  by_cases h2 : 100 < s.size
  · have d2 : decide ((100 : Int) < s.size) = true := by simp; omega
    clear h2
    go_wp2_with fail
    refine (HS.out _).mono ?_
    rintro e w9 ⟨rfl, hb⟩
    go_wp2_with fail
    go_ret
    exact ⟨rfl, bstep hb0 hb⟩
  have d2 : decide ((100 : Int) < s.size) = false := by simp; omega
  clear h2
  go_wp2_with ((with_reducible show wpList _ _ _ _ _ _); refine wpList_loadOb rfl rfl rfl q0 ?_)
  refine (HP1.out _ (HR.out.below hb0)).mono ?_
  rintro e x3 ⟨A7, n7, c7, rfl, r7, hb, -⟩
  replace q0 := q0.below hb
  replace hb0 := bstep hb0 hb
  clear hb
  clear d2
  go_upto_region 4 with (first
    | ((with_reducible show wpList _ _ _ _ _ _); refine wpList_new (cs := obC oz none 0 0) rfl rfl (fun w => by kernel_rfl) ?_; intro y3 g7 hg7 q7 hb2 lt7; have HG7 := Lib.hid hg7; clear hg7)
    | ((with_reducible show wpList _ _ _ _ _ _); refine wpList_putOb (k := p1) rfl rfl rfl rfl q7 ?_; intro z3 ht b7))
  have hb : Below x3.heap.size x3 z3 := hb2.trans (ht.below _ (by have := HG7.out; omega))
  replace q0 := q0.below hb
  replace r7 := r7.below hb
  replace hb0 := bstep hb0 hb
  clear hb
  clear hb2 ht q7 HG7 lt7
  go_wp2_with ((with_reducible show wpList _ _ _ _ _ _); refine wpList_loadOb rfl rfl rfl q0 ?_)
  refine (HF1.out _ (HR.out.below hb0)).mono ?_
  rintro e x4 ⟨A9, n9, c9, rfl, r9, hb, -⟩
  replace q0 := q0.below hb
  replace r7 := r7.below hb
  replace b7 := b7.below hb
  replace hb0 := bstep hb0 hb
  clear hb
  go_upto_region 5 with (first
    | ((with_reducible show wpList _ _ _ _ _ _); refine wpList_new (cs := obC oz none 0 0) rfl rfl (fun w => by kernel_rfl) ?_; intro y4 g9 hg9 q9 hb2 lt9; have HG9 := Lib.hid hg9; clear hg9)
    | ((with_reducible show wpList _ _ _ _ _ _); refine wpList_putOb (k := f1) rfl rfl rfl rfl q9 ?_; intro z4 ht b9))
  have hb : Below x4.heap.size x4 z4 := hb2.trans (ht.below _ (by have := HG9.out; omega))
  replace q0 := q0.below hb
  replace r7 := r7.below hb
  replace b7 := b7.below hb
  replace r9 := r9.below hb
  replace hb0 := bstep hb0 hb
  clear hb
  clear hb2 ht q9 HG9 lt9
  go_wp2_with ((with_reducible show wpList _ _ _ _ _ _); refine wpList_loadOb rfl rfl rfl q0 ?_)
  refine (HR1.out _ (HR.out.below hb0)).mono ?_
  rintro e x5 ⟨v, rfl, hown, hb⟩
  obtain ⟨A11, c11, rfl, r11, -⟩ := own_rdF hown
  clear hown
  dsimp only at *
  replace q0 := q0.below hb
  replace r7 := r7.below hb
  replace b7 := b7.below hb
  replace r9 := r9.below hb
  replace b9 := b9.below hb
  replace hb0 := bstep hb0 hb
  clear hb
  go_wp2_with ((with_reducible show wpList _ _ _ _ _ _); refine wpList_loadOb rfl rfl rfl q0 ?_)
  refine (HA1.out _ (HR.out.below hb0)).mono ?_
  rintro e x6 ⟨A13, n13, c13, rfl, r13, hb, -⟩
  replace q0 := q0.below hb
  replace r7 := r7.below hb
  replace b7 := b7.below hb
  replace r9 := r9.below hb
  replace b9 := b9.below hb
  replace r11 := r11.below hb
  replace hb0 := bstep hb0 hb
  clear hb
  go_upto_region 7 with (first
    | ((with_reducible show wpList _ _ _ _ _ _); refine wpList_new (cs := obC oz none 0 0) rfl rfl (fun w => by kernel_rfl) ?_; intro y6 g13 hg13 q13 hb2 lt13; have HG13 := Lib.hid hg13; clear hg13)
    | ((with_reducible show wpList _ _ _ _ _ _); refine wpList_putOb (k := k1) rfl rfl rfl rfl q13 ?_; intro z6 ht b13))
  have hb : Below x6.heap.size x6 z6 := hb2.trans (ht.below _ (by have := HG13.out; omega))
  replace q0 := q0.below hb
  replace r7 := r7.below hb
  replace b7 := b7.below hb
  replace r9 := r9.below hb
  replace b9 := b9.below hb
  replace r11 := r11.below hb
  replace r13 := r13.below hb
  replace hb0 := bstep hb0 hb
  clear hb
  clear hb2 ht q13 HG13 lt13
  go_wp2_with ((with_reducible show wpList _ _ _ _ _ _); refine wpList_loadOb rfl rfl rfl q0 ?_)
  refine (HP2.out _ (HR.out.below hb0)).mono ?_
  rintro e x7 ⟨A15, n15, c15, rfl, r15, hb⟩
  replace q0 := q0.below hb
  replace r7 := r7.below hb
  replace b7 := b7.below hb
  replace r9 := r9.below hb
  replace b9 := b9.below hb
  replace r11 := r11.below hb
  replace r13 := r13.below hb
  replace b13 := b13.below hb
  replace hb0 := bstep hb0 hb
  clear hb
  go_upto_region 8 with (first
    | ((with_reducible show wpList _ _ _ _ _ _); refine wpList_new (cs := outC oz none 0 0 0) rfl rfl (fun w => by kernel_rfl) ?_; intro y7 g15 hg15 q15 hb2 lt15; have HG15 := Lib.hid hg15; clear hg15)
    | ((with_reducible show wpList _ _ _ _ _ _); refine wpList_putOut (k := p1) (er := pe) rfl rfl rfl rfl q15 rfl ?_; intro z7 ht b15))
  have hb : Below x7.heap.size x7 z7 := hb2.trans (ht.below _ (by have := HG15.out; omega))
  replace q0 := q0.below hb
  replace r7 := r7.below hb
  replace b7 := b7.below hb
  replace r9 := r9.below hb
  replace b9 := b9.below hb
  replace r11 := r11.below hb
  replace r13 := r13.below hb
  replace b13 := b13.below hb
  replace r15 := r15.below hb
  replace hb0 := bstep hb0 hb
  clear hb
  clear hb2 ht q15 HG15 lt15
  go_wp2_with ((with_reducible show wpList _ _ _ _ _ _); refine wpList_loadOb rfl rfl rfl q0 ?_)
  refine (HF2.out _ (HR.out.below hb0)).mono ?_
  rintro e x8 ⟨A16, n16, c16, rfl, r16, hb⟩
  replace q0 := q0.below hb
  replace r7 := r7.below hb
  replace b7 := b7.below hb
  replace r9 := r9.below hb
  replace b9 := b9.below hb
  replace r11 := r11.below hb
  replace r13 := r13.below hb
  replace b13 := b13.below hb
  replace r15 := r15.below hb
  replace b15 := b15.below hb
  replace hb0 := bstep hb0 hb
  clear hb
  go_upto_region 9 with (first
    | ((with_reducible show wpList _ _ _ _ _ _); refine wpList_new (cs := outC oz none 0 0 0) rfl rfl (fun w => by kernel_rfl) ?_; intro y8 g16 hg16 q16 hb2 lt16; have HG16 := Lib.hid hg16; clear hg16)
    | ((with_reducible show wpList _ _ _ _ _ _); refine wpList_putOut (k := f1) (er := fe) rfl rfl rfl rfl q16 rfl ?_; intro z8 ht b16))
  have hb : Below x8.heap.size x8 z8 := hb2.trans (ht.below _ (by have := HG16.out; omega))
  replace q0 := q0.below hb
  replace r7 := r7.below hb
  replace b7 := b7.below hb
  replace r9 := r9.below hb
  replace b9 := b9.below hb
  replace r11 := r11.below hb
  replace r13 := r13.below hb
  replace b13 := b13.below hb
  replace r15 := r15.below hb
  replace b15 := b15.below hb
  replace r16 := r16.below hb
  replace hb0 := bstep hb0 hb
  clear hb
  clear hb2 ht q16 HG16 lt16
  go_wp2_with ((with_reducible show wpList _ _ _ _ _ _); refine wpList_loadOb rfl rfl rfl q0 ?_)
  refine (HR2.out _ (HR.out.below hb0)).mono ?_
  rintro e x9 ⟨A17, n17, c17, rfl, r17, hb⟩
  replace q0 := q0.below hb
  replace r7 := r7.below hb
  replace b7 := b7.below hb
  replace r9 := r9.below hb
  replace b9 := b9.below hb
  replace r11 := r11.below hb
  replace r13 := r13.below hb
  replace b13 := b13.below hb
  replace r15 := r15.below hb
  replace b15 := b15.below hb
  replace r16 := r16.below hb
  replace b16 := b16.below hb
  replace hb0 := bstep hb0 hb
  clear hb
  go_upto_region 10 with (first
    | ((with_reducible show wpList _ _ _ _ _ _); refine wpList_new (cs := sentC none 0 0 0) rfl rfl (fun w => by kernel_rfl) ?_; intro y9 g17 hg17 q17 hb2 lt17; have HG17 := Lib.hid hg17; clear hg17)
    | ((with_reducible show wpList _ _ _ _ _ _); refine wpList_putSent (er := re) rfl rfl rfl rfl q17 rfl ?_; intro z9 ht b17))
  have hb : Below x9.heap.size x9 z9 := hb2.trans (ht.below _ (by have := HG17.out; omega))
  replace q0 := q0.below hb
  replace r7 := r7.below hb
  replace b7 := b7.below hb
  replace r9 := r9.below hb
  replace b9 := b9.below hb
  replace r11 := r11.below hb
  replace r13 := r13.below hb
  replace b13 := b13.below hb
  replace r15 := r15.below hb
  replace b15 := b15.below hb
  replace r16 := r16.below hb
  replace b16 := b16.below hb
  replace r17 := r17.below hb
  replace hb0 := bstep hb0 hb
  clear hb
  clear hb2 ht q17 HG17 lt17
  go_wp2_with ((with_reducible show wpList _ _ _ _ _ _); refine wpList_loadOb rfl rfl rfl q0 ?_)
  refine (HA2.out _ (HR.out.below hb0)).mono ?_
  rintro e x10 ⟨A18, n18, c18, rfl, r18, hb⟩
  replace q0 := q0.below hb
  replace r7 := r7.below hb
  replace b7 := b7.below hb
  replace r9 := r9.below hb
  replace b9 := b9.below hb
  replace r11 := r11.below hb
  replace r13 := r13.below hb
  replace b13 := b13.below hb
  replace r15 := r15.below hb
  replace b15 := b15.below hb
  replace r16 := r16.below hb
  replace b16 := b16.below hb
  replace r17 := r17.below hb
  replace b17 := b17.below hb
  replace hb0 := bstep hb0 hb
  clear hb
  go_upto_region 11 with (first
    | ((with_reducible show wpList _ _ _ _ _ _); refine wpList_new (cs := outC oz none 0 0 0) rfl rfl (fun w => by kernel_rfl) ?_; intro y10 g18 hg18 q18 hb2 lt18; have HG18 := Lib.hid hg18; clear hg18)
    | ((with_reducible show wpList _ _ _ _ _ _); refine wpList_putOut (k := k1) (er := ke) rfl rfl rfl rfl q18 rfl ?_; intro z10 ht b18))
  have hb : Below x10.heap.size x10 z10 := hb2.trans (ht.below _ (by have := HG18.out; omega))
  replace q0 := q0.below hb
  replace r7 := r7.below hb
  replace b7 := b7.below hb
  replace r9 := r9.below hb
  replace b9 := b9.below hb
  replace r11 := r11.below hb
  replace r13 := r13.below hb
  replace b13 := b13.below hb
  replace r15 := r15.below hb
  replace b15 := b15.below hb
  replace r16 := r16.below hb
  replace b16 := b16.below hb
  replace r17 := r17.below hb
  replace b17 := b17.below hb
  replace r18 := r18.below hb
  replace hb0 := bstep hb0 hb
  clear hb
  clear hb2 ht q18 HG18 lt18
  have dv : (V == V) = true := by simp
  have HLQ := HLN.out
  have hpl := HLP.out (by omega)
  have hfl := HLF.out (by omega)
  have hkl := HLA.out (by omega)
  have hrl := HLR.out
  clear HLP HLF HLA HLR HLQ
  have e7 : n7 = n15 := r7.len.symm.trans r15.len
  subst e7
  have e9 : n9 = n16 := r9.len.symm.trans r16.len
  subst e9
  have e13 : n13 = n18 := r13.len.symm.trans r18.len
  subst e13
  have hl7 := r7.len
  have hl9 := r9.len
  have hl13 := r13.len
  have hl17 := r17.len
  have HB1 := Lib.hid (fun W ha hb => sameOut_self p1 A7 n7 c7 A15 c15 W ha hb (by omega))
  have HB2 := Lib.hid (fun W ha hb => sameOut_self f1 A9 n9 c9 A16 c16 W ha hb (by omega))
  have HB3 := Lib.hid (fun W ha hb => sameOut_self k1 A13 n13 c13 A18 c18 W ha hb (by omega))
  have HB4 := Lib.hid (fun W ha hb => same_any r1 A11 r1.length c11 A17 n17 c17 W ha hb (by omega) (by omega))
  clear hl7 hl9 hl13 hl17 hpl hfl hkl hrl
  have b15e := b15.cell 4
  have b16e := b16.cell 4
  simp only [List.getElem?_toArray, List.getElem?_cons_zero, List.getElem?_cons_succ] at b15e b16e
  have hS0 : Below z10.heap.size z10 z10.drew := (Below.refl _ z10).drew
  have hRX := HR.out.below hb0
  refine wp_region_T 29 (by kernel_rfl) ?_
  -- region 11: 30 operations, tail from 29
  refine WpT.take (i := 0) rfl (by kernel_rfl) (fun _ _ _ h => h) (yields_blk rfl rfl rfl (by kernel_rfl) (by kernel_rfl) q0) ((Below.refl _ _).drew) ?_
  try simp only [Act.put, List.setIfInBounds_toArray, List.set_cons_zero, List.set_cons_succ]
  refine WpT.take (i := 2) rfl (by kernel_rfl) (fun _ _ _ h => h) (yields_blk rfl rfl rfl (by kernel_rfl) (by kernel_rfl) q0) ((Below.refl _ _).drew) ?_
  try simp only [Act.put, List.setIfInBounds_toArray, List.set_cons_zero, List.set_cons_succ]
  refine WpT.one (i := 1) rfl (by kernel_rfl) (fun K hK => ?_)
  go_simp; refine (HV1.out _ (hRX.below hS0)).mono ?_; rintro e w3 ⟨rfl, hb3⟩; have hS3 := bstep hS0 hb3
  refine hK _ _ (hS3) ?_; clear hK K; try simp only [Act.put, List.setIfInBounds_toArray, List.set_cons_zero, List.set_cons_succ]
  refine WpT.one (i := 3) rfl (by kernel_rfl) (fun K hK => ?_)
  go_simp; refine (HV2.out _ (hRX.below hS3)).mono ?_; rintro e w4 ⟨rfl, hb4⟩; have hS4 := bstep hS3 hb4
  refine hK _ _ (hS4) ?_; clear hK K; try simp only [Act.put, List.setIfInBounds_toArray, List.set_cons_zero, List.set_cons_succ]
  refine WpT.take (i := 4) rfl (by kernel_rfl) (fun _ _ _ h => h) (.inl ⟨by rfl, fun w hSw => by clear hSw; go_simp; (try go_bits); (try rw [if_pos (by omega)]); (try with_reducible rfl)⟩) (hS4) ?_
  try simp only [Act.put, List.setIfInBounds_toArray, List.set_cons_zero, List.set_cons_succ]
  refine WpT.take (i := 5) rfl (by kernel_rfl) (fun _ _ _ h => h) (.inl ⟨by rfl, fun w hSw => by clear hSw; go_simp; (try go_bits); (try rw [if_pos (by omega)]); (try with_reducible rfl)⟩) (hS4) ?_
  try simp only [Act.put, List.setIfInBounds_toArray, List.set_cons_zero, List.set_cons_succ]
  refine WpT.take (i := 6) rfl (by kernel_rfl) (fun _ _ _ h => h) (yields_obW (by rfl) rfl rfl b7) (hS4) ?_
  try simp only [Act.put, List.setIfInBounds_toArray, List.set_cons_zero, List.set_cons_succ]
  refine WpT.take (i := 7) rfl (by kernel_rfl) (fun _ _ _ h => h) (.inl ⟨by rfl, fun w hSw => by clear hSw; go_simp; (try go_bits); (try rw [if_pos (by omega)]); (try with_reducible rfl)⟩) (hS4) ?_
  try simp only [Act.put, List.setIfInBounds_toArray, List.set_cons_zero, List.set_cons_succ]
  refine WpT.take (i := 8) rfl (by kernel_rfl) (fun _ _ _ h => h) (yields_outObW (by rfl) rfl rfl b15) (hS4) ?_
  try simp only [Act.put, List.setIfInBounds_toArray, List.set_cons_zero, List.set_cons_succ]
  refine WpT.one (i := 9) rfl (by kernel_rfl) (fun K hK => ?_)
  go_simp; refine (HB1.out _ (r7.below hS4) (r15.below hS4)).mono ?_; rintro e w5 ⟨rfl, hb5⟩; have hS5 := bstep hS4 hb5
  refine hK _ _ (hS5) ?_; clear hK K; try simp only [Act.put, List.setIfInBounds_toArray, List.set_cons_zero, List.set_cons_succ]
  refine WpT.take (i := 10) rfl (by kernel_rfl) (fun _ _ _ h => h) (.inl ⟨by rfl, fun w hSw => by clear hSw; go_simp; (try go_bits); (try rw [if_pos (by omega)]); (try with_reducible rfl)⟩) (hS5) ?_
  try simp only [Act.put, List.setIfInBounds_toArray, List.set_cons_zero, List.set_cons_succ]
  refine WpT.take (i := 11) rfl (by kernel_rfl) (fun _ _ _ h => h) (.inl ⟨by rfl, fun w hSw => by clear hSw; go_simp; (try go_bits); (try rw [if_pos (by omega)]); (try with_reducible rfl)⟩) (hS5) ?_
  try simp only [Act.put, List.setIfInBounds_toArray, List.set_cons_zero, List.set_cons_succ]
  refine WpT.take (i := 12) rfl (by kernel_rfl) (fun _ _ _ h => h) (.inl ⟨by rfl, fun w hSw => by clear hSw; go_simp; (try go_bits); (try rw [if_pos (by omega)]); (try with_reducible rfl)⟩) (hS5) ?_
  try simp only [Act.put, List.setIfInBounds_toArray, List.set_cons_zero, List.set_cons_succ]
  refine WpT.take (i := 13) rfl (by kernel_rfl) (fun _ _ _ h => h) (.inl ⟨by rfl, fun w hSw => by clear hSw; go_simp; (try go_bits); (try rw [if_pos (by omega)]); (try with_reducible rfl)⟩) (hS5) ?_
  try simp only [Act.put, List.setIfInBounds_toArray, List.set_cons_zero, List.set_cons_succ]
  refine WpT.take (i := 14) rfl (by kernel_rfl) (fun _ _ _ h => h) (yields_loadW (by rfl) rfl rfl (by kernel_rfl) b15e) (hS5) ?_
  try simp only [Act.put, List.setIfInBounds_toArray, List.set_cons_zero, List.set_cons_succ]
  refine WpT.take (i := 15) rfl (by kernel_rfl) (fun _ _ _ h => h) (.inl ⟨by rfl, fun w hSw => by clear hSw; go_simp; (try go_bits); (try rw [if_pos (by omega)]); (try with_reducible rfl)⟩) (hS5) ?_
  try simp only [Act.put, List.setIfInBounds_toArray, List.set_cons_zero, List.set_cons_succ]
  refine WpT.take (i := 16) rfl (by kernel_rfl) (fun _ _ _ h => h) (.inl ⟨by rfl, fun w hSw => by clear hSw; go_simp; (try go_bits); (try rw [if_pos (by omega)]); (try with_reducible rfl)⟩) (hS5) ?_
  try simp only [Act.put, List.setIfInBounds_toArray, List.set_cons_zero, List.set_cons_succ]
  refine WpT.take (i := 17) rfl (by kernel_rfl) (fun _ _ _ h => h) (.inl ⟨by rfl, fun w hSw => by clear hSw; go_simp; (try go_bits); (try rw [if_pos (by omega)]); (try with_reducible rfl)⟩) (hS5) ?_
  try simp only [Act.put, List.setIfInBounds_toArray, List.set_cons_zero, List.set_cons_succ]
  refine WpT.take (i := 18) rfl (by kernel_rfl) (fun _ _ _ h => h) (yields_obW (by rfl) rfl rfl b9) (hS5) ?_
  try simp only [Act.put, List.setIfInBounds_toArray, List.set_cons_zero, List.set_cons_succ]
  refine WpT.take (i := 19) rfl (by kernel_rfl) (fun _ _ _ h => h) (.inl ⟨by rfl, fun w hSw => by clear hSw; go_simp; (try go_bits); (try rw [if_pos (by omega)]); (try with_reducible rfl)⟩) (hS5) ?_
  try simp only [Act.put, List.setIfInBounds_toArray, List.set_cons_zero, List.set_cons_succ]
  refine WpT.take (i := 20) rfl (by kernel_rfl) (fun _ _ _ h => h) (yields_outObW (by rfl) rfl rfl b16) (hS5) ?_
  try simp only [Act.put, List.setIfInBounds_toArray, List.set_cons_zero, List.set_cons_succ]
  refine WpT.one (i := 21) rfl (by kernel_rfl) (fun K hK => ?_)
  go_simp; refine (HB2.out _ (r9.below hS5) (r16.below hS5)).mono ?_; rintro e w6 ⟨rfl, hb6⟩; have hS6 := bstep hS5 hb6
  refine hK _ _ (hS6) ?_; clear hK K; try simp only [Act.put, List.setIfInBounds_toArray, List.set_cons_zero, List.set_cons_succ]
  refine WpT.take (i := 22) rfl (by kernel_rfl) (fun _ _ _ h => h) (.inl ⟨by rfl, fun w hSw => by clear hSw; go_simp; (try go_bits); (try rw [if_pos (by omega)]); (try with_reducible rfl)⟩) (hS6) ?_
  try simp only [Act.put, List.setIfInBounds_toArray, List.set_cons_zero, List.set_cons_succ]
  refine WpT.take (i := 23) rfl (by kernel_rfl) (fun _ _ _ h => h) (.inl ⟨by rfl, fun w hSw => by clear hSw; go_simp; (try go_bits); (try rw [if_pos (by omega)]); (try with_reducible rfl)⟩) (hS6) ?_
  try simp only [Act.put, List.setIfInBounds_toArray, List.set_cons_zero, List.set_cons_succ]
  refine WpT.take (i := 24) rfl (by kernel_rfl) (fun _ _ _ h => h) (.inl ⟨by rfl, fun w hSw => by clear hSw; go_simp; (try go_bits); (try rw [if_pos (by omega)]); (try with_reducible rfl)⟩) (hS6) ?_
  try simp only [Act.put, List.setIfInBounds_toArray, List.set_cons_zero, List.set_cons_succ]
  refine WpT.take (i := 25) rfl (by kernel_rfl) (fun _ _ _ h => h) (.inl ⟨by rfl, fun w hSw => by clear hSw; go_simp; (try go_bits); (try rw [if_pos (by omega)]); (try with_reducible rfl)⟩) (hS6) ?_
  try simp only [Act.put, List.setIfInBounds_toArray, List.set_cons_zero, List.set_cons_succ]
  refine WpT.take (i := 26) rfl (by kernel_rfl) (fun _ _ _ h => h) (yields_loadW (by rfl) rfl rfl (by kernel_rfl) b16e) (hS6) ?_
  try simp only [Act.put, List.setIfInBounds_toArray, List.set_cons_zero, List.set_cons_succ]
  refine WpT.take (i := 27) rfl (by kernel_rfl) (fun _ _ _ h => h) (.inl ⟨by rfl, fun w hSw => by clear hSw; go_simp; (try go_bits); (try rw [if_pos (by omega)]); (try with_reducible rfl)⟩) (hS6) ?_
  try simp only [Act.put, List.setIfInBounds_toArray, List.set_cons_zero, List.set_cons_succ]
  refine WpT.take (i := 28) rfl (by kernel_rfl) (fun _ _ _ h => h) (.inl ⟨by rfl, fun w hSw => by clear hSw; go_simp; (try go_bits); (try rw [if_pos (by omega)]); (try with_reducible rfl)⟩) (hS6) ?_
  try simp only [Act.put, List.setIfInBounds_toArray, List.set_cons_zero, List.set_cons_succ]
  refine WpT.tail (i := 29) rfl (by kernel_rfl) (by kernel_rfl) (fun K hK => ?_)
  go_simp; (try go_bits)
  refine hK _ _ ?_; clear hK K; try simp only [Act.put, List.setIfInBounds_toArray, List.set_cons_zero, List.set_cons_succ]
  refine WpT.done (by kernel_rfl) ?_ _
  have hb := hS6
  clear hS0 hS3 hS4 hS5 hS6 hb3 hb4 hb5 hb6 b15e b16e hRX HB1 HB2 HV1 HV2 q0 r7 r9 r15 r16 b7 b9 b15 b16
  replace r11 := r11.below hb
  replace r13 := r13.below hb
  replace r17 := r17.below hb
  replace r18 := r18.below hb
  replace b13 := b13.below hb
  replace b17 := b17.below hb
  replace b18 := b18.below hb
  replace hb0 := bstep hb0 hb
  clear hb
  go_wp2_with fail
  refine (HS.out _).mono ?_
  rintro e w7 ⟨rfl, hb⟩
  replace r11 := r11.below hb
  replace r13 := r13.below hb
  replace r17 := r17.below hb
  replace r18 := r18.below hb
  replace b13 := b13.below hb
  replace b17 := b17.below hb
  replace b18 := b18.below hb
  replace hb0 := bstep hb0 hb
  clear hb
  have b17l := b17.cell 0
  have b17e := b17.cell 1
  have b18e := b18.cell 4
  simp only [List.getElem?_toArray, List.getElem?_cons_zero, List.getElem?_cons_succ] at b17l b17e b18e
  go_wp2_with fail
  refine (HB4.out _ r11 r17).mono ?_
  rintro e w8 ⟨rfl, hb⟩
  replace b17e := (hb.cell (p := ⟨g17, 1, none⟩) b17.lt).trans b17e
  replace b18e := (hb.cell (p := ⟨g18, 4, none⟩) b18.lt).trans b18e
  replace r11 := r11.below hb
  replace r13 := r13.below hb
  replace r17 := r17.below hb
  replace r18 := r18.below hb
  replace b13 := b13.below hb
  replace b17 := b17.below hb
  replace b18 := b18.below hb
  replace hb0 := bstep hb0 hb
  clear hb
  clear b17 b17l
  go_wp2_with (first
    | ((with_reducible show wpList _ _ _ _ _ _); refine wpList_loadRowW (x := .tmp 13) (by rfl) rfl rfl b13 aggOb sizeOb ?_)
    | ((with_reducible show wpList _ _ _ _ _ _); refine wpList_outObW (by rfl) rfl rfl b18 ?_))
  refine (HB3.out _ r13 r18).mono ?_
  rintro e w9 ⟨rfl, hb⟩
  replace b18e := (hb.cell (p := ⟨g18, 4, none⟩) b18.lt).trans b18e
  replace hb0 := bstep hb0 hb
  go_wp2_with fail
  go_ret
  exact ⟨rfl, hb0⟩
end Go.Proofs.Ytecklplohgfohaa
