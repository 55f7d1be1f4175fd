/-
  Make and Blind in program and reference. Condition: the table of constants reads as the program lays it.
-/
import Derived.Test.YtfnpeclomcnpeaaDoorCc
import Derived.Test.YtfnpeclomcnpeaaDoorSk
import Derived.Test.YtfnpeclomcnpeaaDoorShort
namespace Go.Proofs.YtfnpeclomcnpeaaDoor
set_option linter.unusedSimpArgs false
set_option linter.unusedVariables false
open Go.RowKit Ring Sha
theorem build1_s (s : ByteArray) (W : World) : (Instr.buildSlice 41 1 #[(0, .string s)]).run Tryd.prog W = .ok (.slice (some ⟨W.heap.size, 0, none⟩) 1 1) (W.alloc (.cells #[.string s] 9)) := by kernel_rfl
theorem wpList_lit1s {w : World} {ops : Array Oper} {rest : List Oper} {o : Oper} {a : Act} {Q : Exit → Act → World → Prop} (hgd : o.guard = none) {x : Operand} {s : ByteArray} (ho : o.op = .buildSlice 41 1 #[(0, x)]) (hx : a.eval x = .string s)
    (h : ∀ w' g, g = w.heap.size → w'.ownsRow w.heap.size 9 1 (.slice (some ⟨g, 0, none⟩) 1 1) 1 (sv [s]) → Rd w' (some ⟨g, 0, none⟩) 1 (sv [s]) → Below w.heap.size w w' → wpList Tryd.prog ops Q rest (a.put o.dst (.slice (some ⟨g, 0, none⟩) 1 1)) w') : wpList Tryd.prog ops Q (o :: rest) a w := by
  refine wpList_plain hgd fun K hK => ?_
  have h2 := h _ _ rfl ⟨rfl, .inr ⟨w.heap.size, 1, #[.string s], rfl, Nat.le_refl _, heap_alloc_new w _, Nat.le_refl _, by simp [maxLen], rfl, rfl⟩⟩ (rd_newL w (sv [s]) 9) ((Below.refl _ _).alloc (Nat.le_refl _) _)
  unfold Oper.wp execOp
  simp only [ho, List.map_toArray, List.map_cons, List.map_nil, hx, build1_s, Sem.run_bind, Result.andThen_ok, Sem.run_pure]
  exact hK _ _ h2
theorem build3_ss (A B C : Option Addr) (a b c a' b' c' : Nat) (W : World) : (Instr.buildSlice 93 3 #[(0, .slice A a a'), (1, .slice B b b'), (2, .slice C c c')]).run Tryd.prog W = .ok (.slice (some ⟨W.heap.size, 0, none⟩) 3 3) (W.alloc (.cells #[.slice A a a', .slice B b b', .slice C c c'] 41)) := by kernel_rfl
theorem build2_ss (A B : Option Addr) (a b a' b' : Nat) (W : World) : (Instr.buildSlice 93 2 #[(0, .slice A a a'), (1, .slice B b b')]).run Tryd.prog W = .ok (.slice (some ⟨W.heap.size, 0, none⟩) 2 2) (W.alloc (.cells #[.slice A a a', .slice B b b'] 41)) := by kernel_rfl
theorem rdss_new3 {w : World} {A B C : Option Addr} {a b c a' b' c' : Nat} {x y z : List ByteArray} (h1 : Rd w A a (sv x)) (h2 : Rd w B b (sv y)) (h3 : Rd w C c (sv z)) :
    RdSS (w.alloc (.cells #[.slice A a a', .slice B b b', .slice C c c'] 41)) (some ⟨w.heap.size, 0, none⟩) 3 [x, y, z] := by
  have hb := (Below.refl w.heap.size w).alloc (Nat.le_refl _) (.cells #[.slice A a a', .slice B b b', .slice C c c'] 41)
  have hR := rd_newL w [.slice A a a', .slice B b b', .slice C c c'] 41
  have l1 : x.length = a := by have := h1.len; simpa using this
  have l2 : y.length = b := by have := h2.len; simpa using this
  have l3 : z.length = c := by have := h3.len; simpa using this
  subst l1 l2 l3
  refine ⟨rfl, fun i hi => ?_⟩
  match i, hi with
  | 0, _ => obtain ⟨ad, e, hc⟩ := hR.at_ 0 _ rfl; exact ⟨ad, A, a', e, hc, h1.below hb⟩
  | 1, _ => obtain ⟨ad, e, hc⟩ := hR.at_ 1 _ rfl; exact ⟨ad, B, b', e, hc, h2.below hb⟩
  | 2, _ => obtain ⟨ad, e, hc⟩ := hR.at_ 2 _ rfl; exact ⟨ad, C, c', e, hc, h3.below hb⟩
theorem rdss_new2 {w : World} {A B : Option Addr} {a b a' b' : Nat} {x y : List ByteArray} (h1 : Rd w A a (sv x)) (h2 : Rd w B b (sv y)) :
    RdSS (w.alloc (.cells #[.slice A a a', .slice B b b'] 41)) (some ⟨w.heap.size, 0, none⟩) 2 [x, y] := by
  have hb := (Below.refl w.heap.size w).alloc (Nat.le_refl _) (.cells #[.slice A a a', .slice B b b'] 41)
  have hR := rd_newL w [.slice A a a', .slice B b b'] 41
  have l1 : x.length = a := by have := h1.len; simpa using this
  have l2 : y.length = b := by have := h2.len; simpa using this
  subst l1 l2
  refine ⟨rfl, fun i hi => ?_⟩
  match i, hi with
  | 0, _ => obtain ⟨ad, e, hc⟩ := hR.at_ 0 _ rfl; exact ⟨ad, A, a', e, hc, h1.below hb⟩
  | 1, _ => obtain ⟨ad, e, hc⟩ := hR.at_ 1 _ rfl; exact ⟨ad, B, b', e, hc, h2.below hb⟩
theorem wpList_lit3ss {w : World} {ops : Array Oper} {rest : List Oper} {o : Oper} {a : Act} {Q : Exit → Act → World → Prop} (hgd : o.guard = none) {x y z : Operand} {A B C : Option Addr} {k m n k' m' n' : Nat} {xs ys zs : List ByteArray} (ho : o.op = .buildSlice 93 3 #[(0, x), (1, y), (2, z)])
    (hx : a.eval x = .slice A k k') (hy : a.eval y = .slice B m m') (hz : a.eval z = .slice C n n') (h1 : Rd w A k (sv xs)) (h2 : Rd w B m (sv ys)) (h3 : Rd w C n (sv zs))
    (h : ∀ w' g, RdSS w' (some ⟨g, 0, none⟩) 3 [xs, ys, zs] → Below w.heap.size w w' → wpList Tryd.prog ops Q rest (a.put o.dst (.slice (some ⟨g, 0, none⟩) 3 3)) w') : wpList Tryd.prog ops Q (o :: rest) a w := by
  refine wpList_plain hgd fun K hK => ?_
  have h2 := h _ _ (rdss_new3 (a' := k') (b' := m') (c' := n') h1 h2 h3) ((Below.refl _ _).alloc (Nat.le_refl _) _)
  unfold Oper.wp execOp
  simp only [ho, List.map_toArray, List.map_cons, List.map_nil, hx, hy, hz, build3_ss, Sem.run_bind, Result.andThen_ok, Sem.run_pure]
  exact hK _ _ h2
theorem wpList_lit2ss {w : World} {ops : Array Oper} {rest : List Oper} {o : Oper} {a : Act} {Q : Exit → Act → World → Prop} (hgd : o.guard = none) {x y : Operand} {A B : Option Addr} {k m k' m' : Nat} {xs ys : List ByteArray} (ho : o.op = .buildSlice 93 2 #[(0, x), (1, y)])
    (hx : a.eval x = .slice A k k') (hy : a.eval y = .slice B m m') (h1 : Rd w A k (sv xs)) (h2 : Rd w B m (sv ys))
    (h : ∀ w' g, RdSS w' (some ⟨g, 0, none⟩) 2 [xs, ys] → Below w.heap.size w w' → wpList Tryd.prog ops Q rest (a.put o.dst (.slice (some ⟨g, 0, none⟩) 2 2)) w') : wpList Tryd.prog ops Q (o :: rest) a w := by
  refine wpList_plain hgd fun K hK => ?_
  have h2 := h _ _ (rdss_new2 (a' := k') (b' := m') h1 h2) ((Below.refl _ _).alloc (Nat.le_refl _) _)
  unfold Oper.wp execOp
  simp only [ho, List.map_toArray, List.map_cons, List.map_nil, hx, hy, build2_ss, Sem.run_bind, Result.andThen_ok, Sem.run_pure]
  exact hK _ _ h2
/-- The seal's bytes. -/
def sealB (s : ByteArray) (tag : Int) (l : List ByteArray) : Array Value := (bv (dig16 (inputL tag ([s] ++ l ++ [s])))).toArray
def blindB (s : ByteArray) (l : List ByteArray) : Array Value := (bv (dig16 (inputL 121 (s :: l)))).toArray
theorem size_sealB (s : ByteArray) (tag : Int) (l : List ByteArray) : (sealB s tag l).size = 16 := by simp [sealB, length_dig16]
theorem size_blindB (s : ByteArray) (l : List ByteArray) : (blindB s l).size = 16 := by simp [blindB, length_dig16]
theorem one_sealB (s : ByteArray) (tag : Int) (l : List ByteArray) : (sealB s tag l).all (·.oneCell') = true := all_bv _
theorem one_blindB (s : ByteArray) (l : List ByteArray) : (blindB s l).all (·.oneCell') = true := all_bv _
theorem zero_16s (W : World) : (zeroValue 43).run Tryd.prog W = .ok (.agg zero16) W := by kernel_rfl
theorem aggSe : (Tryd.prog.underlying 43).map isAggDesc = some true := by kernel_rfl
theorem sizeSe : (Tryd.prog.info? 43).map (·.size) = some 16 := by kernel_rfl
theorem aggDi : (Tryd.prog.underlying 44).map isAggDesc = some true := by kernel_rfl
theorem sizeDi : (Tryd.prog.info? 44).map (·.size) = some 16 := by kernel_rfl
set_option maxRecDepth 20000 in
set_option maxHeartbeats 2000000 in
theorem make_any (k : Key) (tag : Int) (A : Option Addr) (n c : Nat) (l : List ByteArray) (w : World) (hn : n ≤ 100) (hs : ∀ s ∈ l, s.size ≤ 65536) (hks : k.secret.size ≤ 65536) (hr : Rd w A n (sv l)) (hg : GCon w) :
    Calls Tryd.prog 22 #[keyV k, .int .i64 tag, .slice A n c] w fun e w' => e = .returned (.agg (sealB k.secret tag l)) ∧ Below w.heap.size w w' := by
  have HL := Lib.hid (show l.length = n by have := hr.len; simpa using this)
  have HO : Hid (∀ (A : Option Addr) (m c : Nat) (W : World), m = n + 2 → Rd W A m (sv ([k.secret] ++ l ++ [k.secret])) → GCon W → Calls Tryd.prog 42 #[.int .i64 tag, .slice A m c] W fun e w' => e = .returned (.agg (sealB k.secret tag l)) ∧ Below W.heap.size W w') :=
    Lib.hid (fun A m c W hm hr hg => of_any tag A m c _ W (by omega) (by
      intro s hs'
      simp only [List.mem_append, List.mem_singleton] at hs'
      rcases hs' with (rfl | h) | rfl
      · exact hks
      · exact hs s h
      · exact hks) hr hg)
  have HSZ := Lib.hid (size_sealB k.secret tag l)
  have HONE := Lib.hid (one_sealB k.secret tag l)
  generalize sealB k.secret tag l = S at *
  have h16 : zero16.size = 16 := by simp [zero16]
  have H16 := Lib.hid h16
  clear h16
  have hz := zero_16s
  go_enter Tryd.func22, Tryd.ntmps22
  have hb0 := ((Below.refl w.heap.size w).alloc (Nat.le_refl _) (.cells (keyC k) 24)).alloc (by simp) (.cells zero16 43)
  have q6 := Blk.new2 w 43 zero16 (.cells (keyC k) 24)
  have q3 := (Blk.new w 24 (keyC k)).alloc (.cells zero16 43)
  have q32 := q3.cell 2
  simp only [List.getElem?_toArray, List.getElem?_cons_zero, List.getElem?_cons_succ] at q32
  go_wp2_with (first
    | (refine wpList_lit1s (x := .tmp 9) rfl rfl rfl ?_; intro w1 g1 hg1 how1 hrd1 hb1; clear hg1 how1; have q32b := cell_later hb1 q32)
    | (refine wpList_lit1s (x := .tmp 13) rfl rfl rfl ?_; intro w2 g2 hg2 how2 hrd2 hb2; clear hg2 how2)
    | (refine wpList_lit3ss rfl rfl rfl rfl rfl (hrd1.below hb2) ((hr.below hb0).below (bstep hb1 hb2)) hrd2 ?_; intro w3 g3 hss hb3))
  have hbA := bstep hb1 (bstep hb2 hb3)
  replace q6 := q6.below hbA
  have hbB := bstep hb0 hbA
  clear hb1 hb2 hb3 hrd1 hrd2 q32 q32b q3 hz
  refine (concat_any _ 3 3 _ _ (by omega) hss (by
    intro x hx
    simp only [List.mem_cons, List.not_mem_nil, or_false] at hx
    rcases hx with rfl | rfl | rfl
    · simp
    · have := HL.out; omega
    · simp) (by simp)).mono ?_
  rintro e w4 ⟨v, rfl, hown, hb4⟩
  obtain ⟨A4, m4, c4, rfl, hm4, _, _, hr4⟩ := hown.formN
  replace q6 := q6.below hb4
  have hbC := bstep hbB hb4
  have HM4 := Lib.hid hm4.out
  go_wp2_with fail
  refine (HO.out A4 m4 c4 _ (by rw [HM4.out]; have := HL.out; simp; omega) (by simpa using hr4) (hg.below hbC)).mono ?_
  rintro e w5 ⟨rfl, hb5⟩
  replace q6 := q6.below hb5
  have hbD := bstep hbC hb5
  have hlt6 := q6.lt
  go_wp2_with (refine wpList_storeRow (g := w.heap.size + 1) (o := 0) (vs := S) rfl rfl rfl rfl q6 (by rw [HSZ.out, H16.out]; decide) (by rw [HSZ.out]; kernel_rfl) HONE.out ?_)
  have hbk := q6.all S (by rw [HSZ.out, H16.out])
  exact ret_blk rfl rfl rfl hbk aggSe (by rw [HSZ.out]; kernel_rfl) ⟨rfl, below_setCells hbD (by omega) 0 S.toList⟩
set_option maxRecDepth 20000 in
set_option maxHeartbeats 2000000 in
theorem blind_any (s : ByteArray) (A : Option Addr) (n c : Nat) (l : List ByteArray) (w : World) (hn : n ≤ 100) (hs : ∀ s ∈ l, s.size ≤ 65536) (hks : s.size ≤ 65536) (hr : Rd w A n (sv l)) (hg : GCon w) :
    Calls Tryd.prog 27 #[.string s, .slice A n c] w fun e w' => e = .returned (.agg (blindB s l)) ∧ Below w.heap.size w w' := by
  have HL := Lib.hid (show l.length = n by have := hr.len; simpa using this)
  have HO : Hid (∀ (A : Option Addr) (m c : Nat) (W : World), m = n + 1 → Rd W A m (sv (s :: l)) → GCon W → Calls Tryd.prog 42 #[.int .i64 121, .slice A m c] W fun e w' => e = .returned (.agg (blindB s l)) ∧ Below W.heap.size W w') :=
    Lib.hid (fun A m c W hm hr hg => of_any 121 A m c _ W (by omega) (by
      intro s hs'
      simp only [List.mem_cons] at hs'
      rcases hs' with rfl | h
      · exact hks
      · exact hs s h) hr hg)
  have HSZ := Lib.hid (size_blindB s l)
  have HONE := Lib.hid (one_blindB s l)
  generalize blindB s l = S at *
  have H16 := Lib.hid (show zero16.size = 16 by simp [zero16])
  have hz := zero_16
  go_enter Tryd.func27, Tryd.ntmps27
  have hb0 := (Below.refl w.heap.size w).alloc (Nat.le_refl _) (.cells zero16 44)
  have q4 := Blk.new w 44 zero16
  go_wp2_with (first
    | (refine wpList_lit1s (x := .tmp 5) rfl rfl rfl ?_; intro w1 g1 hg1 how1 hrd1 hb1; clear hg1 how1)
    | (refine wpList_lit2ss rfl rfl rfl rfl hrd1 ((hr.below hb0).below hb1) ?_; intro w3 g3 hss hb3))
  have hbA := bstep hb1 hb3
  replace q4 := q4.below hbA
  have hbB := bstep hb0 hbA
  clear hb1 hb3 hrd1 hz
  refine (concat_any _ 2 2 _ _ (by omega) hss (by
    intro x hx
    simp only [List.mem_cons, List.not_mem_nil, or_false] at hx
    rcases hx with rfl | rfl
    · simp
    · have := HL.out; omega) (by simp)).mono ?_
  rintro e w4 ⟨v, rfl, hown, hb4⟩
  obtain ⟨A4, m4, c4, rfl, hm4, _, _, hr4⟩ := hown.formN
  replace q4 := q4.below hb4
  have hbC := bstep hbB hb4
  have HM4 := Lib.hid hm4.out
  go_wp2_with fail
  refine (HO.out A4 m4 c4 _ (by rw [HM4.out]; have := HL.out; simp; omega) (by simpa using hr4) (hg.below hbC)).mono ?_
  rintro e w5 ⟨rfl, hb5⟩
  replace q4 := q4.below hb5
  have hbD := bstep hbC hb5
  have hlt4 := q4.lt
  go_wp2_with (refine wpList_storeRow (g := w.heap.size) (o := 0) (vs := S) rfl rfl rfl rfl q4 (by rw [HSZ.out, H16.out]; decide) (by rw [HSZ.out]; kernel_rfl) HONE.out ?_)
  have hbk := q4.all S (by rw [HSZ.out, H16.out])
  exact ret_blk rfl rfl rfl hbk aggDi (by rw [HSZ.out]; kernel_rfl) ⟨rfl, below_setCells hbD (by omega) 0 S.toList⟩
set_option maxRecDepth 20000 in
set_option maxHeartbeats 2000000 in
theorem refMake_any (k : Key) (tag : Int) (A : Option Addr) (n c : Nat) (l : List ByteArray) (w : World) (hn : n ≤ 10) (hs : ∀ s ∈ l, s.size ≤ 400) (hks : k.secret.size ≤ 400) (hr : Rd w A n (sv l)) (hg : RCon w) :
    Calls Tryd.prog 23 #[keyV k, .int .i64 tag, .slice A n c] w fun e w' => e = .returned (.agg (sealB k.secret tag l)) ∧ Below w.heap.size w w' := by
  have HL := Lib.hid (show l.length = n by have := hr.len; simpa using this)
  have HO : Hid (∀ (A : Option Addr) (m c : Nat) (W : World), m = n + 2 → Rd W A m (sv ([k.secret] ++ l ++ [k.secret])) → RCon W → Calls Tryd.prog 44 #[.int .i64 tag, .slice A m c] W fun e w' => e = .returned (.agg (sealB k.secret tag l)) ∧ Below W.heap.size W w') :=
    Lib.hid (fun A m c W hm hr hg => refOf_any tag A m c _ W (by omega) (by
      intro s hs'
      simp only [List.mem_append, List.mem_singleton] at hs'
      rcases hs' with (rfl | h) | rfl
      · exact hks
      · exact hs s h
      · exact hks) hr hg)
  have HSZ := Lib.hid (size_sealB k.secret tag l)
  have HONE := Lib.hid (one_sealB k.secret tag l)
  generalize sealB k.secret tag l = S at *
  have H16 := Lib.hid (show zero16.size = 16 by simp [zero16])
  have hz := zero_16s
  go_enter Tryd.func23, Tryd.ntmps23
  have hb0 := ((Below.refl w.heap.size w).alloc (Nat.le_refl _) (.cells (keyC k) 24)).alloc (by simp) (.cells zero16 43)
  have q6 := Blk.new2 w 43 zero16 (.cells (keyC k) 24)
  have q3 := (Blk.new w 24 (keyC k)).alloc (.cells zero16 43)
  have q32 := q3.cell 2
  simp only [List.getElem?_toArray, List.getElem?_cons_zero, List.getElem?_cons_succ] at q32
  go_upto_region 2 with (first
    | (refine wpList_lit1s (x := .tmp 9) rfl rfl rfl ?_; intro w1 g1 hg1 how1 hrd1 hb1; clear hg1; have how1' : Own w1 ((w.alloc (.cells (keyC k) 24)).alloc (.cells zero16 43)).heap.size 9 (.slice (some ⟨g1, 0, none⟩) 1 1) (sv [k.secret]) := how1; clear how1; have q32b := cell_later hb1 q32)
    | (at_builtin; refine wpList_app rfl rfl elemStr rfl how1' rfl ((hr.below hb0).below hb1) (one_sv _) (by rw [length_sv, List.length_singleton]; omega) hb1.size ?_; intro v2 w2 how2 _ hb2 _))
  have hbA : Below w.heap.size w w2 := (hb0.trans (hb1.mono hb0.size)).trans (hb2.mono hb0.size)
  replace q6 := (q6.below hb1).below' hb2 (by simp)
  have q32c : w2.cell? ⟨w.heap.size, 2, none⟩ = some (.string k.secret) := (hb2.cell (p := ⟨w.heap.size, 2, none⟩) (by simp; omega)).trans q32b
  have hB2 := hb2.size
  go_wp2_with (first
    | (refine wpList_lit1s (x := .tmp 15) rfl rfl rfl ?_; intro w3 g3 hg3 how3 hrd3 hb3; clear hg3 how3)
    | (at_builtin; refine wpList_app rfl rfl elemStr rfl (how2.below hb3) rfl hrd3 (one_sv _) (by rw [List.length_append, length_sv, length_sv, List.length_singleton]; have := HL.out; omega) (Nat.le_trans hb1.size (Nat.le_trans hB2 hb3.size)) ?_; intro v4 w4 how4 _ hb4 _))
  have hbB : Below w.heap.size w w4 := hbA.trans ((hb3.mono hbA.size).trans (hb4.mono hb0.size))
  replace q6 := (q6.below hb3).below' hb4 (by simp)
  rw [← sv_append, ← sv_append] at how4
  obtain ⟨A4, m4, c4, rfl, hm4, _, _, hr4⟩ := how4.formN
  have HM4 := Lib.hid hm4.out
  go_wp2_with fail
  refine (HO.out A4 m4 c4 _ (by rw [HM4.out]; have := HL.out; simp; omega) hr4 (hg.below hbB)).mono ?_
  rintro e w5 ⟨rfl, hb5⟩
  replace q6 := q6.below hb5
  have hbD := bstep hbB hb5
  have hlt6 := q6.lt
  go_wp2_with (refine wpList_storeRow (g := w.heap.size + 1) (o := 0) (vs := S) rfl rfl rfl rfl q6 (by rw [HSZ.out, H16.out]; decide) (by rw [HSZ.out]; kernel_rfl) HONE.out ?_)
  have hbk := q6.all S (by rw [HSZ.out, H16.out])
  exact ret_blk rfl rfl rfl hbk aggSe (by rw [HSZ.out]; kernel_rfl) ⟨rfl, below_setCells hbD (by omega) 0 S.toList⟩
set_option maxRecDepth 20000 in
set_option maxHeartbeats 2000000 in
theorem refBlind_any (s : ByteArray) (A : Option Addr) (n c : Nat) (l : List ByteArray) (w : World) (hn : n ≤ 10) (hs : ∀ s ∈ l, s.size ≤ 400) (hks : s.size ≤ 400) (hr : Rd w A n (sv l)) (hg : RCon w) :
    Calls Tryd.prog 26 #[.string s, .slice A n c] w fun e w' => e = .returned (.agg (blindB s l)) ∧ Below w.heap.size w w' := by
  have HL := Lib.hid (show l.length = n by have := hr.len; simpa using this)
  have HO : Hid (∀ (A : Option Addr) (m c : Nat) (W : World), m = n + 1 → Rd W A m (sv (s :: l)) → RCon W → Calls Tryd.prog 44 #[.int .i64 121, .slice A m c] W fun e w' => e = .returned (.agg (blindB s l)) ∧ Below W.heap.size W w') :=
    Lib.hid (fun A m c W hm hr hg => refOf_any 121 A m c _ W (by omega) (by
      intro s hs'
      simp only [List.mem_cons] at hs'
      rcases hs' with rfl | h
      · exact hks
      · exact hs s h) hr hg)
  have HSZ := Lib.hid (size_blindB s l)
  have HONE := Lib.hid (one_blindB s l)
  generalize blindB s l = S at *
  have H16 := Lib.hid (show zero16.size = 16 by simp [zero16])
  have hz := zero_16
  go_enter Tryd.func26, Tryd.ntmps26
  have hb0 := (Below.refl w.heap.size w).alloc (Nat.le_refl _) (.cells zero16 44)
  have q4 := Blk.new w 44 zero16
  go_wp2_with (first
    | (refine wpList_lit1s (x := .tmp 5) rfl rfl rfl ?_; intro w1 g1 hg1 how1 hrd1 hb1; clear hg1; have how1' : Own w1 (w.alloc (.cells zero16 44)).heap.size 9 (.slice (some ⟨g1, 0, none⟩) 1 1) (sv [s]) := how1; clear how1)
    | (at_builtin; refine wpList_app rfl rfl elemStr rfl how1' rfl ((hr.below hb0).below hb1) (one_sv _) (by rw [length_sv, List.length_singleton]; omega) hb1.size ?_; intro v2 w2 how2 _ hb2 _))
  have hbB : Below w.heap.size w w2 := (hb0.trans (hb1.mono hb0.size)).trans (hb2.mono hb0.size)
  replace q4 := (q4.below hb1).below' hb2 (by simp)
  rw [← sv_append] at how2
  obtain ⟨A4, m4, c4, rfl, hm4, _, _, hr4⟩ := how2.formN
  have HM4 := Lib.hid hm4.out
  refine (HO.out A4 m4 c4 _ (by rw [HM4.out]; have := HL.out; simp; omega) hr4 (hg.below hbB)).mono ?_
  rintro e w5 ⟨rfl, hb5⟩
  replace q4 := q4.below hb5
  have hbD := bstep hbB hb5
  have hlt4 := q4.lt
  go_wp2_with (refine wpList_storeRow (g := w.heap.size) (o := 0) (vs := S) rfl rfl rfl rfl q4 (by rw [HSZ.out, H16.out]; decide) (by rw [HSZ.out]; kernel_rfl) HONE.out ?_)
  have hbk := q4.all S (by rw [HSZ.out, H16.out])
  exact ret_blk rfl rfl rfl hbk aggDi (by rw [HSZ.out]; kernel_rfl) ⟨rfl, below_setCells hbD (by omega) 0 S.toList⟩
end Go.Proofs.YtfnpeclomcnpeaaDoor
