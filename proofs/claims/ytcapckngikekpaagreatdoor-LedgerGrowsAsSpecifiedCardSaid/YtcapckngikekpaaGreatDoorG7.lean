/-
  Known of the functions of this seat's laws, joined. Conditions: each theorem's own.
-/
import Derived.Test.YtcapckngikekpaaGreatDoorG6
namespace Go.Proofs.YtcapckngikekpaaGreatDoor
set_option linter.unusedSimpArgs false
set_option linter.unusedVariables false
set_option maxRecDepth 100000
set_option maxHeartbeats 16000000
section
open Go.RowKit Ring Sha
theorem znd (s : ByteArray) (W : World) : (Instr.buildSlice 103 1 #[(0, .string s)]).run Tryz.prog W = .ok (.slice (some ⟨W.heap.size, 0, none⟩) 1 1) (W.alloc (.cells #[.string s] 9)) := by kernel_rfl
theorem zab {w : World} {ops : Array Oper} {rest : List Oper} {o : Oper} {a : Act} {Q : Exit → Act → World → Prop} (hgd : o.guard = none) {x : Operand} {s : ByteArray} (ho : o.op = .buildSlice 103 1 #[(0, x)]) (hx : a.eval x = .string s)
  (h : ∀ w' g, g = w.heap.size → w'.ownsRow w.heap.size 9 1 (.slice (some ⟨g, 0, none⟩) 1 1) 1 (sv [s]) → Rd w' (some ⟨g, 0, none⟩) 1 (sv [s]) → Below w.heap.size w w' → wpList Tryz.prog ops Q rest (a.put o.dst (.slice (some ⟨g, 0, none⟩) 1 1)) w') : wpList Tryz.prog ops Q (o :: rest) a w := by
 refine wpList_plain hgd fun K hK => ?_
 have h2 := h _ _ rfl ⟨rfl, .inr ⟨w.heap.size, 1, #[.string s], rfl, Nat.le_refl _, heap_alloc_new w _, Nat.le_refl _, by simp [maxLen], rfl, rfl⟩⟩ (zdd w (sv [s]) 9) ((Below.refl _ _).alloc (Nat.le_refl _) _)
 unfold Oper.wp execOp
 simp only [ho, List.map_toArray, List.map_cons, List.map_nil, hx, znd, Sem.run_bind, Result.andThen_ok, Sem.run_pure]
 exact hK _ _ h2
theorem znj (A B C : Option Addr) (a b c a' b' c' : Nat) (W : World) : (Instr.buildSlice 197 3 #[(0, .slice A a a'), (1, .slice B b b'), (2, .slice C c c')]).run Tryz.prog W = .ok (.slice (some ⟨W.heap.size, 0, none⟩) 3 3) (W.alloc (.cells #[.slice A a a', .slice B b b', .slice C c c'] 103)) := by kernel_rfl
theorem zng (A B : Option Addr) (a b a' b' : Nat) (W : World) : (Instr.buildSlice 197 2 #[(0, .slice A a a'), (1, .slice B b b')]).run Tryz.prog W = .ok (.slice (some ⟨W.heap.size, 0, none⟩) 2 2) (W.alloc (.cells #[.slice A a a', .slice B b b'] 103)) := by kernel_rfl
theorem zsj {w : World} {A B C : Option Addr} {a b c a' b' c' : Nat} {x y z : List ByteArray} (h1 : Rd w A a (sv x)) (h2 : Rd w B b (sv y)) (h3 : Rd w C c (sv z)) :
  z7j (w.alloc (.cells #[.slice A a a', .slice B b b', .slice C c c'] 103)) (some ⟨w.heap.size, 0, none⟩) 3 [x, y, z] := by
 have hb := (Below.refl w.heap.size w).alloc (Nat.le_refl _) (.cells #[.slice A a a', .slice B b b', .slice C c c'] 103)
 have hR := zdd w [.slice A a a', .slice B b b', .slice C c c'] 103
 have l1 : x.length = a := by have := h1.len; simpa using this
 have l2 : y.length = b := by have := h2.len; simpa using this
 have l3 : z.length = c := by have := h3.len; simpa using this
 subst l1 l2 l3
 refine ⟨rfl, fun i hi => ?_⟩
 match i, hi with
 | 0, _ => obtain ⟨ad, e, hc⟩ := hR.at_ 0 _ rfl; exact ⟨ad, A, a', e, hc, h1.below hb⟩
 | 1, _ => obtain ⟨ad, e, hc⟩ := hR.at_ 1 _ rfl; exact ⟨ad, B, b', e, hc, h2.below hb⟩
 | 2, _ => obtain ⟨ad, e, hc⟩ := hR.at_ 2 _ rfl; exact ⟨ad, C, c', e, hc, h3.below hb⟩
theorem zsi {w : World} {A B : Option Addr} {a b a' b' : Nat} {x y : List ByteArray} (h1 : Rd w A a (sv x)) (h2 : Rd w B b (sv y)) :
  z7j (w.alloc (.cells #[.slice A a a', .slice B b b'] 103)) (some ⟨w.heap.size, 0, none⟩) 2 [x, y] := by
 have hb := (Below.refl w.heap.size w).alloc (Nat.le_refl _) (.cells #[.slice A a a', .slice B b b'] 103)
 have hR := zdd w [.slice A a a', .slice B b b'] 103
 have l1 : x.length = a := by have := h1.len; simpa using this
 have l2 : y.length = b := by have := h2.len; simpa using this
 subst l1 l2
 refine ⟨rfl, fun i hi => ?_⟩
 match i, hi with
 | 0, _ => obtain ⟨ad, e, hc⟩ := hR.at_ 0 _ rfl; exact ⟨ad, A, a', e, hc, h1.below hb⟩
 | 1, _ => obtain ⟨ad, e, hc⟩ := hR.at_ 1 _ rfl; exact ⟨ad, B, b', e, hc, h2.below hb⟩
theorem zwh {w : World} {ops : Array Oper} {rest : List Oper} {o : Oper} {a : Act} {Q : Exit → Act → World → Prop} (hgd : o.guard = none) {x y z : Operand} {A B C : Option Addr} {k m n k' m' n' : Nat} {xs ys zs : List ByteArray} (ho : o.op = .buildSlice 197 3 #[(0, x), (1, y), (2, z)])
  (hx : a.eval x = .slice A k k') (hy : a.eval y = .slice B m m') (hz : a.eval z = .slice C n n') (h1 : Rd w A k (sv xs)) (h2 : Rd w B m (sv ys)) (h3 : Rd w C n (sv zs))
  (h : ∀ w' g, z7j w' (some ⟨g, 0, none⟩) 3 [xs, ys, zs] → Below w.heap.size w w' → wpList Tryz.prog ops Q rest (a.put o.dst (.slice (some ⟨g, 0, none⟩) 3 3)) w') : wpList Tryz.prog ops Q (o :: rest) a w := by
 refine wpList_plain hgd fun K hK => ?_
 have h2 := h _ _ (zsj (a' := k') (b' := m') (c' := n') h1 h2 h3) ((Below.refl _ _).alloc (Nat.le_refl _) _)
 unfold Oper.wp execOp
 simp only [ho, List.map_toArray, List.map_cons, List.map_nil, hx, hy, hz, znj, Sem.run_bind, Result.andThen_ok, Sem.run_pure]
 exact hK _ _ h2
theorem zwg {w : World} {ops : Array Oper} {rest : List Oper} {o : Oper} {a : Act} {Q : Exit → Act → World → Prop} (hgd : o.guard = none) {x y : Operand} {A B : Option Addr} {k m k' m' : Nat} {xs ys : List ByteArray} (ho : o.op = .buildSlice 197 2 #[(0, x), (1, y)])
  (hx : a.eval x = .slice A k k') (hy : a.eval y = .slice B m m') (h1 : Rd w A k (sv xs)) (h2 : Rd w B m (sv ys))
  (h : ∀ w' g, z7j w' (some ⟨g, 0, none⟩) 2 [xs, ys] → Below w.heap.size w w' → wpList Tryz.prog ops Q rest (a.put o.dst (.slice (some ⟨g, 0, none⟩) 2 2)) w') : wpList Tryz.prog ops Q (o :: rest) a w := by
 refine wpList_plain hgd fun K hK => ?_
 have h2 := h _ _ (zsi (a' := k') (b' := m') h1 h2) ((Below.refl _ _).alloc (Nat.le_refl _) _)
 unfold Oper.wp execOp
 simp only [ho, List.map_toArray, List.map_cons, List.map_nil, hx, hy, zng, Sem.run_bind, Result.andThen_ok, Sem.run_pure]
 exact hK _ _ h2
def z76 (s : ByteArray) (tag : Int) (l : List ByteArray) : Array Value := (bv (z12 (z0b tag ([s] ++ l ++ [s])))).toArray
def z6y (s : ByteArray) (l : List ByteArray) : Array Value := (bv (z12 (z0b 121 (s :: l)))).toArray
theorem zlv (s : ByteArray) (tag : Int) (l : List ByteArray) : (z76 s tag l).size = 16 := by simp [z76, z8g]
theorem zlt (s : ByteArray) (l : List ByteArray) : (z6y s l).size = 16 := by simp [z6y, z8g]
theorem zjs (s : ByteArray) (tag : Int) (l : List ByteArray) : (z76 s tag l).all (·.oneCell') = true := z6w _
theorem zjq (s : ByteArray) (l : List ByteArray) : (z6y s l).all (·.oneCell') = true := z6w _
theorem zmn (W : World) : (zeroValue 49).run Tryz.prog W = .ok (.agg z0s) W := by kernel_rfl
theorem zc8 : (Tryz.prog.underlying 49).map z0g = some true := by kernel_rfl
theorem zbn : (Tryz.prog.info? 49).map (·.size) = some 16 := by kernel_rfl
theorem zgu : (Tryz.prog.underlying 25).map z0g = some true := by kernel_rfl
theorem zje (k : Key) (tag : Int) (A : Option Addr) (n c : Nat) (l : List ByteArray) (w : World) (hn : n ≤ 100) (hs : ∀ s ∈ l, s.size ≤ 65536) (hks : k.secret.size ≤ 65536) (hr : Rd w A n (sv l)) (hg : GCon w) :
  Calls Tryz.prog 75 #[z14 k, .int .i64 tag, .slice A n c] w fun e w' => e = .returned (.agg (z76 k.secret tag l)) ∧ Below w.heap.size w w' := by
 have HL := ya (show l.length = n by have := hr.len; simpa using this)
 have HO : Hid (∀ (A : Option Addr) (m c : Nat) (W : World), m = n + 2 → Rd W A m (sv ([k.secret] ++ l ++ [k.secret])) → GCon W → Calls Tryz.prog 98 #[.int .i64 tag, .slice A m c] W fun e w' => e = .returned (.agg (z76 k.secret tag l)) ∧ Below W.heap.size W w') :=
  ya (fun A m c W hm hr hg => zba tag A m c _ W (by omega) (by
   intro s hs'
   simp only [List.mem_append, List.mem_singleton] at hs'
   rcases hs' with (rfl | h) | rfl
   ·exact hks
   ·exact hs s h
   ·exact hks) hr hg)
 have HSZ := ya (zlv k.secret tag l)
 have HONE := ya (zjs k.secret tag l)
 generalize z76 k.secret tag l = S at *
 have h16 : z0s.size = 16 := by simp [z0s]
 have H16 := ya h16
 clear h16
 have hz := zmn
 go_enter Tryz.func75, Tryz.ntmps75
 have hb0 := ((Below.refl w.heap.size w).alloc (Nat.le_refl _) (.cells (z0l k) 44)).alloc (by simp) (.cells z0s 49)
 have q6 := Blk.new2 w 49 z0s (.cells (z0l k) 44)
 have q3 := (Blk.new w 44 (z0l k)).alloc (.cells z0s 49)
 have q32 := q3.cell 2
 simp only [List.getElem?_toArray, List.getElem?_cons_zero, List.getElem?_cons_succ] at q32
 go_wp2_with (first
  | (refine zab (x := .tmp 9) rfl rfl rfl ?_; intro w1 g1 hg1 how1 hrd1 hb1; clear hg1 how1; have q32b := cell_later hb1 q32)
  | (refine zab (x := .tmp 13) rfl rfl rfl ?_; intro w2 g2 hg2 how2 hrd2 hb2; clear hg2 how2)
  | (refine zwh rfl rfl rfl rfl rfl (hrd1.below hb2) ((hr.below hb0).below (yb hb1 hb2)) hrd2 ?_; intro w3 g3 hss hb3))
 have hbA := yb hb1 (yb hb2 hb3)
 replace q6 := q6.below hbA
 have hbB := yb hb0 hbA
 clear hb1 hb2 hb3 hrd1 hrd2 q32 q32b q3 hz
 refine (zhs _ 3 3 _ _ (by omega) hss (by
  intro x hx
  simp only [List.mem_cons, List.not_mem_nil, or_false] at hx
  rcases hx with rfl | rfl | rfl
  ·simp
  ·have := HL.out; omega
  ·simp) (by simp)).mono ?_
 rintro e w4 ⟨v, rfl, hown, hb4⟩
 obtain ⟨A4, m4, c4, rfl, hm4, _, _, hr4⟩ := hown.formN
 replace q6 := q6.below hb4
 have hbC := yb hbB hb4
 have HM4 := ya hm4.out
 go_wp2_with fail
 refine (HO.out A4 m4 c4 _ (by rw [HM4.out]; have := HL.out; simp; omega) (by simpa using hr4) (hg.below hbC)).mono ?_
 rintro e w5 ⟨rfl, hb5⟩
 replace q6 := q6.below hb5
 have hbD := yb hbC hb5
 have hlt6 := q6.lt
 go_wp2_with (refine z2g (g := w.heap.size + 1) (o := 0) (vs := S) rfl rfl rfl rfl q6 (by rw [HSZ.out, H16.out]; decide) (by rw [HSZ.out]; kernel_rfl) HONE.out ?_)
 have hbk := q6.all S (by rw [HSZ.out, H16.out])
 exact z04 rfl rfl rfl hbk zc8 (by rw [HSZ.out]; kernel_rfl) ⟨rfl, z0u hbD (by omega) 0 S.toList⟩
theorem zn2 (s : ByteArray) (A : Option Addr) (n c : Nat) (l : List ByteArray) (w : World) (hn : n ≤ 100) (hs : ∀ s ∈ l, s.size ≤ 65536) (hks : s.size ≤ 65536) (hr : Rd w A n (sv l)) (hg : GCon w) :
  Calls Tryz.prog 50 #[.string s, .slice A n c] w fun e w' => e = .returned (.agg (z6y s l)) ∧ Below w.heap.size w w' := by
 have HL := ya (show l.length = n by have := hr.len; simpa using this)
 have HO : Hid (∀ (A : Option Addr) (m c : Nat) (W : World), m = n + 1 → Rd W A m (sv (s :: l)) → GCon W → Calls Tryz.prog 98 #[.int .i64 121, .slice A m c] W fun e w' => e = .returned (.agg (z6y s l)) ∧ Below W.heap.size W w') :=
  ya (fun A m c W hm hr hg => zba 121 A m c _ W (by omega) (by
   intro s hs'
   simp only [List.mem_cons] at hs'
   rcases hs' with rfl | h
   ·exact hks
   ·exact hs s h) hr hg)
 have HSZ := ya (zlt s l)
 have HONE := ya (zjq s l)
 generalize z6y s l = S at *
 have H16 := ya (show z0s.size = 16 by simp [z0s])
 have hz := z8u
 go_enter Tryz.func50, Tryz.ntmps50
 have hb0 := (Below.refl w.heap.size w).alloc (Nat.le_refl _) (.cells z0s 25)
 have q4 := Blk.new w 25 z0s
 go_wp2_with (first
  | (refine zab (x := .tmp 5) rfl rfl rfl ?_; intro w1 g1 hg1 how1 hrd1 hb1; clear hg1 how1)
  | (refine zwg rfl rfl rfl rfl hrd1 ((hr.below hb0).below hb1) ?_; intro w3 g3 hss hb3))
 have hbA := yb hb1 hb3
 replace q4 := q4.below hbA
 have hbB := yb hb0 hbA
 clear hb1 hb3 hrd1 hz
 refine (zhs _ 2 2 _ _ (by omega) hss (by
  intro x hx
  simp only [List.mem_cons, List.not_mem_nil, or_false] at hx
  rcases hx with rfl | rfl
  ·simp
  ·have := HL.out; omega) (by simp)).mono ?_
 rintro e w4 ⟨v, rfl, hown, hb4⟩
 obtain ⟨A4, m4, c4, rfl, hm4, _, _, hr4⟩ := hown.formN
 replace q4 := q4.below hb4
 have hbC := yb hbB hb4
 have HM4 := ya hm4.out
 go_wp2_with fail
 refine (HO.out A4 m4 c4 _ (by rw [HM4.out]; have := HL.out; simp; omega) (by simpa using hr4) (hg.below hbC)).mono ?_
 rintro e w5 ⟨rfl, hb5⟩
 replace q4 := q4.below hb5
 have hbD := yb hbC hb5
 have hlt4 := q4.lt
 go_wp2_with (refine z2g (g := w.heap.size) (o := 0) (vs := S) rfl rfl rfl rfl q4 (by rw [HSZ.out, H16.out]; decide) (by rw [HSZ.out]; kernel_rfl) HONE.out ?_)
 have hbk := q4.all S (by rw [HSZ.out, H16.out])
 exact z04 rfl rfl rfl hbk zgu (by rw [HSZ.out]; kernel_rfl) ⟨rfl, z0u hbD (by omega) 0 S.toList⟩
theorem zky (k : Key) (tag : Int) (A : Option Addr) (n c : Nat) (l : List ByteArray) (w : World) (hn : n ≤ 10) (hs : ∀ s ∈ l, s.size ≤ 65536) (hks : k.secret.size ≤ 65536) (hr : Rd w A n (sv l)) (hg : RCon w) :
  Calls Tryz.prog 80 #[z14 k, .int .i64 tag, .slice A n c] w fun e w' => e = .returned (.agg (z76 k.secret tag l)) ∧ Below w.heap.size w w' := by
 have HL := ya (show l.length = n by have := hr.len; simpa using this)
 have HO : Hid (∀ (A : Option Addr) (m c : Nat) (W : World), m = n + 2 → Rd W A m (sv ([k.secret] ++ l ++ [k.secret])) → RCon W → Calls Tryz.prog 102 #[.int .i64 tag, .slice A m c] W fun e w' => e = .returned (.agg (z76 k.secret tag l)) ∧ Below W.heap.size W w') :=
  ya (fun A m c W hm hr hg => zkz tag A m c _ W (by omega) (by
   intro s hs'
   simp only [List.mem_append, List.mem_singleton] at hs'
   rcases hs' with (rfl | h) | rfl
   ·exact hks
   ·exact hs s h
   ·exact hks) hr hg)
 have HSZ := ya (zlv k.secret tag l)
 have HONE := ya (zjs k.secret tag l)
 generalize z76 k.secret tag l = S at *
 have H16 := ya (show z0s.size = 16 by simp [z0s])
 have hz := zmn
 go_enter Tryz.func80, Tryz.ntmps80
 have hb0 := ((Below.refl w.heap.size w).alloc (Nat.le_refl _) (.cells (z0l k) 44)).alloc (by simp) (.cells z0s 49)
 have q6 := Blk.new2 w 49 z0s (.cells (z0l k) 44)
 have q3 := (Blk.new w 44 (z0l k)).alloc (.cells z0s 49)
 have q32 := q3.cell 2
 simp only [List.getElem?_toArray, List.getElem?_cons_zero, List.getElem?_cons_succ] at q32
 go_upto_region 2 with (first
  | (refine zab (x := .tmp 9) rfl rfl rfl ?_; intro w1 g1 hg1 how1 hrd1 hb1; clear hg1; have how1' : Own w1 ((w.alloc (.cells (z0l k) 44)).alloc (.cells z0s 49)).heap.size 9 (.slice (some ⟨g1, 0, none⟩) 1 1) (sv [k.secret]) := how1; clear how1; have q32b := cell_later hb1 q32)
  | (at_builtin; refine z27 rfl rfl z7p rfl how1' rfl ((hr.below hb0).below hb1) (zd5 _) (by rw [z4m, List.length_singleton]; omega) hb1.size ?_; intro v2 w2 how2 _ hb2 _))
 have hbA : Below w.heap.size w w2 := (hb0.trans (hb1.mono hb0.size)).trans (hb2.mono hb0.size)
 replace q6 := (q6.below hb1).below' hb2 (by simp)
 have q32c : w2.cell? ⟨w.heap.size, 2, none⟩ = some (.string k.secret) := (hb2.cell (p := ⟨w.heap.size, 2, none⟩) (by simp; omega)).trans q32b
 have hB2 := hb2.size
 go_wp2_with (first
  | (refine zab (x := .tmp 15) rfl rfl rfl ?_; intro w3 g3 hg3 how3 hrd3 hb3; clear hg3 how3)
  | (at_builtin; refine z27 rfl rfl z7p rfl (how2.below hb3) rfl hrd3 (zd5 _) (by rw [List.length_append, z4m, z4m, List.length_singleton]; have := HL.out; omega) (Nat.le_trans hb1.size (Nat.le_trans hB2 hb3.size)) ?_; intro v4 w4 how4 _ hb4 _))
 have hbB : Below w.heap.size w w4 := hbA.trans ((hb3.mono hbA.size).trans (hb4.mono hb0.size))
 replace q6 := (q6.below hb3).below' hb4 (by simp)
 rw [← zdr, ← zdr] at how4
 obtain ⟨A4, m4, c4, rfl, hm4, _, _, hr4⟩ := how4.formN
 have HM4 := ya hm4.out
 go_wp2_with fail
 refine (HO.out A4 m4 c4 _ (by rw [HM4.out]; have := HL.out; simp; omega) hr4 (hg.below hbB)).mono ?_
 rintro e w5 ⟨rfl, hb5⟩
 replace q6 := q6.below hb5
 have hbD := yb hbB hb5
 have hlt6 := q6.lt
 go_wp2_with (refine z2g (g := w.heap.size + 1) (o := 0) (vs := S) rfl rfl rfl rfl q6 (by rw [HSZ.out, H16.out]; decide) (by rw [HSZ.out]; kernel_rfl) HONE.out ?_)
 have hbk := q6.all S (by rw [HSZ.out, H16.out])
 exact z04 rfl rfl rfl hbk zc8 (by rw [HSZ.out]; kernel_rfl) ⟨rfl, z0u hbD (by omega) 0 S.toList⟩
theorem zsm (s : ByteArray) (A : Option Addr) (n c : Nat) (l : List ByteArray) (w : World) (hn : n ≤ 10) (hs : ∀ s ∈ l, s.size ≤ 65536) (hks : s.size ≤ 65536) (hr : Rd w A n (sv l)) (hg : RCon w) :
  Calls Tryz.prog 52 #[.string s, .slice A n c] w fun e w' => e = .returned (.agg (z6y s l)) ∧ Below w.heap.size w w' := by
 have HL := ya (show l.length = n by have := hr.len; simpa using this)
 have HO : Hid (∀ (A : Option Addr) (m c : Nat) (W : World), m = n + 1 → Rd W A m (sv (s :: l)) → RCon W → Calls Tryz.prog 102 #[.int .i64 121, .slice A m c] W fun e w' => e = .returned (.agg (z6y s l)) ∧ Below W.heap.size W w') :=
  ya (fun A m c W hm hr hg => zkz 121 A m c _ W (by omega) (by
   intro s hs'
   simp only [List.mem_cons] at hs'
   rcases hs' with rfl | h
   ·exact hks
   ·exact hs s h) hr hg)
 have HSZ := ya (zlt s l)
 have HONE := ya (zjq s l)
 generalize z6y s l = S at *
 have H16 := ya (show z0s.size = 16 by simp [z0s])
 have hz := z8u
 go_enter Tryz.func52, Tryz.ntmps52
 have hb0 := (Below.refl w.heap.size w).alloc (Nat.le_refl _) (.cells z0s 25)
 have q4 := Blk.new w 25 z0s
 go_wp2_with (first
  | (refine zab (x := .tmp 5) rfl rfl rfl ?_; intro w1 g1 hg1 how1 hrd1 hb1; clear hg1; have how1' : Own w1 (w.alloc (.cells z0s 25)).heap.size 9 (.slice (some ⟨g1, 0, none⟩) 1 1) (sv [s]) := how1; clear how1)
  | (at_builtin; refine z27 rfl rfl z7p rfl how1' rfl ((hr.below hb0).below hb1) (zd5 _) (by rw [z4m, List.length_singleton]; omega) hb1.size ?_; intro v2 w2 how2 _ hb2 _))
 have hbB : Below w.heap.size w w2 := (hb0.trans (hb1.mono hb0.size)).trans (hb2.mono hb0.size)
 replace q4 := (q4.below hb1).below' hb2 (by simp)
 rw [← zdr] at how2
 obtain ⟨A4, m4, c4, rfl, hm4, _, _, hr4⟩ := how2.formN
 have HM4 := ya hm4.out
 refine (HO.out A4 m4 c4 _ (by rw [HM4.out]; have := HL.out; simp; omega) hr4 (hg.below hbB)).mono ?_
 rintro e w5 ⟨rfl, hb5⟩
 replace q4 := q4.below hb5
 have hbD := yb hbB hb5
 have hlt4 := q4.lt
 go_wp2_with (refine z2g (g := w.heap.size) (o := 0) (vs := S) rfl rfl rfl rfl q4 (by rw [HSZ.out, H16.out]; decide) (by rw [HSZ.out]; kernel_rfl) HONE.out ?_)
 have hbk := q4.all S (by rw [HSZ.out, H16.out])
 exact z04 rfl rfl rfl hbk zgu (by rw [HSZ.out]; kernel_rfl) ⟨rfl, z0u hbD (by omega) 0 S.toList⟩
theorem zji (a b : List UInt8) (ha : a.length = 16) (hb : b.length = 16) (w : World) : (binOp .neq 49 (.agg (bv a).toArray) (.agg (bv b).toArray)).run Tryz.prog w = .ok (.bool (!decide (a = b))) w := by
 obtain ⟨i, h1, h2, h3, h4⟩ := info_parts (show (Tryz.prog.info? 5).map (fun i => (i.zero, i.size, i.bytes)) = some (some (.int .u8 0), 1, 1) by kernel_rfl)
 exact zlb (e := 5) (by kernel_rfl) h1 (by kernel_rfl) (by kernel_rfl) a b ha hb w
def z4o (s : ByteArray) (tag : Int) (l : List ByteArray) : List UInt8 := z12 (z0b tag ([s] ++ l ++ [s]))
theorem zfb (s : ByteArray) (tag : Int) (l : List ByteArray) : (z4o s tag l).length = 16 := z8g _
theorem zgf {P : Program} {w : World} {ops : Array Oper} {rest : List Oper} {o : Oper} {a : Act} {Q : Exit → Act → World → Prop} {e : TypeId} {z : Array Value} (hgd : o.guard = none) (ho : o.op = .alloc e) (hz : (zeroValue e).run P w = .ok (.agg z) w)
  (h : ∀ w' g, g = w.heap.size → Blk w' g e z → Below w.heap.size w w' → g < w'.heap.size → wpList P ops Q rest (a.put o.dst (.pointer (some ⟨g, 0, none⟩))) w') : wpList P ops Q (o :: rest) a w :=
 wpList_plain hgd fun _ hK => z82 (z := .agg z) ho hz (hK _ _ (h _ _ rfl (Blk.new _ _ _) ((Below.refl _ _).alloc (Nat.le_refl _) _) (Blk.new _ _ _).lt))
theorem zgq (w : World) : (zeroValue 170).run Tryz.prog w = .ok (.agg (z5b z4s 0)) w := by kernel_rfl
theorem zfd {w : World} {g : Nat} {k : Key} {e : Int} (h : Blk w g 170 (z5b k e)) : ∀ j u, (kv k)[j]? = some u → w.cell? ((⟨g, 0, none⟩ : Addr).add j) = some u := by
 intro j u hj
 have e1 : (⟨g, 0, none⟩ : Addr).add j = ⟨g, j, none⟩ := by unfold Addr.add; split <;> simp_all
 rw [e1, h.cell j]
 match j, hj with
 | 0, hj => exact hj
 | 1, hj => exact hj
 | 2, hj => exact hj
 | 3, hj => exact hj
 | 4, hj => exact hj
abbrev z55 (p s : Int) : Key := ⟨p, s, ⟨#[]⟩, 0, 0⟩
def z95 (p s tag : Int) (parts : List ByteArray) (S : List UInt8) (day : Int) (l : List Key) : Int := match z18 (z55 p s) l with
 | none => 5
 | some k => if z4i k day then (if z4o k.secret tag parts = S then 0 else 8) else 9
theorem zoa (A : Option Addr) (n c : Nat) (l : List Key) (p s tag : Int) (B : Option Addr) (m d : Nat) (parts : List ByteArray) (S : List UInt8) (day : Int) (w : World) (hn : n ≤ 1000) (hr : RdK w A n l) (hs : z3m l) (hv : ∀ k ∈ l, z2f k = true)
  (hm : m ≤ 100) (hp : ∀ s ∈ parts, s.size ≤ 65536) (hrp : Rd w B m (sv parts)) (hS : S.length = 16) (hg : GCon w) :
  Calls Tryz.prog 92 #[.slice A n c, .int .i64 p, .int .i64 s, .int .i64 tag, .slice B m d, .agg (bv S).toArray, .int .i64 day] w fun e w' => e = .returned (.int .i64 (z95 p s tag parts S day l)) ∧ Below w.heap.size w w' := by
 have HF := ya (fun W hr => zpw A n c l p s W (by omega) hr hs)
 have HV : Hid (∀ k, z18 (z55 p s) l = some k → (0 < k.til ∧ k.til ≤ 1048577) ∧ k.secret.size ≤ 64) := ya (fun k hf => by
  have := (zm3 k).1 (hv k (zeu _ l k hf).2)
  unfold zgb at this
  omega)
 unfold z95
 change Hid (∀ W, RdK W A n l → Calls _ _ _ W fun e w' => e = .returned (.tuple #[z14 (z7s (z18 (z55 p s) l)), .int .i64 (z7q (z18 (z55 p s) l) 5)]) ∧ Below W.heap.size W w') at HF
 generalize z18 (z55 p s) l = F at *
 have HD := ya (show (bv S).toArray.size = 16 by simp [hS])
 have hb0 := (Below.refl w.heap.size w).alloc (Nat.le_refl _) (.cells (bv S).toArray 49)
 have q12 := Blk.new w 49 (bv S).toArray
 cases F with
 | none =>
  dsimp only
  go_enter Tryz.func92, Tryz.ntmps92
  go_wp2_with fail
  refine (HF.out _ (hr.below hb0)).mono ?_
  rintro e w1 ⟨rfl, hb1⟩
  simp only [z7s, z7q, Option.getD_none, Option.isSome_none, Bool.false_eq_true, if_false]
  go_wp2_with (first
   | (refine zge rfl rfl ?_; intro w2 g2 hg2 hbk hb2 hlt2; have Hg2 := ya hg2; clear hg2)
   | (refine zbw (k := z4s) rfl rfl rfl rfl hbk ?_; intro w3 hbk3 hb3))
  go_ret
  exact ⟨rfl, (yb hb0 hb1).trans ((hb2.mono (by have := hb0.size; have := hb1.size; omega)).trans (hb3.mono (by have := Hg2.out; have := hb0.size; have := hb1.size; omega)))⟩
 | some k =>
  dsimp only
  obtain ⟨⟨ht1, ht2⟩, hsec⟩ := HV.out k rfl
  have HC := ya (fun W => zp3 k day W ht1 ht2)
  have HM : Hid (∀ W, Rd W B m (sv parts) → GCon W → Calls Tryz.prog 75 #[z14 k, .int .i64 tag, .slice B m d] W fun e w' => e = .returned (.agg (bv (z4o k.secret tag parts)).toArray) ∧ Below W.heap.size W w') := ya (fun W hr hg => zje k tag B m d parts W hm hp (by omega) hr hg)
  have HLs := ya (zfb k.secret tag parts)
  have hneq : ∀ W, (binOp .neq 49 (.agg (bv (z4o k.secret tag parts)).toArray) (.agg (bv S).toArray)).run Tryz.prog W = .ok (.bool (!decide (z4o k.secret tag parts = S))) W := fun W => zji _ S HLs.out hS W
  have hdec : (if z4o k.secret tag parts = S then (0 : Int) else 8) = if decide (z4o k.secret tag parts = S) = true then 0 else 8 := by simp
  rw [hdec]
  clear hdec HLs HV
  generalize z4o k.secret tag parts = T at *
  generalize decide (T = S) = E at *
  generalize z4i k day = C at *
  simp only [z7s, z7q, Option.getD_some, Option.isSome_some, if_true] at HF
  clear hS
  cases C
  ·simp only [Bool.false_eq_true, if_false]
   go_enter Tryz.func92, Tryz.ntmps92
   go_wp2_with fail
   refine (HF.out _ (hr.below hb0)).mono ?_
   rintro e w1 ⟨rfl, hb1⟩
   go_wp2_with (first
    | (refine zge rfl rfl ?_; intro w2 g2 hg2 hbk hb2 hlt2; have Hg2 := ya hg2; clear hg2)
    | (refine zbw (k := k) rfl rfl rfl rfl hbk ?_; intro w3 hbk3 hb3)
    | (refine z16 rfl rfl rfl hbk3 z6v z7z ?_))
   refine (HC.out _).mono ?_
   rintro e w4 ⟨rfl, hb4⟩
   have hbX : Below w.heap.size w w3 := (yb hb0 hb1).trans ((hb2.mono (by have := hb0.size; have := hb1.size; omega)).trans (hb3.mono (by have := Hg2.out; have := hb0.size; have := hb1.size; omega)))
   go_wp2
   go_ret
   exact ⟨rfl, yb hbX hb4⟩
  ·simp only [if_true]
   have q12' := q12
   go_enter Tryz.func92, Tryz.ntmps92
   go_wp2_with fail
   refine (HF.out _ (hr.below hb0)).mono ?_
   rintro e w1 ⟨rfl, hb1⟩
   replace q12 := q12.below hb1
   go_wp2_with (first
    | (refine zge rfl rfl ?_; intro w2 g2 hg2 hbk hb2 hlt2; have Hg2 := ya hg2; clear hg2)
    | (refine zbw (k := k) rfl rfl rfl rfl hbk ?_; intro w3 hbk3 hb3)
    | (refine z16 rfl rfl rfl hbk3 z6v z7z ?_))
   refine (HC.out _).mono ?_
   rintro e w4 ⟨rfl, hb4⟩
   have hbY : Below w1.heap.size w1 w3 := hb2.trans (hb3.mono (by have := Hg2.out; omega))
   have hbX : Below w.heap.size w w3 := yb (yb hb0 hb1) hbY
   replace q12 := (q12.below hbY).below hb4
   have q15 := hbk3.below hb4
   have hbZ := yb hbX hb4
   have hrZ := hrp.below hbZ
   have hgZ := hg.below hbZ
   clear hb4 hbX hbY hb3 hb2 hbk hbk3 q12'
   go_wp2_with fail
   have hS0 : Below w4.heap.size w4 w4.drew := (Below.refl _ w4).drew
   refine yw 7 (by kernel_rfl) ?_
   refine WpT.tl 0 rfl (z69 rfl rfl rfl (by kernel_rfl) (by kernel_rfl) q15) ((Below.refl _ _).drew) ?_
   simp only [nrm]
   refine WpT.tk 1 ((Below.refl _ _).drew) ?_
   simp only [nrm]
   refine WpT.tk 2 ((Below.refl _ _).drew) ?_
   simp only [nrm]
   refine WpT.tl 4 rfl (z69 rfl rfl rfl (by kernel_rfl) (by rw [HD.out]; kernel_rfl) q12) ((Below.refl _ _).drew) ?_
   simp only [nrm]
   refine WpT.on 3 rfl (fun K hK => ?_)
   go_simp; refine (HM.out _ (hrZ.below hS0) (hgZ.below hS0)).mono ?_; rintro e w5 ⟨rfl, hb5⟩; have hS5 := yb hS0 hb5
   refine hK _ _ hS5 ?_; clear hK K; try simp only [nrm]
   refine WpT.tk 5 hS5 ?_
   simp only [nrm]
   refine WpT.on 6 rfl (fun K hK => ?_)
   go_simp; (try go_bits)
   refine hK _ _ hS5 ?_; clear hK K; try simp only [nrm]
   refine WpT.done (by kernel_rfl) ?_ _
   cases E
   ·go_wp2_with fail
    go_ret
    exact ⟨rfl, yb hbZ hS5⟩
   ·go_wp2_with fail
    go_ret
    exact ⟨rfl, yb hbZ hS5⟩
theorem zsn (A : Option Addr) (n c : Nat) (l : List Key) (p s tag : Int) (B : Option Addr) (m d : Nat) (parts : List ByteArray) (S : List UInt8) (day : Int) (w : World) (hn : n ≤ 1000) (hr : RdK w A n l) (hv : ∀ k ∈ l, z2f k = true)
  (hm : m ≤ 10) (hp : ∀ s ∈ parts, s.size ≤ 65536) (hrp : Rd w B m (sv parts)) (hS : S.length = 16) (hg : RCon w) :
  Calls Tryz.prog 93 #[.slice A n c, .int .i64 p, .int .i64 s, .int .i64 tag, .slice B m d, .agg (bv S).toArray, .int .i64 day] w fun e w' => e = .returned (.int .i64 (z95 p s tag parts S day l)) ∧ Below w.heap.size w w' := by
 have HF := ya (fun W hr => zsy A n c l p s W (by omega) hr)
 have HV : Hid (∀ k, z18 (z55 p s) l = some k → k.secret.size ≤ 64) := ya (fun k hf => by
  have := (zm3 k).1 (hv k (zeu _ l k hf).2)
  unfold zgb at this
  omega)
 unfold z95
 change Hid (∀ W, RdK W A n l → Calls _ _ _ W fun e w' => e = .returned (.agg (z5b (z7s (z18 (z55 p s) l)) (z7q (z18 (z55 p s) l) 5))) ∧ Below W.heap.size W w') at HF
 generalize z18 (z55 p s) l = F at *
 have HD := ya (show (bv S).toArray.size = 16 by simp [hS])
 have hb0 := (Below.refl w.heap.size w).alloc (Nat.le_refl _) (.cells (bv S).toArray 49)
 have q12 := Blk.new w 49 (bv S).toArray
 cases F with
 | none =>
  dsimp only
  simp only [z7s, z7q, Option.getD_none, Option.isSome_none, Bool.false_eq_true, if_false] at HF
  go_enter Tryz.func93, Tryz.ntmps93
  go_wp2_with fail
  refine (HF.out _ (hr.below hb0)).mono ?_
  rintro e w1 ⟨rfl, hb1⟩
  go_wp2_with (first
   | (refine zgf rfl rfl (zgq _) ?_; intro w3 g3 hg3 hbk3 hb3 hlt3; have Hg3 := ya hg3; clear hg3)
   | (refine zbx (k := z4s) (e := 5) rfl rfl rfl rfl hbk3 ?_; intro w4 hbk4 hb4; have q5 := hbk4.cell 5; simp only [List.getElem?_toArray, List.getElem?_cons_zero, List.getElem?_cons_succ] at q5))
  go_ret
  exact ⟨rfl, (yb hb0 hb1).trans ((hb3.mono (by have := hb0.size; have := hb1.size; omega)).trans (hb4.mono (by have := Hg3.out; have := hb0.size; have := hb1.size; omega)))⟩
 | some k =>
  dsimp only
  have hsec := HV.out k rfl
  have HC := ya (fun W => zso k day W)
  have HM : Hid (∀ W, Rd W B m (sv parts) → RCon W → Calls Tryz.prog 80 #[z14 k, .int .i64 tag, .slice B m d] W fun e w' => e = .returned (.agg (bv (z4o k.secret tag parts)).toArray) ∧ Below W.heap.size W w') := ya (fun W hr hg => zky k tag B m d parts W hm hp (by omega) hr hg)
  have HLs := ya (zfb k.secret tag parts)
  have hneq : ∀ W, (binOp .neq 49 (.agg (bv (z4o k.secret tag parts)).toArray) (.agg (bv S).toArray)).run Tryz.prog W = .ok (.bool (!decide (z4o k.secret tag parts = S))) W := fun W => zji _ S HLs.out hS W
  have hdec : (if z4o k.secret tag parts = S then (0 : Int) else 8) = if decide (z4o k.secret tag parts = S) = true then 0 else 8 := by simp
  rw [hdec]
  clear hdec HLs HV
  generalize z4o k.secret tag parts = T at *
  generalize decide (T = S) = E at *
  generalize z4i k day = C at *
  simp only [z7s, z7q, Option.getD_some, Option.isSome_some, if_true] at HF
  clear hS
  cases C
  ·simp only [Bool.false_eq_true, if_false]
   go_enter Tryz.func93, Tryz.ntmps93
   go_wp2_with fail
   refine (HF.out _ (hr.below hb0)).mono ?_
   rintro e w1 ⟨rfl, hb1⟩
   go_upto_region 4 with (first
    | (refine zgf rfl rfl (zgq _) ?_; intro w3 g3 hg3 hbk3 hb3 hlt3; have Hg3 := ya hg3; clear hg3)
    | (refine zbx (k := k) (e := 0) rfl rfl rfl rfl hbk3 ?_; intro w4 hbk4 hb4; have q5 := hbk4.cell 5; simp only [List.getElem?_toArray, List.getElem?_cons_zero, List.getElem?_cons_succ] at q5))
   have hc4 := zfd hbk4
   have hbX : Below w.heap.size w w4 := (yb hb0 hb1).trans ((hb3.mono (by have := hb0.size; have := hb1.size; omega)).trans (hb4.mono (by have := Hg3.out; have := hb0.size; have := hb1.size; omega)))
   go_wp2_with (refine z3a (k := k) rfl rfl rfl hc4 ?_)
   refine (HC.out _).mono ?_
   rintro e w5 ⟨rfl, hb5⟩
   go_wp2
   go_ret
   exact ⟨rfl, yb hbX hb5⟩
  ·simp only [if_true]
   go_enter Tryz.func93, Tryz.ntmps93
   go_wp2_with fail
   refine (HF.out _ (hr.below hb0)).mono ?_
   rintro e w1 ⟨rfl, hb1⟩
   replace q12 := q12.below hb1
   go_upto_region 4 with (first
    | (refine zgf rfl rfl (zgq _) ?_; intro w3 g3 hg3 hbk3 hb3 hlt3; have Hg3 := ya hg3; clear hg3)
    | (refine zbx (k := k) (e := 0) rfl rfl rfl rfl hbk3 ?_; intro w4 hbk4 hb4; have q5 := hbk4.cell 5; simp only [List.getElem?_toArray, List.getElem?_cons_zero, List.getElem?_cons_succ] at q5))
   have hc4 := zfd hbk4
   have hbY : Below w1.heap.size w1 w4 := hb3.trans (hb4.mono (by have := Hg3.out; omega))
   have hbX : Below w.heap.size w w4 := yb (yb hb0 hb1) hbY
   go_wp2_with (refine z3a (k := k) rfl rfl rfl hc4 ?_)
   refine (HC.out _).mono ?_
   rintro e w5 ⟨rfl, hb5⟩
   replace q12 := (q12.below hbY).below hb5
   have q15 := hbk4.below hb5
   have hc5 := zfd q15
   have hbZ := yb hbX hb5
   have hrZ := hrp.below hbZ
   have hgZ := hg.below hbZ
   clear hb5 hbX hbY hb3 hb4 hbk3 hbk4 hc4 q5
   go_wp2_with fail
   have hS0 : Below w5.heap.size w5 w5.drew := (Below.refl _ w5).drew
   refine yw 7 (by kernel_rfl) ?_
   refine WpT.tk 0 ((Below.refl _ _).drew) ?_
   simp only [nrm]
   refine WpT.tl 1 rfl (z06 rfl rfl rfl (by kernel_rfl) (by kernel_rfl) (us := kv k) hc5) ((Below.refl _ _).drew) ?_
   simp only [nrm]
   refine WpT.tk 2 ((Below.refl _ _).drew) ?_
   simp only [nrm]
   refine WpT.tk 3 ((Below.refl _ _).drew) ?_
   simp only [nrm]
   refine WpT.tl 5 rfl (z69 rfl rfl rfl (by kernel_rfl) (by rw [HD.out]; kernel_rfl) q12) ((Below.refl _ _).drew) ?_
   simp only [nrm]
   refine WpT.on 4 rfl (fun K hK => ?_)
   go_simp; refine (HM.out _ (hrZ.below hS0) (hgZ.below hS0)).mono ?_; rintro e w6 ⟨rfl, hb6⟩; have hS6 := yb hS0 hb6
   refine hK _ _ hS6 ?_; clear hK K; try simp only [nrm]
   refine WpT.tk 6 hS6 ?_
   simp only [nrm]
   refine WpT.done (by kernel_rfl) ?_ _
   cases E
   ·go_wp2_with fail
    go_ret
    exact ⟨rfl, yb hbZ hS6⟩
   ·go_wp2_with fail
    go_ret
    exact ⟨rfl, yb hbZ hS6⟩
end
section
open Merk Ring
structure At where
  name : ByteArray
  kind : Int
  n : Int
  s : ByteArray
structure Ev where
  kind : Int
  commit : Int
  day : Int
  id : Int
  owner : Int
  til : Int
  frm : Int
  vec : List Int
  attrs : List At
  nonce : Nat
structure Fc where
  kind : Int
  commit : Int
  day : Int
  id : Int
  owner : Int
  til : Int
  frm : Int
  blind : Nat
deriving DecidableEq
structure Hd where
  office : Int
  commit : Int
  day : Int
  root : Nat
  serial : Int
  sig : Nat
deriving DecidableEq
structure Lg where
  office : Int
  events : List Ev
  size : Int
  tops : List Nat
  heads : List Hd
structure Rc where
  office : Int
  face : Fc
  serial : Int
  sig : Nat
deriving DecidableEq
structure Sh where
  face : Fc
  path : List Nat
  head : Hd
structure He where
  bl : Nat → List Int → List At → Nat
  lf : Fc → Nat
  nd : Nat → Nat → Nat
  em : Nat
  sh : ByteArray → Int → Int → Int → Int → Nat → Nat
  sr : ByteArray → Int → Int → Nat → Nat
section
variable (H : He)
def yq (e : Ev) : Fc :=
  { kind := e.kind, commit := e.commit, day := e.day, id := if e.kind = 5 then 0 else e.id, owner := if e.kind = 1 then e.owner else 0,
    til := if e.kind = 1 ∨ e.kind = 4 then e.til else 0, frm := if e.kind = 2 ∨ e.kind = 3 then e.frm else 0,
    blind := if e.kind = 1 ∨ e.kind = 2 then H.bl e.nonce e.vec e.attrs else 0 }
def yp (l : List Ev) : List Nat := l.map fun e => H.lf (yq H e)
theorem z60 (l : List Ev) : (yp H l).length = l.length := by simp [yp]
theorem zqq (l : List Ev) (n : Nat) : yp H (l.take n) = (yp H l).take n := by simp [yp, List.map_take]
def z1c (l : List Ev) (c : Nat) : Int := if c = 0 then 0 else (l[c - 1]?.map Ev.day).getD 0
def z19 (l : List Ev) : Int := z1c l l.length
def fol (k : Nat) (la : Int) (e : Ev) : Int :=
  if e.kind < 1 ∨ 5 < e.kind then 1 else if e.commit ≠ (k : Int) + 1 ∨ e.day < la ∨ 1048576 < e.day then 9 else if 65536 ≤ k then 2 else 0
def follows (l : List Ev) (e : Ev) : Int := fol l.length (z19 l) e
def z2y (k : Nat) (la : Int) : List Ev → Bool
  | [] => true
  | e :: l => if fol k la e = 0 then z2y (k + 1) e.day l else false
def z24 (off : Int) (ev : List Ev) (la : Int) : List Hd → Bool
  | [] => true
  | h :: l => if h.office = off ∧ la ≤ h.commit ∧ h.commit ≤ ev.length ∧ h.day = z1c ev h.commit.toNat ∧ root H.nd H.em ((yp H ev).take h.commit.toNat) = h.root then z24 off ev h.commit l else false
def z5r (l : Lg) : Bool :=
  decide (0 ≤ l.office ∧ l.office < 32 ∧ l.events.length ≤ 65536) && (z2y 0 0 l.events && (z24 H l.office l.events 0 l.heads && (decide (l.size = l.events.length) && decide (z0e H.nd H.em (yp H l.events) = l.tops))))
def z2u (l : Lg) (e : Ev) : Lg × Int :=
  if follows l.events e = 0 then
    (if (z3d H.nd l.size l.tops (H.lf (yq H e))).2.2 = 0 then
      ({ l with events := l.events ++ [e], size := (z3d H.nd l.size l.tops (H.lf (yq H e))).1, tops := (z3d H.nd l.size l.tops (H.lf (yq H e))).2.1 }, 0)
     else (l, (z3d H.nd l.size l.tops (H.lf (yq H e))).2.2))
  else (l, follows l.events e)
def z33 (k : Key) (n : Int) : Bool := z2f k && decide (k.party = 1073741824 + n)
def z8d (secret : ByteArray) (serial off : Int) (ev : List Ev) (rt : Nat) : Hd :=
  { office := off, commit := ev.length, day := z19 ev, root := rt, serial := serial, sig := H.sh secret off ev.length (z19 ev) serial rt }
def z0h : Hd := ⟨0, 0, 0, 0, 0, 0⟩
def z3u (l : Lg) (k : Key) : Lg × Hd × Int :=
  if z33 k l.office = true then
    ({ l with heads := l.heads ++ [z8d H k.secret k.serial l.office l.events (z3j H.nd H.em l.size l.tops).1] }, z8d H k.secret k.serial l.office l.events (z3j H.nd H.em l.size l.tops).1, 0)
  else (l, z0h, 1)
def z0r : Fc := ⟨0, 0, 0, 0, 0, 0, 0, 0⟩
def z84 : Sh := ⟨z0r, [], z0h⟩
def z9u (l : Lg) (c : Int) (h : Hd) : Sh × Int :=
  if h ∈ l.heads then
    (if 1 ≤ c ∧ c ≤ h.commit then
      (⟨(l.events[c.toNat - 1]?.map (yq H)).getD z0r, (z41 H.nd H.em ((yp H l.events).take h.commit.toNat) (c - 1)).1, h⟩, (z41 H.nd H.em ((yp H l.events).take h.commit.toNat) (c - 1)).2)
     else (z84, 1))
  else (z84, 5)
def zav (l : Lg) (a b : Hd) : List Nat × Int :=
  if a ∈ l.heads ∧ b ∈ l.heads then
    (if a.commit ≤ b.commit then z70 H.nd H.em ((yp H l.events).take b.commit.toNat) a.commit else ([], 1))
  else ([], 5)
def z3x : Rc := ⟨0, z0r, 0, 0⟩
def z9w (l : Lg) (k : Key) (c : Int) : Rc × Int :=
  if z33 k l.office = true then
    (if 1 ≤ c ∧ c ≤ l.events.length then
      (⟨l.office, (l.events[c.toNat - 1]?.map (yq H)).getD z0r, k.serial, H.sr k.secret l.office k.serial (H.lf ((l.events[c.toNat - 1]?.map (yq H)).getD z0r))⟩, 0)
     else (z3x, 5))
  else (z3x, 1)
def z3i (ring : List Key) (p s day : Int) (want : ByteArray → Nat) (sig : Nat) : Int := match z18 (z55 p s) ring with
  | none => 5
  | some k => if z4i k day then (if want k.secret = sig then 0 else 8) else 9
def z4z (o : Int) : Int := Go.IntKind.i64.wrap (1073741824 + o)
def z2p (ring : List Key) (h : Hd) : Int := z3i ring (z4z h.office) h.serial h.day (fun s => H.sh s h.office h.commit h.day h.serial h.root) h.sig
def z6d (ring : List Key) (s : Sh) : Int :=
  if 1 ≤ s.face.commit ∧ s.face.commit ≤ s.head.commit then
    (if z2p H ring s.head = 0 then (if z6c H.nd (H.lf s.face) (s.face.commit - 1) s.head.commit s.path s.head.root = true then 0 else 3) else z2p H ring s.head)
  else 1
def zau (ring : List Key) (a b : Hd) (path : List Nat) : Int :=
  if a.office = b.office ∧ a.commit ≤ b.commit ∧ a.day ≤ b.day then
    (if z2p H ring a = 0 then
      (if z2p H ring b = 0 then (if z6z H.nd H.em a.commit b.commit a.root b.root path = true then 0 else 3) else z2p H ring b)
     else z2p H ring a)
  else 1
def z96 (ring : List Key) (r : Rc) : Int := z3i ring (z4z r.office) r.serial r.face.day (fun s => H.sr s r.office r.serial (H.lf r.face)) r.sig
def z8o (ring : List Key) (r : Rc) (s : Sh) : Bool :=
  decide (z96 H ring r = 0) && (decide (z6d H ring s = 0) && (decide (r.office = s.head.office) && (decide (r.face.commit = s.face.commit) && !decide (r.face = s.face))))
def zb2 (ring : List Key) (a b : Hd) : Bool :=
  decide (z2p H ring a = 0) && (decide (z2p H ring b = 0) && (decide (a.office = b.office) && (decide (a.commit = b.commit) && (!decide (a.root = b.root) || !decide (a.day = b.day)))))
end
end
section
open Go.RowKit
def zz (n : Int) : Nat := if 0 ≤ n then (2 * n).toNat else (2 * (-1 - n) + 1).toNat
theorem zmr (n : Int) (h1 : -9223372036854775808 ≤ n) (h2 : n ≤ 9223372036854775807) : zz n < 18446744073709551616 := by unfold zz; split <;> omega
theorem zxa (m : Nat) : zz (m : Int) = 2 * m := by unfold zz; rw [if_pos (by omega)]; omega
def z13 (n : Int) : List UInt8 := z2s 9 (zz n)
def z1j (l : List Int) : List UInt8 := z13 l.length ++ l.flatMap z13
theorem zwv (a : Nat) (h : a < 18446744073709551616) : bits .xor .u64 (a : Int) 18446744073709551615 = ((18446744073709551615 - a : Nat) : Int) := by
 rw [show (18446744073709551615 : Int) = ((18446744073709551615 : Nat) : Int) from rfl, zg9 a _ h (by omega)]
 congr 1
 have := congrArg BitVec.toNat (BitVec.xor_allOnes (x := BitVec.ofNat 64 a))
 rw [BitVec.toNat_xor, BitVec.toNat_not, BitVec.toNat_ofNat, BitVec.toNat_allOnes, Nat.mod_eq_of_lt (by omega)] at this
 exact this
theorem zx9 (n : Int) (h1 : 0 ≤ n) (h2 : n ≤ 9223372036854775807) : bits .xor .u64 (n * 2) (n / 9223372036854775808) = ((zz n : Nat) : Int) := by
 rw [show n / 9223372036854775808 = 0 by omega]
 obtain ⟨m, rfl⟩ : ∃ m : Nat, n = m := ⟨n.toNat, by omega⟩
 have := zg9 (2 * m) 0 (by omega) (by omega)
 rw [show ((m : Int) * 2) = ((2 * m : Nat) : Int) by omega, show (0 : Int) = ((0 : Nat) : Int) from rfl, this, zxa]
 simp
theorem zx8 (n : Int) (h1 : n < 0) (h2 : -9223372036854775808 ≤ n) : bits .xor .u64 (IntKind.u64.wrap (IntKind.u64.wrap n * 2)) (IntKind.u64.wrap (n / 9223372036854775808)) = ((zz n : Nat) : Int) := by
 rw [show n / 9223372036854775808 = -1 by omega, IntKind.wrap_u64, IntKind.wrap_u64, IntKind.wrap_u64]
 rw [show (-1 : Int) % 18446744073709551616 = 18446744073709551615 by decide]
 obtain ⟨m, hm⟩ : ∃ m : Nat, (m : Int) = n % 18446744073709551616 * 2 % 18446744073709551616 := ⟨(n % 18446744073709551616 * 2 % 18446744073709551616).toNat, by omega⟩
 rw [← hm, zwv m (by omega)]
 congr 1
 unfold zz
 rw [if_neg (by omega)]
 omega
theorem zgd (n : Int) (w : World) (h1 : -9223372036854775808 ≤ n) (h2 : n ≤ 9223372036854775807) :
  Calls Tryz.prog 106 #[.int .i64 n] w fun e w' => ∃ v, e = .returned v ∧ Own w' w.heap.size 5 v (bv (z13 n)) ∧ Below w.heap.size w w' := by
 have HZ := ya (zmr n h1 h2)
 by_cases hs : 0 ≤ n
 ·have hx := zx9 n hs h2
  go_enter Tryz.func106, Tryz.ntmps106
  go_wp2_with fail
  go_loopw [3, 4] (fun x v wr => ∃ (f z : Nat) (acc : List UInt8), x = .int .u64 z ∧ z < 128 ^ (f + 1) ∧ f + acc.length ≤ 9 ∧ acc ++ z2s f z = z13 n ∧ Own wr w.heap.size 5 v (bv acc) ∧ Below w.heap.size w wr) (fun x _ _ => (intOf x).toNat)
  case atStart => exact ⟨9, zz n, [], rfl, by have := HZ.out; omega, by simp, by simp [z13], Own.nil _ _ _, Below.refl _ _⟩
  case round =>
   obtain ⟨f, z, acc, rfl, hzf, hfa, hacc, hown, hb⟩ := hrel
   have hz := hb.size
   have hzl : z < 1180591620717411303424 := by
    have : 128 ^ (f + 1) ≤ 128 ^ 10 := Nat.pow_le_pow_right (by omega) (by omega)
    omega
   have HA := ya hacc
   clear hacc
   by_cases hlt : z < 128
   ·have hv := za8 f z hlt
    have HV := ya hv
    have hz2 : ¬ (127 : Int) < z := by omega
    have hd : decide ((127 : Int) < (z : Int)) = false := by simpa using hz2
    clear hv hzf hzl
    go_wp2_with (at_builtin; refine z27 rfl rfl z2i rfl (hown.alloc _) rfl (Rd.new1 _ _ _) (z3s rfl) (by rw [z0p]; omega) (by simp; omega) ?_; intro v' w' hown' hg' hb' _)
    go_ret
    refine ⟨_, rfl, ?_, (hb.alloc hz _).trans hb'⟩
    rw [← HA.out, HV.out, z2o, show bv [UInt8.ofNat z] = [.int .u8 (z : Nat)] by simp [bv, UInt8.toNat_ofNat']; omega]
    exact hown'
   ·obtain ⟨f, rfl⟩ : ∃ g, f = g + 1 := by
     cases f with
     | zero => exfalso; simp at hzf; omega
     | succ f => exact ⟨f, rfl⟩
    have hv := za7 f z hlt
    have HV := ya hv
    have hd : decide ((127 : Int) < (z : Int)) = true := by simp; omega
    have ho := zfk z
    have hq : z / 128 < 128 ^ (f + 1) := by
     rw [Nat.div_lt_iff_lt_mul (by omega)]; rw [Nat.pow_succ] at hzf; exact hzf
    have HQ := ya hq
    clear hv hzf hq
    go_wp2_with (at_builtin; refine z27 rfl rfl z2i rfl (hown.alloc _) rfl (Rd.new1 _ _ _) (z3s rfl) (by rw [z0p]; omega) (by simp; omega) ?_; intro v' w' hown' hg' hb' _)
    refine ⟨⟨f, z / 128, acc ++ [UInt8.ofNat (z % 128 + 128)], by simp, HQ.out, by simp; omega, by rw [← HA.out, HV.out, List.append_assoc]; rfl, ?_, (hb.alloc hz _).trans hb'⟩, ?_⟩
    ·rw [z2o, show bv [UInt8.ofNat (z % 128 + 128)] = [.int .u8 ((z % 128 + 128 : Nat) : Int)] by simp [bv, UInt8.toNat_ofNat']; omega]
     exact hown'
    ·simp [intOf]; omega
 ·have hx := zx8 n (by omega) h1
  go_enter Tryz.func106, Tryz.ntmps106
  go_wp2_with fail
  go_loopw [3, 4] (fun x v wr => ∃ (f z : Nat) (acc : List UInt8), x = .int .u64 z ∧ z < 128 ^ (f + 1) ∧ f + acc.length ≤ 9 ∧ acc ++ z2s f z = z13 n ∧ Own wr w.heap.size 5 v (bv acc) ∧ Below w.heap.size w wr) (fun x _ _ => (intOf x).toNat)
  case atStart => exact ⟨9, zz n, [], rfl, by have := HZ.out; omega, by simp, by simp [z13], Own.nil _ _ _, Below.refl _ _⟩
  case round =>
   obtain ⟨f, z, acc, rfl, hzf, hfa, hacc, hown, hb⟩ := hrel
   have hz := hb.size
   have hzl : z < 1180591620717411303424 := by
    have : 128 ^ (f + 1) ≤ 128 ^ 10 := Nat.pow_le_pow_right (by omega) (by omega)
    omega
   have HA := ya hacc
   clear hacc
   by_cases hlt : z < 128
   ·have hv := za8 f z hlt
    have HV := ya hv
    have hz2 : ¬ (127 : Int) < z := by omega
    have hd : decide ((127 : Int) < (z : Int)) = false := by simpa using hz2
    clear hv hzf hzl
    go_wp2_with (at_builtin; refine z27 rfl rfl z2i rfl (hown.alloc _) rfl (Rd.new1 _ _ _) (z3s rfl) (by rw [z0p]; omega) (by simp; omega) ?_; intro v' w' hown' hg' hb' _)
    go_ret
    refine ⟨_, rfl, ?_, (hb.alloc hz _).trans hb'⟩
    rw [← HA.out, HV.out, z2o, show bv [UInt8.ofNat z] = [.int .u8 (z : Nat)] by simp [bv, UInt8.toNat_ofNat']; omega]
    exact hown'
   ·obtain ⟨f, rfl⟩ : ∃ g, f = g + 1 := by
     cases f with
     | zero => exfalso; simp at hzf; omega
     | succ f => exact ⟨f, rfl⟩
    have hv := za7 f z hlt
    have HV := ya hv
    have hd : decide ((127 : Int) < (z : Int)) = true := by simp; omega
    have ho := zfk z
    have hq : z / 128 < 128 ^ (f + 1) := by
     rw [Nat.div_lt_iff_lt_mul (by omega)]; rw [Nat.pow_succ] at hzf; exact hzf
    have HQ := ya hq
    clear hv hzf hq
    go_wp2_with (at_builtin; refine z27 rfl rfl z2i rfl (hown.alloc _) rfl (Rd.new1 _ _ _) (z3s rfl) (by rw [z0p]; omega) (by simp; omega) ?_; intro v' w' hown' hg' hb' _)
    refine ⟨⟨f, z / 128, acc ++ [UInt8.ofNat (z % 128 + 128)], by simp, HQ.out, by simp; omega, by rw [← HA.out, HV.out, List.append_assoc]; rfl, ?_, (hb.alloc hz _).trans hb'⟩, ?_⟩
    ·rw [z2o, show bv [UInt8.ofNat (z % 128 + 128)] = [.int .u8 ((z % 128 + 128 : Nat) : Int)] by simp [bv, UInt8.toNat_ofNat']; omega]
     exact hown'
    ·simp [intOf]; omega
theorem zxc (n : Int) (h1 : 0 ≤ n) (h2 : n ≤ 9223372036854775807) : n * 2 = ((zz n : Nat) : Int) := by unfold zz; rw [if_pos h1]; omega
theorem zxb (n : Int) (h1 : n < 0) (h2 : -9223372036854775808 ≤ n) : (-1 - n) * 2 + 1 = ((zz n : Nat) : Int) := by unfold zz; rw [if_neg (by omega)]; omega
theorem zfr (n : Int) (w : World) (h1 : -9223372036854775808 ≤ n) (h2 : n ≤ 9223372036854775807) :
  Calls Tryz.prog 107 #[.int .i64 n] w fun e w' => ∃ v, e = .returned v ∧ Own w' w.heap.size 5 v (bv (z13 n)) ∧ Below w.heap.size w w' := by
 have HZ := ya (zmr n h1 h2)
 by_cases hs : n < 0
 ·have hx := zxb n hs h1
  go_enter Tryz.func107, Tryz.ntmps107
  go_wp2_with fail
  go_loopw [3, 4] (fun x v wr => ∃ (f z : Nat) (acc : List UInt8), x = .int .u64 z ∧ z < 128 ^ (f + 1) ∧ f + acc.length ≤ 9 ∧ acc ++ z2s f z = z13 n ∧ Own wr w.heap.size 5 v (bv acc) ∧ Below w.heap.size w wr) (fun x _ _ => (intOf x).toNat)
  case atStart => exact ⟨9, zz n, [], rfl, by have := HZ.out; omega, by simp, by simp [z13], Own.nil _ _ _, Below.refl _ _⟩
  case round =>
   obtain ⟨f, z, acc, rfl, hzf, hfa, hacc, hown, hb⟩ := hrel
   have hz := hb.size
   have hzl : z < 1180591620717411303424 := by
    have : 128 ^ (f + 1) ≤ 128 ^ 10 := Nat.pow_le_pow_right (by omega) (by omega)
    omega
   have HA := ya hacc
   clear hacc
   by_cases hlt : z < 128
   ·have hv := za8 f z hlt
    have HV := ya hv
    have hd : decide ((128 : Int) ≤ (z : Int)) = false := by simp; omega
    clear hv hzf hzl
    go_wp2_with (at_builtin; refine z27 rfl rfl z2i rfl (hown.alloc _) rfl (Rd.new1 _ _ _) (z3s rfl) (by rw [z0p]; omega) (by simp; omega) ?_; intro v' w' hown' hg' hb' _)
    go_ret
    refine ⟨_, rfl, ?_, (hb.alloc hz _).trans hb'⟩
    rw [← HA.out, HV.out, z2o, show bv [UInt8.ofNat z] = [.int .u8 (z : Nat)] by simp [bv, UInt8.toNat_ofNat']; omega]
    exact hown'
   ·obtain ⟨f, rfl⟩ : ∃ g, f = g + 1 := by
     cases f with
     | zero => exfalso; simp at hzf; omega
     | succ f => exact ⟨f, rfl⟩
    have hv := za7 f z hlt
    have HV := ya hv
    have hd : decide ((128 : Int) ≤ (z : Int)) = true := by simp; omega
    have hq : z / 128 < 128 ^ (f + 1) := by
     rw [Nat.div_lt_iff_lt_mul (by omega)]; rw [Nat.pow_succ] at hzf; exact hzf
    have HQ := ya hq
    clear hv hzf hq
    go_wp2_with (at_builtin; refine z27 rfl rfl z2i rfl (hown.alloc _) rfl (Rd.new1 _ _ _) (z3s rfl) (by rw [z0p]; omega) (by simp; omega) ?_; intro v' w' hown' hg' hb' _)
    refine ⟨⟨f, z / 128, acc ++ [UInt8.ofNat (z % 128 + 128)], by simp, HQ.out, by simp; omega, by rw [← HA.out, HV.out, List.append_assoc]; rfl, ?_, (hb.alloc hz _).trans hb'⟩, ?_⟩
    ·rw [z2o, show bv [UInt8.ofNat (z % 128 + 128)] = [.int .u8 ((z : Int) % 128 + 128)] by simp [bv, UInt8.toNat_ofNat']; omega]
     exact hown'
    ·simp [intOf]; omega
 ·have hx := zxc n (by omega) h2
  go_enter Tryz.func107, Tryz.ntmps107
  go_wp2_with fail
  go_loopw [3, 4] (fun x v wr => ∃ (f z : Nat) (acc : List UInt8), x = .int .u64 z ∧ z < 128 ^ (f + 1) ∧ f + acc.length ≤ 9 ∧ acc ++ z2s f z = z13 n ∧ Own wr w.heap.size 5 v (bv acc) ∧ Below w.heap.size w wr) (fun x _ _ => (intOf x).toNat)
  case atStart => exact ⟨9, zz n, [], rfl, by have := HZ.out; omega, by simp, by simp [z13], Own.nil _ _ _, Below.refl _ _⟩
  case round =>
   obtain ⟨f, z, acc, rfl, hzf, hfa, hacc, hown, hb⟩ := hrel
   have hz := hb.size
   have hzl : z < 1180591620717411303424 := by
    have : 128 ^ (f + 1) ≤ 128 ^ 10 := Nat.pow_le_pow_right (by omega) (by omega)
    omega
   have HA := ya hacc
   clear hacc
   by_cases hlt : z < 128
   ·have hv := za8 f z hlt
    have HV := ya hv
    have hd : decide ((128 : Int) ≤ (z : Int)) = false := by simp; omega
    clear hv hzf hzl
    go_wp2_with (at_builtin; refine z27 rfl rfl z2i rfl (hown.alloc _) rfl (Rd.new1 _ _ _) (z3s rfl) (by rw [z0p]; omega) (by simp; omega) ?_; intro v' w' hown' hg' hb' _)
    go_ret
    refine ⟨_, rfl, ?_, (hb.alloc hz _).trans hb'⟩
    rw [← HA.out, HV.out, z2o, show bv [UInt8.ofNat z] = [.int .u8 (z : Nat)] by simp [bv, UInt8.toNat_ofNat']; omega]
    exact hown'
   ·obtain ⟨f, rfl⟩ : ∃ g, f = g + 1 := by
     cases f with
     | zero => exfalso; simp at hzf; omega
     | succ f => exact ⟨f, rfl⟩
    have hv := za7 f z hlt
    have HV := ya hv
    have hd : decide ((128 : Int) ≤ (z : Int)) = true := by simp; omega
    have hq : z / 128 < 128 ^ (f + 1) := by
     rw [Nat.div_lt_iff_lt_mul (by omega)]; rw [Nat.pow_succ] at hzf; exact hzf
    have HQ := ya hq
    clear hv hzf hq
    go_wp2_with (at_builtin; refine z27 rfl rfl z2i rfl (hown.alloc _) rfl (Rd.new1 _ _ _) (z3s rfl) (by rw [z0p]; omega) (by simp; omega) ?_; intro v' w' hown' hg' hb' _)
    refine ⟨⟨f, z / 128, acc ++ [UInt8.ofNat (z % 128 + 128)], by simp, HQ.out, by simp; omega, by rw [← HA.out, HV.out, List.append_assoc]; rfl, ?_, (hb.alloc hz _).trans hb'⟩, ?_⟩
    ·rw [z2o, show bv [UInt8.ofNat (z % 128 + 128)] = [.int .u8 ((z : Int) % 128 + 128)] by simp [bv, UInt8.toNat_ofNat']; omega]
     exact hown'
    ·simp [intOf]; omega
theorem z7t (n : Int) : (z13 n).length ≤ 10 := z9m 9 (zz n)
theorem zcx : ∀ l : List Int, (l.flatMap z13).length ≤ l.length * 10
 | [] => by simp
 | x :: l => by have := zcx l; have := z7t x; simp only [List.flatMap_cons, List.length_append, List.length_cons]; omega
def z1z (l : List Int) : Prop := ∀ x ∈ l, -9223372036854775808 ≤ x ∧ x ≤ 9223372036854775807
theorem zvz (A : Option Addr) (n c : Nat) (l : List Int) (w : World) (hr : Rd w A n (iv l)) (hn : n ≤ 1000) (hf : z1z l) :
  Calls Tryz.prog 105 #[.slice A n c, .func (.func 106) #[] #[]] w fun e w' => ∃ v, e = .returned v ∧ Own w' w.heap.size 5 v (bv (z1j l)) ∧ Below w.heap.size w w' := by
 have HL := ya (show l.length = n by have := hr.len; simpa using this)
 have HF := ya hf
 clear hf
 have HE := ya (show z1j l = z13 n ++ l.flatMap z13 by unfold z1j; rw [HL.out])
 go_enter Tryz.func105, Tryz.ntmps105
 go_wp2_with fail
 refine (zgd n _ (by omega) (by omega)).mono ?_
 rintro e w1 ⟨v1, rfl, hown1, hb1⟩
 go_wp2_with fail
 go_loopw [5, 7, 13] (fun v _ j wr => ∃ k : Nat, k ≤ n ∧ j = .int .i64 k ∧ Below w.heap.size w wr ∧ Own wr w.heap.size 5 v (bv (z13 n ++ (l.take k).flatMap z13))) (fun _ _ j _ => n - (intOf j).toNat)
 case atStart => exact ⟨0, Nat.zero_le _, rfl, hb1, by simpa using hown1⟩
 case round =>
  clear hown1
  obtain ⟨k, hk, rfl, hbw, hown⟩ := hrel
  by_cases hlt : k < n
  ·obtain ⟨ad, rfl, hc⟩ := (hr.below hbw).int hlt HL.out
   have HT := ya (List.take_succ_eq_append_getElem (show k < l.length by have := HL.out; omega))
   have HX := ya (HF.out _ (List.getElem_mem (show k < l.length by have := HL.out; omega)))
   generalize l[k]'(by have := HL.out; omega) = x at *
   have HS := ya (show bv (z13 n ++ (l.take (k + 1)).flatMap z13) = bv (z13 n ++ (l.take k).flatMap z13) ++ bv (z13 x) by rw [HT.out, ← z2o]; simp)
   have HN : Hid ((z13 n ++ (l.take k).flatMap z13).length ≤ 20000) := ya (by
    have := z7t n
    have := zcx (l.take k)
    have := List.length_take_le k l
    simp only [List.length_append]; omega)
   go_wp2_with fail
   refine (zgd x _ HX.out.1 HX.out.2).mono ?_
   rintro e w2 ⟨v2, rfl, hown2, hb2⟩
   replace hown := hown.below hb2
   have hbw2 := yb hbw hb2
   obtain ⟨A2, n2, c2, rfl, hn2, hn2c, hc2, hr2⟩ := hown2.formN
   have HN2 := ya (show n2 ≤ 10 by have := hn2.out; have := z7t x; simp at *; omega)
   clear hn2 hown2 hc
   go_wp2_with (at_builtin; refine z27 rfl rfl z2i rfl hown rfl hr2 (z8j _) (by rw [z0p]; have := HN.out; have := HN2.out; omega) hbw2.size ?_; intro v' w' hown3 _ hb3 _)
   rw [← HS.out] at hown3
   exact ⟨⟨k + 1, by omega, by go_num, hbw2.trans hb3, hown3⟩, by simp [intOf]; omega⟩
  ·obtain rfl : k = n := by omega
   have HT := ya (show l.take k = l by rw [List.take_of_length_le (by have := HL.out; omega)])
   rw [HT.out, ← HE.out] at hown
   go_wp2
   go_ret
   exact ⟨_, rfl, hown, hbw⟩
theorem zbr (A : Option Addr) (n c : Nat) (l : List Int) (w : World) (hr : Rd w A n (iv l)) (hn : n ≤ 1000) (hf : z1z l) :
  Calls Tryz.prog 56 #[.slice A n c] w fun e w' => ∃ v, e = .returned v ∧ Own w' w.heap.size 5 v (bv (z1j l)) ∧ Below w.heap.size w w' := by
 go_enter Tryz.func56, Tryz.ntmps56
 go_wp2_with fail
 refine (zvz A n c l _ hr hn hf).mono ?_
 rintro e w1 ⟨v1, rfl, hown1, hb1⟩
 go_wp2_with fail
 go_ret
 exact ⟨_, rfl, hown1, hb1⟩
theorem zdf (A : Option Addr) (n c : Nat) (l : List Int) (w : World) (hr : Rd w A n (iv l)) (hn : n ≤ 1000) (hf : z1z l) :
  Calls Tryz.prog 58 #[.slice A n c] w fun e w' => ∃ v, e = .returned v ∧ Own w' w.heap.size 5 v (bv (z1j l)) ∧ Below w.heap.size w w' := by
 have HL := ya (show l.length = n by have := hr.len; simpa using this)
 have HF := ya hf
 clear hf
 have HE := ya (show z1j l = z13 n ++ l.flatMap z13 by unfold z1j; rw [HL.out])
 go_enter Tryz.func58, Tryz.ntmps58
 go_wp2_with fail
 refine (zfr n _ (by omega) (by omega)).mono ?_
 rintro e w1 ⟨v1, rfl, hown1, hb1⟩
 go_wp2_with fail
 go_loopw [3, 4] (fun v j wr => ∃ k : Nat, k ≤ n ∧ j = .int .i64 k ∧ Below w.heap.size w wr ∧ Own wr w.heap.size 5 v (bv (z13 n ++ (l.take k).flatMap z13))) (fun _ j _ => n - (intOf j).toNat)
 case atStart => exact ⟨0, Nat.zero_le _, rfl, hb1, by simpa using hown1⟩
 case round =>
  clear hown1
  obtain ⟨k, hk, rfl, hbw, hown⟩ := hrel
  by_cases hlt : k < n
  ·obtain ⟨ad, rfl, hc⟩ := (hr.below hbw).int hlt HL.out
   have HT := ya (List.take_succ_eq_append_getElem (show k < l.length by have := HL.out; omega))
   have HX := ya (HF.out _ (List.getElem_mem (show k < l.length by have := HL.out; omega)))
   generalize l[k]'(by have := HL.out; omega) = x at *
   have HS := ya (show bv (z13 n ++ (l.take (k + 1)).flatMap z13) = bv (z13 n ++ (l.take k).flatMap z13) ++ bv (z13 x) by rw [HT.out, ← z2o]; simp)
   have HN : Hid ((z13 n ++ (l.take k).flatMap z13).length ≤ 20000) := ya (by
    have := z7t n
    have := zcx (l.take k)
    have := List.length_take_le k l
    simp only [List.length_append]; omega)
   go_wp2_with fail
   refine (zfr x _ HX.out.1 HX.out.2).mono ?_
   rintro e w2 ⟨v2, rfl, hown2, hb2⟩
   replace hown := hown.below hb2
   have hbw2 := yb hbw hb2
   obtain ⟨A2, n2, c2, rfl, hn2, hn2c, hc2, hr2⟩ := hown2.formN
   have HN2 := ya (show n2 ≤ 10 by have := hn2.out; have := z7t x; simp at *; omega)
   clear hn2 hown2 hc
   go_wp2_with (at_builtin; refine z27 rfl rfl z2i rfl hown rfl hr2 (z8j _) (by rw [z0p]; have := HN.out; have := HN2.out; omega) hbw2.size ?_; intro v' w' hown3 _ hb3 _)
   rw [← HS.out] at hown3
   exact ⟨⟨k + 1, by omega, by go_num, hbw2.trans hb3, hown3⟩, by simp [intOf]; omega⟩
  ·obtain rfl : k = n := by omega
   have HT := ya (show l.take k = l by rw [List.take_of_length_le (by have := HL.out; omega)])
   rw [HT.out, ← HE.out] at hown
   go_wp2
   go_ret
   exact ⟨_, rfl, hown, hbw⟩
def z4x (l : List ByteArray) : List UInt8 := z13 l.length ++ l.flatMap fun s => z1r s.data.toList
theorem zfa (s : ByteArray) (h : s.size ≤ 65536) : (z1r s.data.toList).length ≤ 65546 := by
 unfold z1r
 rw [List.length_append]
 have := z9m 9 (2 * s.data.toList.length)
 have e : s.data.toList.length = s.size := by simp
 omega
theorem zja : ∀ l : List ByteArray, (∀ s ∈ l, s.size ≤ 65536) → (l.flatMap fun s => z1r s.data.toList).length ≤ l.length * 65546
 | [], _ => by simp
 | x :: l, h => by
  have := zja l (fun s hs => h s (by simp [hs]))
  have := zfa x (h x (by simp))
  simp only [List.flatMap_cons, List.length_append, List.length_cons]; omega
def z4j (n : Nat) (l : List ByteArray) : List UInt8 := z13 n ++ l.flatMap fun s => z1r s.data.toList
theorem zi5 (n : Nat) (l : List ByteArray) (k : Nat) (h : k < l.length) : bv (z4j n (l.take (k + 1))) = bv (z4j n (l.take k)) ++ bv (z1r l[k].data.toList) := by
 unfold z4j
 rw [List.take_succ_eq_append_getElem h, ← z2o, List.flatMap_append, List.append_assoc]
 simp only [List.flatMap_cons, List.flatMap_nil, List.append_nil]
theorem zi4 (n : Nat) (l : List ByteArray) (k : Nat) (hl : l.length ≤ 1000) (h : ∀ s ∈ l, s.size ≤ 65536) : (z4j n (l.take k)).length ≤ 100000000 := by
 unfold z4j
 rw [List.length_append]
 have := z7t n
 have := zja (l.take k) (fun s hs => h s (List.mem_of_mem_take hs))
 have : (l.take k).length ≤ l.length := by rw [List.length_take]; omega
 omega
theorem zvy (A : Option Addr) (n c : Nat) (l : List ByteArray) (w : World) (hr : Rd w A n (sv l)) (hn : n ≤ 1000) (hs : ∀ s ∈ l, s.size ≤ 65536) :
  Calls Tryz.prog 144 #[.slice A n c, .func (.func 141) #[] #[]] w fun e w' => ∃ v, e = .returned v ∧ Own w' w.heap.size 5 v (bv (z4x l)) ∧ Below w.heap.size w w' := by
 have HL := ya (show l.length = n by have := hr.len; simpa using this)
 have HSZ := ya hs
 have HLN := ya (fun k => zi4 n l k (by have := HL.out; omega) hs)
 have HNX := ya (zi5 n l)
 have HE : Hid (z4x l = z4j n (l.take n)) := ya (by unfold z4x z4j; rw [HL.out, List.take_of_length_le (by have := HL.out; omega)])
 have H0 : Hid (z13 n = z4j n (l.take 0)) := ya (by unfold z4j; simp)
 clear hs
 go_enter Tryz.func144, Tryz.ntmps144
 go_wp2_with fail
 refine (zgd n _ (by omega) (by omega)).mono ?_
 rintro e w1 ⟨v1, rfl, hown1, hb1⟩
 rw [H0.out] at hown1
 go_wp2_with fail
 go_loopw [5, 7, 13] (fun v _ j wr => ∃ k : Nat, k ≤ n ∧ j = .int .i64 k ∧ Below w.heap.size w wr ∧ Own wr w.heap.size 5 v (bv (z4j n (l.take k)))) (fun _ _ j _ => n - (intOf j).toNat)
 case atStart => exact ⟨0, Nat.zero_le _, rfl, hb1, hown1⟩
 case round =>
  clear hown1
  obtain ⟨k, hk, rfl, hbw, hown⟩ := hrel
  by_cases hlt : k < n
  ·obtain ⟨ad, rfl, hc⟩ := (hr.below hbw).str hlt HL.out
   have hkl : k < l.length := by have := HL.out; omega
   have HX := ya (HSZ.out _ (List.getElem_mem hkl))
   have HS := ya (HNX.out k hkl)
   have HN := ya (HLN.out k)
   generalize l[k]'(by have := HL.out; omega) = x at *
   clear hkl
   go_wp2_with fail
   refine (zm7 x _ (by have := HX.out; omega)).mono ?_
   rintro e w2 ⟨v2, rfl, hown2, hb2⟩
   replace hown := hown.below hb2
   have hbw2 := yb hbw hb2
   obtain ⟨A2, n2, c2, rfl, hn2, hn2c, hc2, hr2⟩ := hown2.formN
   have HN2 := ya (show n2 ≤ 65546 by have := hn2.out; have := zfa x HX.out; rw [z0p] at *; omega)
   clear hn2 hown2 hc
   go_wp2_with (at_builtin; refine z27 rfl rfl z2i rfl hown rfl hr2 (z8j _) (by rw [z0p]; have := HN.out; have := HN2.out; omega) hbw2.size ?_; intro v' w' hown3 _ hb3 _)
   rw [← HS.out] at hown3
   exact ⟨⟨k + 1, by omega, by go_num, hbw2.trans hb3, hown3⟩, by simp [intOf]; omega⟩
  ·obtain rfl : k = n := by omega
   rw [← HE.out] at hown
   go_wp2
   go_ret
   exact ⟨_, rfl, hown, hbw⟩
theorem zw0 (A : Option Addr) (n c : Nat) (l : List ByteArray) (w : World) (hr : Rd w A n (sv l)) (hn : n ≤ 1000) (hs : ∀ s ∈ l, s.size ≤ 65536) :
  Calls Tryz.prog 101 #[.slice A n c] w fun e w' => ∃ v, e = .returned v ∧ Own w' w.heap.size 5 v (bv (z4x l)) ∧ Below w.heap.size w w' := by
 have HQ := ya (zvy A n c l w hr hn hs)
 clear hr hs
 generalize z4x l = R at *
 go_enter Tryz.func101, Tryz.ntmps101
 go_wp2_with fail
 refine HQ.out.mono ?_
 rintro e w1 ⟨v1, rfl, hown1, hb1⟩
 go_wp2_with fail
 go_ret
 exact ⟨_, rfl, hown1, hb1⟩
theorem zpd (A : Option Addr) (n c : Nat) (l : List Int) (w : World) (hr : Rd w A n (iv l)) (hn : n ≤ 1000) (hf : z1z l) :
  Calls Tryz.prog 100 #[.slice A n c] w fun e w' => ∃ v, e = .returned v ∧ Own w' w.heap.size 5 v (bv (z1j l)) ∧ Below w.heap.size w w' := by
 have HQ := ya (zbr A n c l w hr hn hf)
 clear hr hf
 generalize z1j l = R at *
 go_enter Tryz.func100, Tryz.ntmps100
 go_wp2_with fail
 refine HQ.out.mono ?_
 rintro e w1 ⟨v1, rfl, hown1, hb1⟩
 go_wp2_with fail
 go_ret
 exact ⟨_, rfl, hown1, hb1⟩
theorem zsq (A : Option Addr) (n c : Nat) (l : List Int) (w : World) (hr : Rd w A n (iv l)) (hn : n ≤ 1000) (hf : z1z l) :
  Calls Tryz.prog 103 #[.slice A n c] w fun e w' => ∃ v, e = .returned v ∧ Own w' w.heap.size 5 v (bv (z1j l)) ∧ Below w.heap.size w w' := by
 have HQ := ya (zdf A n c l w hr hn hf)
 clear hr hf
 generalize z1j l = R at *
 go_enter Tryz.func103, Tryz.ntmps103
 go_wp2_with fail
 refine HQ.out.mono ?_
 rintro e w1 ⟨v1, rfl, hown1, hb1⟩
 go_wp2_with fail
 go_ret
 exact ⟨_, rfl, hown1, hb1⟩
theorem zta (A : Option Addr) (n c : Nat) (l : List ByteArray) (w : World) (hr : Rd w A n (sv l)) (hn : n ≤ 1000) (hs : ∀ s ∈ l, s.size ≤ 65536) :
  Calls Tryz.prog 104 #[.slice A n c] w fun e w' => ∃ v, e = .returned v ∧ Own w' w.heap.size 5 v (bv (z4x l)) ∧ Below w.heap.size w w' := by
 have HL := ya (show l.length = n by have := hr.len; simpa using this)
 have HSZ := ya hs
 have HLN := ya (fun k => zi4 n l k (by have := HL.out; omega) hs)
 have HNX := ya (zi5 n l)
 have HE : Hid (z4x l = z4j n (l.take n)) := ya (by unfold z4x z4j; rw [HL.out, List.take_of_length_le (by have := HL.out; omega)])
 have H0 : Hid (z13 n = z4j n (l.take 0)) := ya (by unfold z4j; simp)
 clear hs
 go_enter Tryz.func104, Tryz.ntmps104
 go_wp2_with fail
 refine (zfr n _ (by omega) (by omega)).mono ?_
 rintro e w1 ⟨v1, rfl, hown1, hb1⟩
 rw [H0.out] at hown1
 go_wp2_with fail
 go_loopw [3, 4] (fun v j wr => ∃ k : Nat, k ≤ n ∧ j = .int .i64 k ∧ Below w.heap.size w wr ∧ Own wr w.heap.size 5 v (bv (z4j n (l.take k)))) (fun _ j _ => n - (intOf j).toNat)
 case atStart => exact ⟨0, Nat.zero_le _, rfl, hb1, hown1⟩
 case round =>
  clear hown1
  obtain ⟨k, hk, rfl, hbw, hown⟩ := hrel
  by_cases hlt : k < n
  ·obtain ⟨ad, rfl, hc⟩ := (hr.below hbw).str hlt HL.out
   have hkl : k < l.length := by have := HL.out; omega
   have HX := ya (HSZ.out _ (List.getElem_mem hkl))
   have HS := ya (HNX.out k hkl)
   have HN := ya (HLN.out k)
   generalize l[k]'(by have := HL.out; omega) = x at *
   clear hkl
   go_wp2_with fail
   refine (zku x _ (by have := HX.out; omega)).mono ?_
   rintro e w2 ⟨v2, rfl, hown2, hb2⟩
   replace hown := hown.below hb2
   have hbw2 := yb hbw hb2
   obtain ⟨A2, n2, c2, rfl, hn2, hn2c, hc2, hr2⟩ := hown2.formN
   have HN2 := ya (show n2 ≤ 65546 by have := hn2.out; have := zfa x HX.out; rw [z0p] at *; omega)
   clear hn2 hown2 hc
   go_wp2_with (at_builtin; refine z27 rfl rfl z2i rfl hown rfl hr2 (z8j _) (by rw [z0p]; have := HN.out; have := HN2.out; omega) hbw2.size ?_; intro v' w' hown3 _ hb3 _)
   rw [← HS.out] at hown3
   exact ⟨⟨k + 1, by omega, by go_num, hbw2.trans hb3, hown3⟩, by simp [intOf]; omega⟩
  ·obtain rfl : k = n := by omega
   rw [← HE.out] at hown
   go_wp2
   go_ret
   exact ⟨_, rfl, hown, hbw⟩
end
section
open Go.RowKit Exch Merk Ring
/-! Attributes. -/
def atL (a : At) : List Value := [.string a.name, .int .i64 a.kind, .int .i64 a.n, .string a.s]
abbrev atC (a : At) : Array Value := #[.string a.name, .int .i64 a.kind, .int .i64 a.n, .string a.s]
theorem ze4 (a : At) : (atL a).length = 4 := rfl
def atsL (l : List At) : List Value := l.flatMap atL
theorem zrd (a : At) : (atC a).all (·.oneCell') = true := by simp [atC, Value.oneCell']
theorem aggAt : (Tryz.prog.underlying 100).map z0g = some true := by kernel_rfl
theorem zlq : (Tryz.prog.info? 100).map (·.size) = some 4 := by kernel_rfl
theorem zx3 (W : World) : (zeroValue 100).run Tryz.prog W = .ok (.agg (atC ⟨⟨#[]⟩, 0, 0, ⟨#[]⟩⟩)) W := by kernel_rfl
structure RdA (W : World) (A : Option Addr) (n : Nat) (l : List At) : Prop where
 len : l.length = n
 rd : Rd W A (n * 4) (atsL l)
theorem RdA.below {W W' : World} {A : Option Addr} {n : Nat} {l : List At} (h : RdA W A n l) (hb : Below W.heap.size W W') : RdA W' A n l := ⟨h.len, h.rd.below hb⟩
theorem RdA.elem {W : World} {A : Option Addr} {n : Nat} {l : List At} (h : RdA W A n l) {i : Nat} (hi : i < l.length) : ∃ ad, A = some ad ∧ ∀ j u, (atL l[i])[j]? = some u → W.cell? ((ad.add (i * 4)).add j) = some u :=
 Rd.elem ze4 (by omega) h.rd hi
/-! Events: a row holds an event's numbers, its nonce, and where its vector and its attributes lie. -/
structure EvR where
 e : Ev
 vA : Option Addr
 vn : Nat
 vc : Nat
 aA : Option Addr
 an : Nat
 ac : Nat
def evL (r : EvR) : List Value := [.int .i64 r.e.kind, .int .i64 r.e.commit, .int .i64 r.e.day, .int .i64 r.e.id, .int .i64 r.e.owner, .int .i64 r.e.til, .int .i64 r.e.frm, .slice r.vA r.vn r.vc, .slice r.aA r.an r.ac] ++ bv (dg r.e.nonce)
abbrev evC (r : EvR) : Array Value := (evL r).toArray
abbrev evV (r : EvR) : Value := .agg (evC r)
theorem z2j (r : EvR) : (evL r).length = 25 := by unfold evL; rw [List.length_append, z01]; rfl
theorem z4k (r : EvR) : (evC r).size = 25 := by rw [evC, List.size_toArray, z2j]
theorem z26 (r : EvR) : ∀ u ∈ evL r, u.oneCell' = true := by
 intro u hu
 rcases List.mem_append.1 hu with hu | hu
 ·simp only [List.mem_cons, List.not_mem_nil, or_false] at hu
  rcases hu with rfl | rfl | rfl | rfl | rfl | rfl | rfl | rfl | rfl <;> rfl
 ·simp only [bv, List.mem_map] at hu
  obtain ⟨b, _, rfl⟩ := hu
  rfl
theorem zd3 (r : EvR) : (evC r).all (·.oneCell') = true := by
 rw [Array.all_eq_true_iff_forall_mem]
 intro u hu
 exact z26 r u (by simpa [evC] using hu)
theorem z1q : (Tryz.prog.underlying 27).map z0g = some true := by kernel_rfl
theorem z1f : (Tryz.prog.info? 27).map (·.size) = some 25 := by kernel_rfl
structure z1b (W : World) (r : EvR) : Prop where
 vlen : r.e.vec.length = r.vn
 vrd : Rd W r.vA r.vn (iv r.e.vec)
 vcap : r.vn ≤ r.vc
 vmax : r.vc ≤ maxLen
 ard : RdA W r.aA r.an r.e.attrs
 acap : r.an ≤ r.ac
 amax : r.ac ≤ maxLen
 non : r.e.nonce < 2 ^ 128
theorem z1b.below {W W' : World} {r : EvR} (h : z1b W r) (hb : Below W.heap.size W W') : z1b W' r := ⟨h.vlen, h.vrd.below hb, h.vcap, h.vmax, h.ard.below hb, h.acap, h.amax, h.non⟩
structure z0t (e : Ev) : Prop where
 vec : z1z e.vec
 attrs : ∀ a ∈ e.attrs, (-9223372036854775808 ≤ a.kind ∧ a.kind ≤ 9223372036854775807) ∧ -9223372036854775808 ≤ a.n ∧ a.n ≤ 9223372036854775807
 nums : z1z [e.kind, e.commit, e.day, e.id, e.owner, e.til, e.frm]
structure z10 (e : Ev) : Prop where
 vec : e.vec.length ≤ 40
 attrs : e.attrs.length ≤ 20
 texts : ∀ a ∈ e.attrs, a.name.size ≤ 200 ∧ a.s.size ≤ 200
section
variable {W : World} {g : Nat} {T : TypeId} {r : EvR}
theorem z2r (hb : Blk W g T (evC r)) (j : Nat) : W.cell? ⟨g, j, none⟩ = (evL r)[j]? := by rw [hb.cell j, List.getElem?_toArray]
theorem zep (hb : Blk W g T (evC r)) : ∀ j u, (bv (dg r.e.nonce))[j]? = some u → W.cell? ((⟨g, 9, none⟩ : Addr).add j) = some u := by
 intro j u h
 have := z2r hb (9 + j)
 rw [show ((⟨g, 9, none⟩ : Addr).add j) = ⟨g, 9 + j, none⟩ by unfold Addr.add; split <;> simp_all, this]
 unfold evL
 rw [List.getElem?_append_right (by simp), show 9 + j - [Value.int .i64 r.e.kind, .int .i64 r.e.commit, .int .i64 r.e.day, .int .i64 r.e.id, .int .i64 r.e.owner, .int .i64 r.e.til, .int .i64 r.e.frm, .slice r.vA r.vn r.vc, .slice r.aA r.an r.ac].length = j by simp, h]
end
/-! Faces. -/
def fcL (f : Fc) : List Value := [.int .i64 f.kind, .int .i64 f.commit, .int .i64 f.day, .int .i64 f.id, .int .i64 f.owner, .int .i64 f.til, .int .i64 f.frm] ++ bv (dg f.blind)
abbrev fcC (f : Fc) : Array Value := (fcL f).toArray
abbrev fcV (f : Fc) : Value := .agg (fcC f)
theorem z3z (f : Fc) : (fcL f).length = 23 := by unfold fcL; rw [List.length_append, z01]; rfl
theorem yk (f : Fc) : (fcC f).size = 23 := by rw [fcC, List.size_toArray, z3z]
theorem zfg (f : Fc) : ∀ u ∈ fcL f, u.oneCell' = true := by
 intro u hu
 rcases List.mem_append.1 hu with hu | hu
 ·simp only [List.mem_cons, List.not_mem_nil, or_false] at hu
  rcases hu with rfl | rfl | rfl | rfl | rfl | rfl | rfl <;> rfl
 ·simp only [bv, List.mem_map] at hu
  obtain ⟨b, _, rfl⟩ := hu
  rfl
theorem z2k (f : Fc) : (fcC f).all (·.oneCell') = true := by
 rw [Array.all_eq_true_iff_forall_mem]
 intro u hu
 exact zfg f u (by simpa [fcC] using hu)
theorem z1p : (Tryz.prog.underlying 29).map z0g = some true := by kernel_rfl
theorem z0k : (Tryz.prog.info? 29).map (·.size) = some 23 := by kernel_rfl
theorem z5v (W : World) : (zeroValue 29).run Tryz.prog W = .ok (fcV z0r) W := by kernel_rfl
/-! What is sealed of an event. -/
def z20 (l : List At) : List Int := l.flatMap fun a => [a.kind, a.n]
def z1n (l : List At) : List ByteArray := l.flatMap fun a => [a.name, a.s]
def z3q (e : Ev) : List ByteArray := [⟨(z1j e.vec).toArray⟩, ⟨(z1j (z20 e.attrs)).toArray⟩, ⟨(z4x (z1n e.attrs)).toArray⟩]
theorem zb9 (l : List At) : (z20 l).length = 2 * l.length := by
 induction l with
 | nil => rfl
 | cons a l ih => unfold z20 at ih ⊢; rw [List.flatMap_cons, List.length_append, ih]; simp; omega
theorem zbq (l : List At) : (z1n l).length = 2 * l.length := by
 induction l with
 | nil => rfl
 | cons a l ih => unfold z1n at ih ⊢; rw [List.flatMap_cons, List.length_append, ih]; simp; omega
end
section
open Go.RowKit Exch Merk Go.Shelf
theorem zhf (x y : Int) (W : World) : (Instr.buildSlice 22 2 #[(0, .int .i64 x), (1, .int .i64 y)]).run Tryz.prog W = .ok (.slice (some ⟨W.heap.size, 0, none⟩) 2 2) (W.alloc (.cells #[.int .i64 x, .int .i64 y] 3)) := by kernel_rfl
section
variable {w : World} {ops : Array Oper} {rest : List Oper} {o o1 o2 : Oper} {a : Act} {Q : Exit → Act → World → Prop}
theorem zdw (hg1 : o1.guard = none) (hg2 : o2.guard = none) (h1 : o1.op = .alloc 25) {x y : Operand} {n : Nat} (h2 : o2.op = .store 25 x y) (hx : ∀ p, (a.put o1.dst (.pointer p)).eval x = .pointer p)
  (hy : ∀ p, (a.put o1.dst (.pointer p)).eval y = dgV n)
  (h : ∀ w' g, w.heap.size ≤ g → Blk w' g 25 (dgC n) → Below w.heap.size w w' → wpList Tryz.prog ops Q rest ((a.put o1.dst (.pointer (some ⟨g, 0, none⟩))).put o2.dst undef) w') : wpList Tryz.prog ops Q (o1 :: o2 :: rest) a w :=
 z1d (z := dgC 0) (vs := dgC n) hg1 hg2 h1 h2 (z0q w) hx hy (by rw [yc, yc]) (by rw [yf, yc]) (z0d n) fun w' g hg h1 h2 _ => h w' g (by omega) h1 h2
theorem zwf (hw : Region.wanted o (yielded ops a.tmps) = true) {x y : Operand} {p q : Int} (ho : o.op = .buildSlice 22 2 #[(0, x), (1, y)]) (hx : a.eval x = .int .i64 p) (hy : a.eval y = .int .i64 q)
  (h : ∀ w' g, w.heap.size ≤ g → Rd w' (some ⟨g, 0, none⟩) 2 (iv [p, q]) → Below w.heap.size w w' → wpList Tryz.prog ops Q rest (a.put o.dst (.slice (some ⟨g, 0, none⟩) 2 2)) w') : wpList Tryz.prog ops Q (o :: rest) a w := by
 refine zby hw fun K hK => ?_
 have h2 := h _ _ (Nat.le_refl _) (z56 (xs := iv [p, q]) (Blk.new w 3 _)) ((Below.refl _ _).alloc (Nat.le_refl _) _)
 unfold Oper.wp execOp
 simp only [ho, List.map_toArray, List.map_cons, List.map_nil, hx, hy, zhf, Sem.run_bind, Result.andThen_ok, Sem.run_pure]
 exact hK _ _ h2
end
end
section
open Go.RowKit Exch Merk Ring
section
variable {w w' : World} {B : Nat} {e : TypeId} {size : Nat} {v : Value} {n : Nat} {xs : List Value}
theorem ziu (hv : w.ownsRow B e size v n xs) (hg : w.grownBy w' v.ownBlock) {g : Nat} {cs : Array Value} {T : TypeId} {fr : Nat × Nat} (h : w.heap[g]? = some (.cells cs T fr)) (hT : T ≠ e) : w'.heap[g]? = some (.cells cs T fr) := by
 have hlt : g < w.heap.size := (Array.getElem?_eq_some_iff.1 h).1
 rw [hg.block g hlt ?_]
 ·exact h
 ·intro he
  rcases hv.2 with ⟨rfl, _⟩ | ⟨g', cap, cur, rfl, _, hg', _⟩
  ·simp [Value.ownBlock] at he
  ·simp only [Value.ownBlock, Option.some.injEq] at he
   subst he
   rw [h] at hg'
   injection hg' with hg'
   injection hg' with _ h2 _
   exact hT h2
theorem z25 (hv : w.ownsRow B e size v n xs) (hg : w.grownBy w' v.ownBlock) {g : Nat} {cs : Array Value} {T : TypeId} (h : Blk w g T cs) (hT : T ≠ e) : Blk w' g T cs := ziu hv hg h hT
theorem z7r (hv : w.ownsRow B e size v n xs) (hg : w.grownBy w' v.ownBlock) {B2 : Nat} {T : TypeId} {size2 : Nat} {u : Value} {n2 : Nat} {ys : List Value} (h : w.ownsRow B2 T size2 u n2 ys) (hT : T ≠ e) : w'.ownsRow B2 T size2 u n2 ys := by
 refine ⟨h.1, ?_⟩
 rcases h.2 with h2 | ⟨g, cap, cur, hu, hb, hh, r⟩
 ·exact .inl h2
 ·exact .inr ⟨g, cap, cur, hu, hb, ziu hv hg hh hT, r⟩
end
theorem zcg : z8y Tryz.prog 22 3 := by
 obtain ⟨i, h1, h2, h3, h4⟩ := info_parts (show (Tryz.prog.info? 3).map (fun i => (i.zero, i.size, i.bytes)) = some (some (.int .i64 0), 1, 8) by kernel_rfl)
 exact ⟨by kernel_rfl, i, .int .i64 0, h1, h2, h3, by omega, rfl⟩
theorem zag {P : Program} {ops : Array Oper} {S : World → Prop} {o : Oper} {a : Act} {t : TypeId} {x : Operand} {p : Addr} {v : Value} (ho : o.op = .load t x) (hg : o.guard = none) (ha : a.eval x = .pointer (some p))
  (hu : (P.underlying t).map z0g = some false) (hc : ∀ W, S W → W.cell? p = some v) : YieldsIf P ops S o v a := by
 refine .inl ⟨by simp [Region.wanted, hg], fun w hS => ?_⟩
 unfold execOp
 simp only [ho, ha, Instr.loadAt, Instr.sureAddr, Sem.run_bind, Sem.run_pure, Result.andThen_ok, za0 w p t v hu (hc w hS)]
theorem zdx {w : World} {o : Oper} {a : Act} {K : Act → World → Prop} {Q : Exit → Act → World → Prop} {x y : Operand} {p q : Int} (ho : o.op = .buildSlice 22 2 #[(0, x), (1, y)]) (hx : a.eval x = .int .i64 p) (hy : a.eval y = .int .i64 q)
  (h : ∀ w' g, Blk w' g 3 #[.int .i64 p, .int .i64 q] → Below w.heap.size w w' → K (a.put o.dst (.slice (some ⟨g, 0, none⟩) 2 2)) w') : o.wp Tryz.prog a w K Q := by
 have h2 := h _ _ (Blk.new w 3 #[.int .i64 p, .int .i64 q]) ((Below.refl _ _).alloc (Nat.le_refl _) _)
 unfold Oper.wp execOp
 simp only [ho, List.map_toArray, List.map_cons, List.map_nil, hx, hy, zhf, Sem.run_bind, Result.andThen_ok, Sem.run_pure]
 exact h2
theorem zdy {w : World} {o : Oper} {a : Act} {K : Act → World → Prop} {Q : Exit → Act → World → Prop} {x y : Operand} {s t : ByteArray} (ho : o.op = .buildSlice 103 2 #[(0, x), (1, y)]) (hx : a.eval x = .string s) (hy : a.eval y = .string t)
  (h : ∀ w' g, Blk w' g 9 #[.string s, .string t] → Below w.heap.size w w' → K (a.put o.dst (.slice (some ⟨g, 0, none⟩) 2 2)) w') : o.wp Tryz.prog a w K Q := by
 have h2 := h _ _ (Blk.new w 9 #[.string s, .string t]) ((Below.refl _ _).alloc (Nat.le_refl _) _)
 unfold Oper.wp execOp
 simp only [ho, List.map_toArray, List.map_cons, List.map_nil, hx, hy, zhg, Sem.run_bind, Result.andThen_ok, Sem.run_pure]
 exact h2
theorem znh (s t u : ByteArray) (W : World) : (Instr.buildSlice 103 3 #[(0, .string s), (1, .string t), (2, .string u)]).run Tryz.prog W = .ok (.slice (some ⟨W.heap.size, 0, none⟩) 3 3) (W.alloc (.cells #[.string s, .string t, .string u] 9)) := by kernel_rfl
theorem z22 {w : World} {o : Oper} {a : Act} {K : Act → World → Prop} {Q : Exit → Act → World → Prop} {x y z : Operand} {s t u : ByteArray} (ho : o.op = .buildSlice 103 3 #[(0, x), (1, y), (2, z)]) (hx : a.eval x = .string s) (hy : a.eval y = .string t) (hz : a.eval z = .string u)
  (h : ∀ w' g, Own w' w.heap.size 9 (.slice (some ⟨g, 0, none⟩) 3 3) (sv [s, t, u]) → Below w.heap.size w w' → K (a.put o.dst (.slice (some ⟨g, 0, none⟩) 3 3)) w') : o.wp Tryz.prog a w K Q := by
 have h2 := h (w.alloc (.cells #[.string s, .string t, .string u] 9)) w.heap.size ⟨rfl, .inr ⟨w.heap.size, 3, #[.string s, .string t, .string u], rfl, Nat.le_refl _, heap_alloc_new w _, Nat.le_refl _, by simp [maxLen], rfl, rfl⟩⟩ ((Below.refl _ _).alloc (Nat.le_refl _) _)
 unfold Oper.wp execOp
 simp only [ho, List.map_toArray, List.map_cons, List.map_nil, hx, hy, hz, znh, Sem.run_bind, Result.andThen_ok, Sem.run_pure]
 exact h2
theorem zbk {w : World} {g : Nat} {p q : Int} (h : Blk w g 3 #[.int .i64 p, .int .i64 q]) : Rd w (some ⟨g, 0, none⟩) 2 (iv [p, q]) := z56 (xs := iv [p, q]) h
theorem zdc {w : World} {g : Nat} {s t : ByteArray} (h : Blk w g 9 #[.string s, .string t]) : Rd w (some ⟨g, 0, none⟩) 2 (sv [s, t]) := z56 (xs := sv [s, t]) h
theorem zjk (l : List At) (i : Nat) (h : i < l.length) : z20 (l.take (i + 1)) = z20 (l.take i) ++ [l[i].kind, l[i].n] := by
 unfold z20; rw [List.take_succ_eq_append_getElem h, List.flatMap_append]; rfl
theorem zlz (l : List At) (i : Nat) (h : i < l.length) : z1n (l.take (i + 1)) = z1n (l.take i) ++ [l[i].name, l[i].s] := by
 unfold z1n; rw [List.take_succ_eq_append_getElem h, List.flatMap_append]; rfl
theorem zaz (w : World) (r : EvR) : ∃ wa : World, wa = w.alloc (.cells (evC r) 27) ∧ Below w.heap.size w wa ∧ Blk wa w.heap.size 27 (evC r) := ⟨_, rfl, (Below.refl w.heap.size w).alloc (Nat.le_refl _) _, Blk.new _ _ _⟩
def z7k (l : List ByteArray) (w : World) (e : Ending) (w' : World) : Prop := ∃ v, e = .returned v ∧ Own w' w.heap.size 9 v (sv l) ∧ Below w.heap.size w w'
theorem zht (r : EvR) (w : World) (h : z1b w r) (hw : z0t r.e) (hf : z10 r.e) :
  Calls Tryz.prog 51 #[evV r] w (z7k (z3q r.e) w) := by
 obtain ⟨wa, hwa, hb0, q1⟩ := zaz w r
 have HWA := ya hwa
 clear hwa
 obtain ⟨⟨k0, k1, k2, k3, k4, k5, k6, vec, attrs, nonce⟩, vA, vn, vc, aA, an, ac⟩ := r
 obtain ⟨hvl, hvr, hvc, hvm, har, hac, ham, hno⟩ := h
 obtain ⟨wv, wat, -⟩ := hw
 obtain ⟨fv, fa, ft⟩ := hf
 dsimp only at hvl hvr hvc hvm har hac ham hno wv wat fv fa ft ⊢
 have hal := har.len
 have hcells := z2r q1
 have c7 : wa.cell? ⟨w.heap.size, 7, none⟩ = some (.slice vA vn vc) := hcells 7
 have c8 : wa.cell? ⟨w.heap.size, 8, none⟩ = some (.slice aA an ac) := hcells 8
 have HE := ya (fun W (h : Below w.heap.size w W) => zpd vA vn vc vec W (hvr.below h) (by omega) wv)
 have HNF : Hid (z1z (z20 attrs)) := ya (fun x hx => by
  obtain ⟨a, ha, hx⟩ := List.mem_flatMap.1 hx
  have := wat a ha
  simp only [List.mem_cons, List.not_mem_nil, or_false] at hx
  rcases hx with rfl | rfl
  ·exact this.1
  ·exact this.2)
 have HTF : Hid (∀ s ∈ z1n attrs, s.size ≤ 65536) := ya (fun x hx => by
  obtain ⟨a, ha, hx⟩ := List.mem_flatMap.1 hx
  have := ft a ha
  simp only [List.mem_cons, List.not_mem_nil, or_false] at hx
  rcases hx with rfl | rfl <;> omega)
 have hnl := zb9 attrs
 have htl := zbq attrs
 have HIN := ya (fun A n c W (hr : Rd W A n (iv (z20 attrs))) (hn : n ≤ 1000) => zbr A n c (z20 attrs) W hr hn HNF.out)
 have HST := ya (fun A n c W (hr : Rd W A n (sv (z1n attrs))) (hn : n ≤ 1000) => zw0 A n c (z1n attrs) W hr hn HTF.out)
 have HLN : Hid (∀ i, (z20 (attrs.take i)).length ≤ 40 ∧ (z1n (attrs.take i)).length ≤ 40) := ya (fun i => by rw [zb9, zbq, List.length_take]; omega)
 have HNX := ya (zjk attrs)
 have HTX := ya (zlz attrs)
 have H0 : Hid (z20 (attrs.take 0) = [] ∧ z1n (attrs.take 0) = []) := ya ⟨rfl, rfl⟩
 have HEND : Hid (z20 (attrs.take an) = z20 attrs ∧ z1n (attrs.take an) = z1n attrs) := ya (by rw [List.take_of_length_le (by omega)]; exact ⟨rfl, rfl⟩)
 have HAL := ya hal
 have HAR := ya (fun W (h : Below w.heap.size w W) => har.below h)
 have han : an ≤ 20 := by omega
 unfold z3q
 dsimp only
 clear hvr har hvl hal wv wat fv fa ft hnl htl hno hcells
 generalize z1j vec = EV at *
 generalize z1j (z20 attrs) = EN at *
 generalize z4x (z1n attrs) = ET at *
 unfold z7k
 go_enter Tryz.func51, Tryz.ntmps51
 go_upto_region 1 with fail
 change Code.wp _ _ _ _ (w.alloc (.cells (evC ⟨⟨k0, k1, k2, k3, k4, k5, k6, vec, attrs, nonce⟩, vA, vn, vc, aA, an, ac⟩) 27))
 rw [← HWA.out]
 go_wp2_with fail
 go_loopw [3, 4, 10] (fun v3 v4 v10 wr => ∃ i : Nat, v10 = .int .i64 (i : Int) ∧ i ≤ an ∧ Own wr wa.heap.size 3 v3 (iv (z20 (attrs.take i))) ∧ Own wr wa.heap.size 9 v4 (sv (z1n (attrs.take i))) ∧ Below wa.heap.size wa wr) (fun _ _ v10 _ => an - (intOf v10).toNat)
 case atStart => exact ⟨0, rfl, Nat.zero_le _, by rw [H0.out.1]; exact Own.nil _ _ _, by rw [H0.out.2]; exact Own.nil _ _ _, Below.refl _ _⟩
 case round =>
  obtain ⟨i, rfl, hi, o3, o4, hbl⟩ := hrel
  by_cases hin : i < an
  ·have dj : decide ((i : Int) < (an : Int)) = true := by rw [decide_eq_true_eq]; omega
   have hix : 0 ≤ (i : Int) ∧ (i : Int) < (an : Int) := by omega
   have hil : i < attrs.length := by rw [HAL.out]; exact hin
   have HNI := ya (HNX.out i hil)
   have HTI := ya (HTX.out i hil)
   obtain ⟨ad, hA, hce⟩ := (HAR.out _ (yb hb0 hbl)).elem hil
   have hl40 := HLN.out i
   generalize attrs[i] = a at *
   subst hA
   clear hil
   go_upto_region 6 with (first
    | ((with_reducible show sl 13); refine yt (us := atL a) rfl rfl rfl aggAt (by rw [zlq, ze4]) hce ?_)
    | ((with_reducible show sl 6); refine z1d (z := atC ⟨⟨#[]⟩, 0, 0, ⟨#[]⟩⟩) (vs := atC a) rfl rfl rfl rfl (zx3 _) (fun _ => rfl) (fun _ => rfl) rfl (by rw [zlq]; rfl) (zrd _) ?_; intro w6 g6 hg6 b6 hb6 lt6; clear hg6 lt6))
   replace o3 := o3.below hb6
   replace o4 := o4.below hb6
   have hB : Below wa.heap.size wa w6.drew := (yb hbl hb6).drew
   have b6' : Blk w6.drew g6 100 (atC a) := b6.below (Below.refl _ _).drew
   replace o3 := Own.below o3 (show Below w6.heap.size w6 w6.drew from (Below.refl _ _).drew)
   replace o4 := Own.below o4 (show Below w6.heap.size w6 w6.drew from (Below.refl _ _).drew)
   clear b6 hce hbl hb6
   refine z2h (S := (fun W => Below wa.heap.size wa W ∧ Blk W g6 100 (atC a))) 15 (by kernel_rfl) ?_
   refine WpT.tk 0 (⟨hB, b6'⟩) ?_
   simp only [nrm]
   refine WpT.tk 1 (⟨hB, b6'⟩) ?_
   simp only [nrm]
   refine WpT.tl 2 rfl (zag rfl rfl rfl (by kernel_rfl) (fun W h => by have := h.2.cell 1; simpa using this)) (⟨hB, b6'⟩) ?_
   simp only [nrm]
   refine WpT.tk 3 (⟨hB, b6'⟩) ?_
   simp only [nrm]
   refine WpT.tl 4 rfl (zag rfl rfl rfl (by kernel_rfl) (fun W h => by have := h.2.cell 2; simpa using this)) (⟨hB, b6'⟩) ?_
   simp only [nrm]
   refine WpT.tk 7 (⟨hB, b6'⟩) ?_
   simp only [nrm]
   refine WpT.tk 8 (⟨hB, b6'⟩) ?_
   simp only [nrm]
   refine WpT.tl 9 rfl (zag rfl rfl rfl (by kernel_rfl) (fun W h => by have := h.2.cell 0; simpa using this)) (⟨hB, b6'⟩) ?_
   simp only [nrm]
   refine WpT.tk 10 (⟨hB, b6'⟩) ?_
   simp only [nrm]
   refine WpT.tl 11 rfl (zag rfl rfl rfl (by kernel_rfl) (fun W h => by have := h.2.cell 3; simpa using this)) (⟨hB, b6'⟩) ?_
   simp only [nrm]
   refine WpT.fork (i := 5) (j := 12) rfl rfl (by kernel_rfl) (fun K hK => ?_) (fun K hK => ?_)
   ·refine zdx (p := a.kind) (q := a.n) rfl (by rfl) (by rfl) ?_; intro w5 g5 q5 hb5; replace b6' := b6'.below hb5; replace o3 := Own.below o3 hb5; replace o4 := Own.below o4 hb5; (try replace q12 := q12.below hb5); replace hB := yb hB hb5
    refine hK _ _ (⟨hB, b6'⟩) ?_; clear hK K; try simp only [nrm]
    refine WpT.fork (i := 6) (j := 12) rfl rfl (by kernel_rfl) (fun K hK => ?_) (fun K hK => ?_)
    ·refine z7b rfl zcg (by rfl) o3 (by rfl) (zbk q5) (by intro u hu; simp [iv] at hu; rcases hu with rfl | rfl <;> rfl) (by rw [z9l]; omega) hB.size ?_; intro v3' wx o3' hgx hbx _; replace b6' := z25 o3 hgx b6' (by decide); have o4 : Own wx wa.heap.size 9 u4 (sv (z1n (attrs.take i))) := z7r o3 hgx o4 (by decide); (try replace q12 := z25 o3 hgx q12 (by decide)); replace hB := hB.trans hbx
     refine hK _ _ (⟨hB, b6'⟩) ?_; clear hK K; try simp only [nrm]
     refine WpT.on 12 rfl (fun K hK => ?_)
     refine zdy (s := a.name) (t := a.s) rfl (by rfl) (by rfl) ?_; intro w7 g7 q12 hb7; replace b6' := b6'.below hb7; (try replace o3 := Own.below o3 hb7); (try replace o3' := Own.below o3' hb7); replace o4 := Own.below o4 hb7; (try replace q5 := q5.below hb7); replace hB := yb hB hb7
     refine hK _ _ (⟨hB, b6'⟩) ?_; clear hK K; try simp only [nrm]
     refine WpT.on 13 rfl (fun K hK => ?_)
     refine z7b rfl z7p (by rfl) o4 (by rfl) (zdc q12) (by intro u hu; simp [sv] at hu; rcases hu with rfl | rfl <;> rfl) (by rw [z4m]; omega) hB.size ?_; intro v4' wy o4' hgy hby _; replace b6' := z25 o4 hgy b6' (by decide); have o3' : Own wy wa.heap.size 3 v3' (iv (z20 (attrs.take i)) ++ iv [a.kind, a.n]) := z7r o4 hgy o3' (by decide); replace hB := hB.trans hby
     refine hK _ _ (⟨hB, b6'⟩) ?_; clear hK K; try simp only [nrm]
     refine WpT.on 14 rfl (fun K hK => ?_)
     go_simp; (try go_bits)
     refine hK _ _ (⟨hB, b6'⟩) ?_; clear hK K; try simp only [nrm]
     refine WpT.ta 15 rfl (fun K hK => ?_)
     go_simp; (try go_bits)
     refine hK _ _ ?_; clear hK K; try simp only [nrm]
     refine WpT.done (by kernel_rfl) ?_ _
     go_wp2_with fail; exact ⟨⟨i + 1, by go_num, by omega, by rw [HNI.out]; unfold iv at o3' ⊢; rw [List.map_append]; exact o3', by rw [HTI.out]; unfold sv at o4' ⊢; rw [List.map_append]; exact o4', hB⟩, by simp [intOf]; omega⟩
    ·refine zdy (s := a.name) (t := a.s) rfl (by rfl) (by rfl) ?_; intro w7 g7 q12 hb7; replace b6' := b6'.below hb7; (try replace o3 := Own.below o3 hb7); (try replace o3' := Own.below o3' hb7); replace o4 := Own.below o4 hb7; (try replace q5 := q5.below hb7); replace hB := yb hB hb7
     refine hK _ _ (⟨hB, b6'⟩) ?_; clear hK K; try simp only [nrm]
     refine WpT.on 6 rfl (fun K hK => ?_)
     refine z7b rfl zcg (by rfl) o3 (by rfl) (zbk q5) (by intro u hu; simp [iv] at hu; rcases hu with rfl | rfl <;> rfl) (by rw [z9l]; omega) hB.size ?_; intro v3' wx o3' hgx hbx _; replace b6' := z25 o3 hgx b6' (by decide); have o4 : Own wx wa.heap.size 9 u4 (sv (z1n (attrs.take i))) := z7r o3 hgx o4 (by decide); (try replace q12 := z25 o3 hgx q12 (by decide)); replace hB := hB.trans hbx
     refine hK _ _ (⟨hB, b6'⟩) ?_; clear hK K; try simp only [nrm]
     refine WpT.on 13 rfl (fun K hK => ?_)
     refine z7b rfl z7p (by rfl) o4 (by rfl) (zdc q12) (by intro u hu; simp [sv] at hu; rcases hu with rfl | rfl <;> rfl) (by rw [z4m]; omega) hB.size ?_; intro v4' wy o4' hgy hby _; replace b6' := z25 o4 hgy b6' (by decide); have o3' : Own wy wa.heap.size 3 v3' (iv (z20 (attrs.take i)) ++ iv [a.kind, a.n]) := z7r o4 hgy o3' (by decide); replace hB := hB.trans hby
     refine hK _ _ (⟨hB, b6'⟩) ?_; clear hK K; try simp only [nrm]
     refine WpT.on 14 rfl (fun K hK => ?_)
     go_simp; (try go_bits)
     refine hK _ _ (⟨hB, b6'⟩) ?_; clear hK K; try simp only [nrm]
     refine WpT.ta 15 rfl (fun K hK => ?_)
     go_simp; (try go_bits)
     refine hK _ _ ?_; clear hK K; try simp only [nrm]
     refine WpT.done (by kernel_rfl) ?_ _
     go_wp2_with fail; exact ⟨⟨i + 1, by go_num, by omega, by rw [HNI.out]; unfold iv at o3' ⊢; rw [List.map_append]; exact o3', by rw [HTI.out]; unfold sv at o4' ⊢; rw [List.map_append]; exact o4', hB⟩, by simp [intOf]; omega⟩
   ·refine zdy (s := a.name) (t := a.s) rfl (by rfl) (by rfl) ?_; intro w7 g7 q12 hb7; replace b6' := b6'.below hb7; (try replace o3 := Own.below o3 hb7); (try replace o3' := Own.below o3' hb7); replace o4 := Own.below o4 hb7; (try replace q5 := q5.below hb7); replace hB := yb hB hb7
    refine hK _ _ (⟨hB, b6'⟩) ?_; clear hK K; try simp only [nrm]
    refine WpT.on 5 rfl (fun K hK => ?_)
    refine zdx (p := a.kind) (q := a.n) rfl (by rfl) (by rfl) ?_; intro w5 g5 q5 hb5; replace b6' := b6'.below hb5; replace o3 := Own.below o3 hb5; replace o4 := Own.below o4 hb5; (try replace q12 := q12.below hb5); replace hB := yb hB hb5
    refine hK _ _ (⟨hB, b6'⟩) ?_; clear hK K; try simp only [nrm]
    refine WpT.on 6 rfl (fun K hK => ?_)
    refine z7b rfl zcg (by rfl) o3 (by rfl) (zbk q5) (by intro u hu; simp [iv] at hu; rcases hu with rfl | rfl <;> rfl) (by rw [z9l]; omega) hB.size ?_; intro v3' wx o3' hgx hbx _; replace b6' := z25 o3 hgx b6' (by decide); have o4 : Own wx wa.heap.size 9 u4 (sv (z1n (attrs.take i))) := z7r o3 hgx o4 (by decide); (try replace q12 := z25 o3 hgx q12 (by decide)); replace hB := hB.trans hbx
    refine hK _ _ (⟨hB, b6'⟩) ?_; clear hK K; try simp only [nrm]
    refine WpT.on 13 rfl (fun K hK => ?_)
    refine z7b rfl z7p (by rfl) o4 (by rfl) (zdc q12) (by intro u hu; simp [sv] at hu; rcases hu with rfl | rfl <;> rfl) (by rw [z4m]; omega) hB.size ?_; intro v4' wy o4' hgy hby _; replace b6' := z25 o4 hgy b6' (by decide); have o3' : Own wy wa.heap.size 3 v3' (iv (z20 (attrs.take i)) ++ iv [a.kind, a.n]) := z7r o4 hgy o3' (by decide); replace hB := hB.trans hby
    refine hK _ _ (⟨hB, b6'⟩) ?_; clear hK K; try simp only [nrm]
    refine WpT.on 14 rfl (fun K hK => ?_)
    go_simp; (try go_bits)
    refine hK _ _ (⟨hB, b6'⟩) ?_; clear hK K; try simp only [nrm]
    refine WpT.ta 15 rfl (fun K hK => ?_)
    go_simp; (try go_bits)
    refine hK _ _ ?_; clear hK K; try simp only [nrm]
    refine WpT.done (by kernel_rfl) ?_ _
    go_wp2_with fail; exact ⟨⟨i + 1, by go_num, by omega, by rw [HNI.out]; unfold iv at o3' ⊢; rw [List.map_append]; exact o3', by rw [HTI.out]; unfold sv at o4' ⊢; rw [List.map_append]; exact o4', hB⟩, by simp [intOf]; omega⟩
  ·have dj : decide ((i : Int) < (an : Int)) = false := by rw [decide_eq_false_iff_not]; omega
   obtain rfl : an = i := by omega
   rw [HEND.out.1] at o3
   rw [HEND.out.2] at o4
   obtain ⟨A3, n3, c3, rfl, hn3, -, -, r3⟩ := o3.formN
   obtain ⟨A4, n4, c4, rfl, hn4, -, -, r4⟩ := o4.formN
   have hn3' : n3 ≤ 1000 := by have := hn3.out; rw [z9l] at this; have := HLN.out an; rw [HEND.out.1] at this; omega
   have hn4' : n4 ≤ 1000 := by have := hn4.out; rw [z4m] at this; have := HLN.out an; rw [HEND.out.2] at this; omega
   clear o3 o4 hn3 hn4
   have c7' : wr.cell? ⟨w.heap.size, 7, none⟩ = some (.slice vA vn vc) := cell_later hbl c7
   have HR3 := ya (fun W (h : Below wr.heap.size wr W) => HIN.out A3 n3 c3 W (r3.below h) hn3')
   have HR4 := ya (fun W (h : Below wr.heap.size wr W) => HST.out A4 n4 c4 W (r4.below h) hn4')
   replace hb0 := yb hb0 hbl
   clear c7 c8 hbl r3 r4 q1
   have hS : Below wr.heap.size wr wr.drew := (Below.refl _ _).drew
   go_upto_region 8 with fail
   refine yw 11 (by kernel_rfl) ?_
   refine WpT.tk 0 hS ?_
   simp only [nrm]
   refine WpT.tl 1 rfl (yg rfl rfl rfl (by kernel_rfl) c7') hS ?_
   simp only [nrm]
   refine WpT.tk 4 hS ?_
   simp only [nrm]
   refine WpT.tk 7 hS ?_
   simp only [nrm]
   refine WpT.on 2 rfl (fun K hK => ?_)
   go_simp; refine (HE.out _ (yb hb0 hS)).mono ?_; rintro e w2 ⟨v2, rfl, o2, hb2⟩; obtain ⟨A2, n2, c2, rfl, -, -, -, r2⟩ := o2.formN; clear o2; replace hS := yb hS hb2
   refine hK _ _ hS ?_; clear hK K; try simp only [nrm]
   refine WpT.fork (i := 3) (j := 5) rfl rfl (by kernel_rfl) (fun K hK => ?_) (fun K hK => ?_)
   ·refine yx rfl yo (by kernel_rfl) (by rfl) r2 ?_
    refine hK _ _ hS ?_; clear hK K; try simp only [nrm]
    refine WpT.on 5 rfl (fun K hK => ?_)
    go_simp; refine (HR3.out _ hS).mono ?_; rintro e w5 ⟨v5, rfl, o5, hb5⟩; obtain ⟨A5, n5, c5, rfl, -, -, -, r5⟩ := o5.formN; clear o5; (try replace r2 := r2.below hb5); replace hS := yb hS hb5
    refine hK _ _ hS ?_; clear hK K; try simp only [nrm]
    refine WpT.fork (i := 6) (j := 8) rfl rfl (by kernel_rfl) (fun K hK => ?_) (fun K hK => ?_)
    ·refine yx rfl yo (by kernel_rfl) (by rfl) r5 ?_
     refine hK _ _ hS ?_; clear hK K; try simp only [nrm]
     refine WpT.on 8 rfl (fun K hK => ?_)
     go_simp; refine (HR4.out _ hS).mono ?_; rintro e w8 ⟨v8, rfl, o8, hb8⟩; obtain ⟨A8, n8, c8, rfl, -, -, -, r8⟩ := o8.formN; clear o8; (try replace r2 := r2.below hb8); (try replace r5 := r5.below hb8); replace hS := yb hS hb8
     refine hK _ _ hS ?_; clear hK K; try simp only [nrm]
     refine WpT.on 9 rfl (fun K hK => ?_)
     refine yx rfl yo (by kernel_rfl) (by rfl) r8 ?_
     refine hK _ _ hS ?_; clear hK K; try simp only [nrm]
     refine WpT.on 10 rfl (fun K hK => ?_)
     refine z22 rfl (by rfl) (by rfl) (by rfl) ?_; intro w9 g9 o9 hb9; have o9' := Own.lower o9 hS.size; replace hS := yb hS hb9
     refine hK _ _ hS ?_; clear hK K; try simp only [nrm]
     refine WpT.ta 11 rfl (fun K hK => ?_)
     go_simp; (try go_bits)
     refine hK _ _ ?_; clear hK K; try simp only [nrm]
     refine WpT.done (by kernel_rfl) ?_ _
     go_wp2_with fail; go_ret; exact ⟨_, rfl, Own.lower o9' hb0.size, yb hb0 hS⟩
    ·go_simp; refine (HR4.out _ hS).mono ?_; rintro e w8 ⟨v8, rfl, o8, hb8⟩; obtain ⟨A8, n8, c8, rfl, -, -, -, r8⟩ := o8.formN; clear o8; (try replace r2 := r2.below hb8); (try replace r5 := r5.below hb8); replace hS := yb hS hb8
     refine hK _ _ hS ?_; clear hK K; try simp only [nrm]
     refine WpT.fork (i := 6) (j := 9) rfl rfl (by kernel_rfl) (fun K hK => ?_) (fun K hK => ?_)
     ·refine yx rfl yo (by kernel_rfl) (by rfl) r5 ?_
      refine hK _ _ hS ?_; clear hK K; try simp only [nrm]
      refine WpT.on 9 rfl (fun K hK => ?_)
      refine yx rfl yo (by kernel_rfl) (by rfl) r8 ?_
      refine hK _ _ hS ?_; clear hK K; try simp only [nrm]
      refine WpT.on 10 rfl (fun K hK => ?_)
      refine z22 rfl (by rfl) (by rfl) (by rfl) ?_; intro w9 g9 o9 hb9; have o9' := Own.lower o9 hS.size; replace hS := yb hS hb9
      refine hK _ _ hS ?_; clear hK K; try simp only [nrm]
      refine WpT.ta 11 rfl (fun K hK => ?_)
      go_simp; (try go_bits)
      refine hK _ _ ?_; clear hK K; try simp only [nrm]
      refine WpT.done (by kernel_rfl) ?_ _
      go_wp2_with fail; go_ret; exact ⟨_, rfl, Own.lower o9' hb0.size, yb hb0 hS⟩
     ·refine yx rfl yo (by kernel_rfl) (by rfl) r8 ?_
      refine hK _ _ hS ?_; clear hK K; try simp only [nrm]
      refine WpT.on 6 rfl (fun K hK => ?_)
      refine yx rfl yo (by kernel_rfl) (by rfl) r5 ?_
      refine hK _ _ hS ?_; clear hK K; try simp only [nrm]
      refine WpT.on 10 rfl (fun K hK => ?_)
      refine z22 rfl (by rfl) (by rfl) (by rfl) ?_; intro w9 g9 o9 hb9; have o9' := Own.lower o9 hS.size; replace hS := yb hS hb9
      refine hK _ _ hS ?_; clear hK K; try simp only [nrm]
      refine WpT.ta 11 rfl (fun K hK => ?_)
      go_simp; (try go_bits)
      refine hK _ _ ?_; clear hK K; try simp only [nrm]
      refine WpT.done (by kernel_rfl) ?_ _
      go_wp2_with fail; go_ret; exact ⟨_, rfl, Own.lower o9' hb0.size, yb hb0 hS⟩
   ·go_simp; refine (HR3.out _ hS).mono ?_; rintro e w5 ⟨v5, rfl, o5, hb5⟩; obtain ⟨A5, n5, c5, rfl, -, -, -, r5⟩ := o5.formN; clear o5; (try replace r2 := r2.below hb5); replace hS := yb hS hb5
    refine hK _ _ hS ?_; clear hK K; try simp only [nrm]
    refine WpT.fork3 (i := 3) (j := 6) (k := 8) rfl rfl rfl (by kernel_rfl) (fun K hK => ?_) (fun K hK => ?_) (fun K hK => ?_)
    ·refine yx rfl yo (by kernel_rfl) (by rfl) r2 ?_
     refine hK _ _ hS ?_; clear hK K; try simp only [nrm]
     refine WpT.fork (i := 6) (j := 8) rfl rfl (by kernel_rfl) (fun K hK => ?_) (fun K hK => ?_)
     ·refine yx rfl yo (by kernel_rfl) (by rfl) r5 ?_
      refine hK _ _ hS ?_; clear hK K; try simp only [nrm]
      refine WpT.on 8 rfl (fun K hK => ?_)
      go_simp; refine (HR4.out _ hS).mono ?_; rintro e w8 ⟨v8, rfl, o8, hb8⟩; obtain ⟨A8, n8, c8, rfl, -, -, -, r8⟩ := o8.formN; clear o8; (try replace r2 := r2.below hb8); (try replace r5 := r5.below hb8); replace hS := yb hS hb8
      refine hK _ _ hS ?_; clear hK K; try simp only [nrm]
      refine WpT.on 9 rfl (fun K hK => ?_)
      refine yx rfl yo (by kernel_rfl) (by rfl) r8 ?_
      refine hK _ _ hS ?_; clear hK K; try simp only [nrm]
      refine WpT.on 10 rfl (fun K hK => ?_)
      refine z22 rfl (by rfl) (by rfl) (by rfl) ?_; intro w9 g9 o9 hb9; have o9' := Own.lower o9 hS.size; replace hS := yb hS hb9
      refine hK _ _ hS ?_; clear hK K; try simp only [nrm]
      refine WpT.ta 11 rfl (fun K hK => ?_)
      go_simp; (try go_bits)
      refine hK _ _ ?_; clear hK K; try simp only [nrm]
      refine WpT.done (by kernel_rfl) ?_ _
      go_wp2_with fail; go_ret; exact ⟨_, rfl, Own.lower o9' hb0.size, yb hb0 hS⟩
     ·go_simp; refine (HR4.out _ hS).mono ?_; rintro e w8 ⟨v8, rfl, o8, hb8⟩; obtain ⟨A8, n8, c8, rfl, -, -, -, r8⟩ := o8.formN; clear o8; (try replace r2 := r2.below hb8); (try replace r5 := r5.below hb8); replace hS := yb hS hb8
      refine hK _ _ hS ?_; clear hK K; try simp only [nrm]
      refine WpT.fork (i := 6) (j := 9) rfl rfl (by kernel_rfl) (fun K hK => ?_) (fun K hK => ?_)
      ·refine yx rfl yo (by kernel_rfl) (by rfl) r5 ?_
       refine hK _ _ hS ?_; clear hK K; try simp only [nrm]
       refine WpT.on 9 rfl (fun K hK => ?_)
       refine yx rfl yo (by kernel_rfl) (by rfl) r8 ?_
       refine hK _ _ hS ?_; clear hK K; try simp only [nrm]
       refine WpT.on 10 rfl (fun K hK => ?_)
       refine z22 rfl (by rfl) (by rfl) (by rfl) ?_; intro w9 g9 o9 hb9; have o9' := Own.lower o9 hS.size; replace hS := yb hS hb9
       refine hK _ _ hS ?_; clear hK K; try simp only [nrm]
       refine WpT.ta 11 rfl (fun K hK => ?_)
       go_simp; (try go_bits)
       refine hK _ _ ?_; clear hK K; try simp only [nrm]
       refine WpT.done (by kernel_rfl) ?_ _
       go_wp2_with fail; go_ret; exact ⟨_, rfl, Own.lower o9' hb0.size, yb hb0 hS⟩
      ·refine yx rfl yo (by kernel_rfl) (by rfl) r8 ?_
       refine hK _ _ hS ?_; clear hK K; try simp only [nrm]
       refine WpT.on 6 rfl (fun K hK => ?_)
       refine yx rfl yo (by kernel_rfl) (by rfl) r5 ?_
       refine hK _ _ hS ?_; clear hK K; try simp only [nrm]
       refine WpT.on 10 rfl (fun K hK => ?_)
       refine z22 rfl (by rfl) (by rfl) (by rfl) ?_; intro w9 g9 o9 hb9; have o9' := Own.lower o9 hS.size; replace hS := yb hS hb9
       refine hK _ _ hS ?_; clear hK K; try simp only [nrm]
       refine WpT.ta 11 rfl (fun K hK => ?_)
       go_simp; (try go_bits)
       refine hK _ _ ?_; clear hK K; try simp only [nrm]
       refine WpT.done (by kernel_rfl) ?_ _
       go_wp2_with fail; go_ret; exact ⟨_, rfl, Own.lower o9' hb0.size, yb hb0 hS⟩
    ·refine yx rfl yo (by kernel_rfl) (by rfl) r5 ?_
     refine hK _ _ hS ?_; clear hK K; try simp only [nrm]
     refine WpT.fork (i := 3) (j := 8) rfl rfl (by kernel_rfl) (fun K hK => ?_) (fun K hK => ?_)
     ·refine yx rfl yo (by kernel_rfl) (by rfl) r2 ?_
      refine hK _ _ hS ?_; clear hK K; try simp only [nrm]
      refine WpT.on 8 rfl (fun K hK => ?_)
      go_simp; refine (HR4.out _ hS).mono ?_; rintro e w8 ⟨v8, rfl, o8, hb8⟩; obtain ⟨A8, n8, c8, rfl, -, -, -, r8⟩ := o8.formN; clear o8; (try replace r2 := r2.below hb8); (try replace r5 := r5.below hb8); replace hS := yb hS hb8
      refine hK _ _ hS ?_; clear hK K; try simp only [nrm]
      refine WpT.on 9 rfl (fun K hK => ?_)
      refine yx rfl yo (by kernel_rfl) (by rfl) r8 ?_
      refine hK _ _ hS ?_; clear hK K; try simp only [nrm]
      refine WpT.on 10 rfl (fun K hK => ?_)
      refine z22 rfl (by rfl) (by rfl) (by rfl) ?_; intro w9 g9 o9 hb9; have o9' := Own.lower o9 hS.size; replace hS := yb hS hb9
      refine hK _ _ hS ?_; clear hK K; try simp only [nrm]
      refine WpT.ta 11 rfl (fun K hK => ?_)
      go_simp; (try go_bits)
      refine hK _ _ ?_; clear hK K; try simp only [nrm]
      refine WpT.done (by kernel_rfl) ?_ _
      go_wp2_with fail; go_ret; exact ⟨_, rfl, Own.lower o9' hb0.size, yb hb0 hS⟩
     ·go_simp; refine (HR4.out _ hS).mono ?_; rintro e w8 ⟨v8, rfl, o8, hb8⟩; obtain ⟨A8, n8, c8, rfl, -, -, -, r8⟩ := o8.formN; clear o8; (try replace r2 := r2.below hb8); (try replace r5 := r5.below hb8); replace hS := yb hS hb8
      refine hK _ _ hS ?_; clear hK K; try simp only [nrm]
      refine WpT.fork (i := 3) (j := 9) rfl rfl (by kernel_rfl) (fun K hK => ?_) (fun K hK => ?_)
      ·refine yx rfl yo (by kernel_rfl) (by rfl) r2 ?_
       refine hK _ _ hS ?_; clear hK K; try simp only [nrm]
       refine WpT.on 9 rfl (fun K hK => ?_)
       refine yx rfl yo (by kernel_rfl) (by rfl) r8 ?_
       refine hK _ _ hS ?_; clear hK K; try simp only [nrm]
       refine WpT.on 10 rfl (fun K hK => ?_)
       refine z22 rfl (by rfl) (by rfl) (by rfl) ?_; intro w9 g9 o9 hb9; have o9' := Own.lower o9 hS.size; replace hS := yb hS hb9
       refine hK _ _ hS ?_; clear hK K; try simp only [nrm]
       refine WpT.ta 11 rfl (fun K hK => ?_)
       go_simp; (try go_bits)
       refine hK _ _ ?_; clear hK K; try simp only [nrm]
       refine WpT.done (by kernel_rfl) ?_ _
       go_wp2_with fail; go_ret; exact ⟨_, rfl, Own.lower o9' hb0.size, yb hb0 hS⟩
      ·refine yx rfl yo (by kernel_rfl) (by rfl) r8 ?_
       refine hK _ _ hS ?_; clear hK K; try simp only [nrm]
       refine WpT.on 3 rfl (fun K hK => ?_)
       refine yx rfl yo (by kernel_rfl) (by rfl) r2 ?_
       refine hK _ _ hS ?_; clear hK K; try simp only [nrm]
       refine WpT.on 10 rfl (fun K hK => ?_)
       refine z22 rfl (by rfl) (by rfl) (by rfl) ?_; intro w9 g9 o9 hb9; have o9' := Own.lower o9 hS.size; replace hS := yb hS hb9
       refine hK _ _ hS ?_; clear hK K; try simp only [nrm]
       refine WpT.ta 11 rfl (fun K hK => ?_)
       go_simp; (try go_bits)
       refine hK _ _ ?_; clear hK K; try simp only [nrm]
       refine WpT.done (by kernel_rfl) ?_ _
       go_wp2_with fail; go_ret; exact ⟨_, rfl, Own.lower o9' hb0.size, yb hb0 hS⟩
    ·go_simp; refine (HR4.out _ hS).mono ?_; rintro e w8 ⟨v8, rfl, o8, hb8⟩; obtain ⟨A8, n8, c8, rfl, -, -, -, r8⟩ := o8.formN; clear o8; (try replace r2 := r2.below hb8); (try replace r5 := r5.below hb8); replace hS := yb hS hb8
     refine hK _ _ hS ?_; clear hK K; try simp only [nrm]
     refine WpT.fork3 (i := 3) (j := 6) (k := 9) rfl rfl rfl (by kernel_rfl) (fun K hK => ?_) (fun K hK => ?_) (fun K hK => ?_)
     ·refine yx rfl yo (by kernel_rfl) (by rfl) r2 ?_
      refine hK _ _ hS ?_; clear hK K; try simp only [nrm]
      refine WpT.fork (i := 6) (j := 9) rfl rfl (by kernel_rfl) (fun K hK => ?_) (fun K hK => ?_)
      ·refine yx rfl yo (by kernel_rfl) (by rfl) r5 ?_
       refine hK _ _ hS ?_; clear hK K; try simp only [nrm]
       refine WpT.on 9 rfl (fun K hK => ?_)
       refine yx rfl yo (by kernel_rfl) (by rfl) r8 ?_
       refine hK _ _ hS ?_; clear hK K; try simp only [nrm]
       refine WpT.on 10 rfl (fun K hK => ?_)
       refine z22 rfl (by rfl) (by rfl) (by rfl) ?_; intro w9 g9 o9 hb9; have o9' := Own.lower o9 hS.size; replace hS := yb hS hb9
       refine hK _ _ hS ?_; clear hK K; try simp only [nrm]
       refine WpT.ta 11 rfl (fun K hK => ?_)
       go_simp; (try go_bits)
       refine hK _ _ ?_; clear hK K; try simp only [nrm]
       refine WpT.done (by kernel_rfl) ?_ _
       go_wp2_with fail; go_ret; exact ⟨_, rfl, Own.lower o9' hb0.size, yb hb0 hS⟩
      ·refine yx rfl yo (by kernel_rfl) (by rfl) r8 ?_
       refine hK _ _ hS ?_; clear hK K; try simp only [nrm]
       refine WpT.on 6 rfl (fun K hK => ?_)
       refine yx rfl yo (by kernel_rfl) (by rfl) r5 ?_
       refine hK _ _ hS ?_; clear hK K; try simp only [nrm]
       refine WpT.on 10 rfl (fun K hK => ?_)
       refine z22 rfl (by rfl) (by rfl) (by rfl) ?_; intro w9 g9 o9 hb9; have o9' := Own.lower o9 hS.size; replace hS := yb hS hb9
       refine hK _ _ hS ?_; clear hK K; try simp only [nrm]
       refine WpT.ta 11 rfl (fun K hK => ?_)
       go_simp; (try go_bits)
       refine hK _ _ ?_; clear hK K; try simp only [nrm]
       refine WpT.done (by kernel_rfl) ?_ _
       go_wp2_with fail; go_ret; exact ⟨_, rfl, Own.lower o9' hb0.size, yb hb0 hS⟩
     ·refine yx rfl yo (by kernel_rfl) (by rfl) r5 ?_
      refine hK _ _ hS ?_; clear hK K; try simp only [nrm]
      refine WpT.fork (i := 3) (j := 9) rfl rfl (by kernel_rfl) (fun K hK => ?_) (fun K hK => ?_)
      ·refine yx rfl yo (by kernel_rfl) (by rfl) r2 ?_
       refine hK _ _ hS ?_; clear hK K; try simp only [nrm]
       refine WpT.on 9 rfl (fun K hK => ?_)
       refine yx rfl yo (by kernel_rfl) (by rfl) r8 ?_
       refine hK _ _ hS ?_; clear hK K; try simp only [nrm]
       refine WpT.on 10 rfl (fun K hK => ?_)
       refine z22 rfl (by rfl) (by rfl) (by rfl) ?_; intro w9 g9 o9 hb9; have o9' := Own.lower o9 hS.size; replace hS := yb hS hb9
       refine hK _ _ hS ?_; clear hK K; try simp only [nrm]
       refine WpT.ta 11 rfl (fun K hK => ?_)
       go_simp; (try go_bits)
       refine hK _ _ ?_; clear hK K; try simp only [nrm]
       refine WpT.done (by kernel_rfl) ?_ _
       go_wp2_with fail; go_ret; exact ⟨_, rfl, Own.lower o9' hb0.size, yb hb0 hS⟩
      ·refine yx rfl yo (by kernel_rfl) (by rfl) r8 ?_
       refine hK _ _ hS ?_; clear hK K; try simp only [nrm]
       refine WpT.on 3 rfl (fun K hK => ?_)
       refine yx rfl yo (by kernel_rfl) (by rfl) r2 ?_
       refine hK _ _ hS ?_; clear hK K; try simp only [nrm]
       refine WpT.on 10 rfl (fun K hK => ?_)
       refine z22 rfl (by rfl) (by rfl) (by rfl) ?_; intro w9 g9 o9 hb9; have o9' := Own.lower o9 hS.size; replace hS := yb hS hb9
       refine hK _ _ hS ?_; clear hK K; try simp only [nrm]
       refine WpT.ta 11 rfl (fun K hK => ?_)
       go_simp; (try go_bits)
       refine hK _ _ ?_; clear hK K; try simp only [nrm]
       refine WpT.done (by kernel_rfl) ?_ _
       go_wp2_with fail; go_ret; exact ⟨_, rfl, Own.lower o9' hb0.size, yb hb0 hS⟩
     ·refine yx rfl yo (by kernel_rfl) (by rfl) r8 ?_
      refine hK _ _ hS ?_; clear hK K; try simp only [nrm]
      refine WpT.fork (i := 3) (j := 6) rfl rfl (by kernel_rfl) (fun K hK => ?_) (fun K hK => ?_)
      ·refine yx rfl yo (by kernel_rfl) (by rfl) r2 ?_
       refine hK _ _ hS ?_; clear hK K; try simp only [nrm]
       refine WpT.on 6 rfl (fun K hK => ?_)
       refine yx rfl yo (by kernel_rfl) (by rfl) r5 ?_
       refine hK _ _ hS ?_; clear hK K; try simp only [nrm]
       refine WpT.on 10 rfl (fun K hK => ?_)
       refine z22 rfl (by rfl) (by rfl) (by rfl) ?_; intro w9 g9 o9 hb9; have o9' := Own.lower o9 hS.size; replace hS := yb hS hb9
       refine hK _ _ hS ?_; clear hK K; try simp only [nrm]
       refine WpT.ta 11 rfl (fun K hK => ?_)
       go_simp; (try go_bits)
       refine hK _ _ ?_; clear hK K; try simp only [nrm]
       refine WpT.done (by kernel_rfl) ?_ _
       go_wp2_with fail; go_ret; exact ⟨_, rfl, Own.lower o9' hb0.size, yb hb0 hS⟩
      ·refine yx rfl yo (by kernel_rfl) (by rfl) r5 ?_
       refine hK _ _ hS ?_; clear hK K; try simp only [nrm]
       refine WpT.on 3 rfl (fun K hK => ?_)
       refine yx rfl yo (by kernel_rfl) (by rfl) r2 ?_
       refine hK _ _ hS ?_; clear hK K; try simp only [nrm]
       refine WpT.on 10 rfl (fun K hK => ?_)
       refine z22 rfl (by rfl) (by rfl) (by rfl) ?_; intro w9 g9 o9 hb9; have o9' := Own.lower o9 hS.size; replace hS := yb hS hb9
       refine hK _ _ hS ?_; clear hK K; try simp only [nrm]
       refine WpT.ta 11 rfl (fun K hK => ?_)
       go_simp; (try go_bits)
       refine hK _ _ ?_; clear hK K; try simp only [nrm]
       refine WpT.done (by kernel_rfl) ?_ _
       go_wp2_with fail; go_ret; exact ⟨_, rfl, Own.lower o9' hb0.size, yb hb0 hS⟩
end
end Go.Proofs.YtcapckngikekpaaGreatDoor
