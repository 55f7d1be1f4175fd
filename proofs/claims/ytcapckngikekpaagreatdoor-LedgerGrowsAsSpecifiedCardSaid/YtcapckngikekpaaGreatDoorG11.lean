/-
  Known of the functions of this seat's laws, joined. Conditions: each theorem's own.
-/
import Derived.Test.YtcapckngikekpaaGreatDoorG10
namespace Go.Proofs.YtcapckngikekpaaGreatDoor
set_option linter.unusedSimpArgs false
set_option linter.unusedVariables false
set_option maxRecDepth 100000
set_option maxHeartbeats 16000000
section
open Go.RowKit Exch Merk Ring
theorem zwp {P : Program} {o : Oper} {a : Act} {w : World} {K : Act → World → Prop} {Q : Exit → Act → World → Prop} {t : TypeId} {x : Operand} {p : Addr} {v : Value} (ho : o.op = .load t x) (ha : a.eval x = .pointer (some p))
  (hu : (P.underlying t).map z0g = some false) (hc : w.cell? p = some v) (h : K (a.put o.dst v) w) : o.wp P a w K Q := by
 unfold Oper.wp execOp
 simp only [ho, ha, Instr.loadAt, Instr.sureAddr, Sem.run_bind, Sem.run_pure, Result.andThen_ok, za0 w p t v hu hc]
 exact h
def Tk (g : Nat) (w0 W : World) : Prop := ∃ W1, Below w0.heap.size w0 W1 ∧ (W = W1 ∨ z0y g W1 W)
theorem Tk.of {g : Nat} {w0 W : World} (h : Below w0.heap.size w0 W) : Tk g w0 W := ⟨W, h, .inl rfl⟩
theorem Tk.turn {g : Nat} {w0 W W' : World} (h : Below w0.heap.size w0 W) (ht : z0y g W W') : Tk g w0 W' := ⟨W, h, .inr ht⟩
theorem Tk.blk {g : Nat} {w0 W : World} (h : Tk g w0 W) {k : Nat} {T : TypeId} {cs : Array Value} (hb : Blk w0 k T cs) (hk : k ≠ g) : Blk W k T cs := by
 obtain ⟨W1, h1, rfl | h2⟩ := h
 ·exact hb.below h1
 ·exact h2.blk (hb.below h1) hk
theorem z0y.step {g : Nat} {w w1 w2 : World} (h : z0y g w w1) (h2 : z0y g w1 w2) : z0y g w w2 :=
 ⟨fun B hB => (h.below B hB).trans (h2.below B hB), h2.size.trans h.size, fun k hk => (h2.far k hk).trans (h.far k hk)⟩
theorem z4b {α : Type} {f : α → List Value} (hf : ∀ x, ∀ u ∈ f x, u.oneCell' = true) (l : List α) : ∀ u ∈ l.flatMap f, u.oneCell' = true := by
 intro u hu
 obtain ⟨x, -, hx⟩ := List.mem_flatMap.1 hu
 exact hf x u hx
theorem z1y : z7g Tryz.prog 36 27 25 := by
 obtain ⟨i, h1, h2, h3, h4⟩ := info_parts (show (Tryz.prog.info? 27).map (fun i => (i.zero, i.size, i.bytes)) = some (some (evV z8s), 25, 120) by kernel_rfl)
 exact ⟨by kernel_rfl, ⟨i, _, h1, h2, h3, by omega, by rw [show (evV z8s).cells = evC z8s from rfl, z4k]⟩, by omega⟩
theorem zot (A : Option Addr) (n c : Nat) (xs : List Value) (w : World) (hr : Rd w A (n * 25) xs) (h1 : ∀ u ∈ xs, u.oneCell' = true) (hn : n ≤ 4294967296) :
  Calls Tryz.prog 120 #[.slice A n c] w fun e w' => ∃ v, e = .returned v ∧ w'.ownsRow w.heap.size 27 25 v n xs ∧ Below w.heap.size w w' := by
 have q : ∀ (w : World) (a : Option Addr) (n c n' c' : Nat), (binOp .eql 36 (.slice a n c) (.slice none n' c')).run Tryz.prog w = .ok (.bool a.isNone) w := fun w a n c n' c' => Lib.run_eql_slice_nil w _ 27 a n c n' c' (by kernel_rfl)
 rcases A with _ | ad
 ·obtain ⟨h0, hxs⟩ := zde hr
  have hl : n = 0 := by omega
  subst hl
  subst hxs
  clear hr h1
  go_enter Tryz.func120, Tryz.ntmps120
  go_wp2
  go_ret
  exact ⟨_, rfl, World.ownsRow_nil _ _ _ _, Below.refl _ _⟩
 ·have ho : (w.alloc (.cells #[] 27)).ownsRow w.heap.size 27 25 (.slice (some ⟨w.heap.size, 0, none⟩) 0 0) 0 [] := World.ownsRow_made w #[] 0 (Nat.le_refl _) (Nat.zero_le _) rfl
  have hb0 := (Below.refl w.heap.size w).alloc (Nat.le_refl _) (.cells #[] 27)
  have HR := ya hr
  have H1 := ya h1
  clear hr h1
  go_enter Tryz.func120, Tryz.ntmps120
  go_wp2_with (at_builtin; refine z8p rfl rfl z1y rfl ho rfl (HR.out.below hb0) H1.out (by omega) (by simp) ?_; intro v' w' hown _ hbel)
  go_ret
  rw [Nat.zero_add, List.nil_append] at hown
  exact ⟨_, rfl, hown, hb0.trans hbel⟩
theorem zoq (A : Option Addr) (n c : Nat) (w : World) (hc : n ≤ c) :
  Calls Tryz.prog 119 #[.slice A n c] w fun e w' => e = .returned (.slice A n n) ∧ w' = w := by
 go_enter Tryz.func119, Tryz.ntmps119
 go_wp2_with fail
 go_ret
 exact ⟨rfl, rfl⟩
theorem zhc (x : EvR) (W : World) : (Instr.buildSlice 36 1 #[(0, evV x)]).run Tryz.prog W = .ok (.slice (some ⟨W.heap.size, 0, none⟩) 1 1) (W.alloc (.cells (evL x).toArray 27)) := by kernel_rfl
theorem zgh {w : World} {o : Oper} {a : Act} {K : Act → World → Prop} {Q : Exit → Act → World → Prop} {y : Operand} {x : EvR} (ho : o.op = .buildSlice 36 1 #[(0, y)]) (hy : a.eval y = evV x)
  (h : ∀ w' g, Rd w' (some ⟨g, 0, none⟩) (1 * 25) (evL x) → Below w.heap.size w w' → K (a.put o.dst (.slice (some ⟨g, 0, none⟩) 1 1)) w') : o.wp Tryz.prog a w K Q := by
 have hbd := zhc x w
 have hlen := z2j x
 have hr := z56 (Blk.new w 27 (evL x).toArray)
 rw [hlen] at hr
 have h2 := h _ _ (by rw [Nat.one_mul]; exact hr) ((Below.refl _ _).alloc (Nat.le_refl _) _)
 clear h hr
 generalize evV x = V at *
 generalize evL x = LL at *
 unfold Oper.wp execOp
 simp only [ho, List.map_toArray, List.map_cons, List.map_nil, hy, hbd, Sem.run_bind, Result.andThen_ok, Sem.run_pure]
 exact h2
theorem zr6 (A : Option Addr) (n c : Nat) (xs : List Value) (x : EvR) (w : World) (hr : Rd w A (n * 25) xs) (h1 : ∀ u ∈ xs, u.oneCell' = true) (hn : n ≤ 1000000) :
  Calls Tryz.prog 72 #[.slice A n c, evV x] w fun e w' => ∃ A' c', e = .returned (.slice A' (n + 1) c') ∧ w'.ownsRow w.heap.size 27 25 (.slice A' (n + 1) c') (n + 1) (xs ++ evL x) ∧ n + 1 ≤ c' ∧ c' ≤ maxLen ∧ Below w.heap.size w w' := by
 obtain ⟨wa, hwa, hb0, q1⟩ := zaz w x
 have HWA := ya hwa
 have hcx := yz (xs := evL x) q1
 have HCL := ya (fun W (h : Below w.heap.size w W) => zot A n c xs W (hr.below h) h1 (by omega))
 have HCP := ya (fun A c W (h : n ≤ c) => zoq A n c W h)
 have H1 := ya h1
 have H2 := ya (z26 x)
 have hl := z2j x
 clear hwa q1 hr h1
 go_enter Tryz.func72, Tryz.ntmps72
 go_upto_region 1 with fail
 change Code.wp _ _ _ _ (w.alloc (.cells (evC x) 27))
 rw [← HWA.out]
 have hS : Below wa.heap.size wa wa.drew := (Below.refl _ _).drew
 refine yw 6 (by kernel_rfl) ?_
 refine WpT.tk 0 hS ?_
 simp only [nrm]
 refine WpT.tl 3 rfl (z06 (us := evL x) rfl rfl rfl z1q (by rw [z1f, hl]) hcx) hS ?_
 simp only [nrm]
 refine WpT.fork (i := 1) (j := 4) rfl rfl (by kernel_rfl) (fun K hK => ?_) (fun K hK => ?_)
 ·go_simp; refine (HCL.out _ (yb hb0 hS)).mono ?_; rintro e w4 ⟨v4, rfl, o4, hb4⟩; obtain ⟨A4, c4, rfl, n4, m4, r4⟩ := z21 o4; clear o4; (try replace rq := rq.below hb4); replace hS := yb hS hb4
  refine hK _ _ hS ?_; clear hK K; try simp only [nrm]
  refine WpT.fork (i := 2) (j := 4) rfl rfl (by kernel_rfl) (fun K hK => ?_) (fun K hK => ?_)
  ·go_simp; refine (HCP.out _ _ _ n4).mono ?_; rintro e w5 ⟨rfl, hw5⟩; subst hw5
   refine hK _ _ hS ?_; clear hK K; try simp only [nrm]
   refine WpT.on 4 rfl (fun K hK => ?_)
   refine zgh rfl (by rfl) ?_; intro w6 g6 rq hb6; (try replace r4 := r4.below hb6); replace hS := yb hS hb6
   refine hK _ _ hS ?_; clear hK K; try simp only [nrm]
   refine WpT.on 5 rfl (fun K hK => ?_)
   refine zac rfl z1y (by rfl) r4 (by rfl) (m := 1) rq H2.out (by omega) (by omega) ?_; intro v7 w7 o7 hb7; have o8 := z4c o7 (yb hb0 hS).size; clear o7; obtain ⟨A8, c8, rfl, n8, m8, r8⟩ := z21 o8; replace hS := yb hS hb7
   refine hK _ _ hS ?_; clear hK K; try simp only [nrm]
   refine WpT.ta 6 rfl (fun K hK => ?_)
   go_simp; (try go_bits)
   refine hK _ _ ?_; clear hK K; try simp only [nrm]
   refine WpT.done (by kernel_rfl) ?_ _
   go_wp2_with fail; go_ret; exact ⟨A8, c8, rfl, o8, n8, m8, yb hb0 hS⟩
  ·refine zgh rfl (by rfl) ?_; intro w6 g6 rq hb6; (try replace r4 := r4.below hb6); replace hS := yb hS hb6
   refine hK _ _ hS ?_; clear hK K; try simp only [nrm]
   refine WpT.on 2 rfl (fun K hK => ?_)
   go_simp; refine (HCP.out _ _ _ n4).mono ?_; rintro e w5 ⟨rfl, hw5⟩; subst hw5
   refine hK _ _ hS ?_; clear hK K; try simp only [nrm]
   refine WpT.on 5 rfl (fun K hK => ?_)
   refine zac rfl z1y (by rfl) r4 (by rfl) (m := 1) rq H2.out (by omega) (by omega) ?_; intro v7 w7 o7 hb7; have o8 := z4c o7 (yb hb0 hS).size; clear o7; obtain ⟨A8, c8, rfl, n8, m8, r8⟩ := z21 o8; replace hS := yb hS hb7
   refine hK _ _ hS ?_; clear hK K; try simp only [nrm]
   refine WpT.ta 6 rfl (fun K hK => ?_)
   go_simp; (try go_bits)
   refine hK _ _ ?_; clear hK K; try simp only [nrm]
   refine WpT.done (by kernel_rfl) ?_ _
   go_wp2_with fail; go_ret; exact ⟨A8, c8, rfl, o8, n8, m8, yb hb0 hS⟩
 ·refine zgh rfl (by rfl) ?_; intro w6 g6 rq hb6; (try replace r4 := r4.below hb6); replace hS := yb hS hb6
  refine hK _ _ hS ?_; clear hK K; try simp only [nrm]
  refine WpT.on 1 rfl (fun K hK => ?_)
  go_simp; refine (HCL.out _ (yb hb0 hS)).mono ?_; rintro e w4 ⟨v4, rfl, o4, hb4⟩; obtain ⟨A4, c4, rfl, n4, m4, r4⟩ := z21 o4; clear o4; (try replace rq := rq.below hb4); replace hS := yb hS hb4
  refine hK _ _ hS ?_; clear hK K; try simp only [nrm]
  refine WpT.on 2 rfl (fun K hK => ?_)
  go_simp; refine (HCP.out _ _ _ n4).mono ?_; rintro e w5 ⟨rfl, hw5⟩; subst hw5
  refine hK _ _ hS ?_; clear hK K; try simp only [nrm]
  refine WpT.on 5 rfl (fun K hK => ?_)
  refine zac rfl z1y (by rfl) r4 (by rfl) (m := 1) rq H2.out (by omega) (by omega) ?_; intro v7 w7 o7 hb7; have o8 := z4c o7 (yb hb0 hS).size; clear o7; obtain ⟨A8, c8, rfl, n8, m8, r8⟩ := z21 o8; replace hS := yb hS hb7
  refine hK _ _ hS ?_; clear hK K; try simp only [nrm]
  refine WpT.ta 6 rfl (fun K hK => ?_)
  go_simp; (try go_bits)
  refine hK _ _ ?_; clear hK K; try simp only [nrm]
  refine WpT.done (by kernel_rfl) ?_ _
  go_wp2_with fail; go_ret; exact ⟨A8, c8, rfl, o8, n8, m8, yb hb0 hS⟩
theorem z6e : z7g Tryz.prog 40 51 36 := by
 obtain ⟨i, h1, h2, h3, h4⟩ := info_parts (show (Tryz.prog.info? 51).map (fun i => (i.zero, i.size, i.bytes)) = some (some (hdV z0h), 36, 64) by kernel_rfl)
 exact ⟨by kernel_rfl, ⟨i, _, h1, h2, h3, by omega, by rw [show (hdV z0h).cells = hdC z0h from rfl, z40]⟩, by omega⟩
theorem zou (A : Option Addr) (n c : Nat) (xs : List Value) (w : World) (hr : Rd w A (n * 36) xs) (h1 : ∀ u ∈ xs, u.oneCell' = true) (hn : n ≤ 4294967296) :
  Calls Tryz.prog 123 #[.slice A n c] w fun e w' => ∃ v, e = .returned v ∧ w'.ownsRow w.heap.size 51 36 v n xs ∧ Below w.heap.size w w' := by
 have q : ∀ (w : World) (a : Option Addr) (n c n' c' : Nat), (binOp .eql 40 (.slice a n c) (.slice none n' c')).run Tryz.prog w = .ok (.bool a.isNone) w := fun w a n c n' c' => Lib.run_eql_slice_nil w _ 51 a n c n' c' (by kernel_rfl)
 rcases A with _ | ad
 ·obtain ⟨h0, hxs⟩ := zde hr
  have hl : n = 0 := by omega
  subst hl
  subst hxs
  clear hr h1
  go_enter Tryz.func123, Tryz.ntmps123
  go_wp2
  go_ret
  exact ⟨_, rfl, World.ownsRow_nil _ _ _ _, Below.refl _ _⟩
 ·have ho : (w.alloc (.cells #[] 51)).ownsRow w.heap.size 51 36 (.slice (some ⟨w.heap.size, 0, none⟩) 0 0) 0 [] := World.ownsRow_made w #[] 0 (Nat.le_refl _) (Nat.zero_le _) rfl
  have hb0 := (Below.refl w.heap.size w).alloc (Nat.le_refl _) (.cells #[] 51)
  have HR := ya hr
  have H1 := ya h1
  clear hr h1
  go_enter Tryz.func123, Tryz.ntmps123
  go_wp2_with (at_builtin; refine z8p rfl rfl z6e rfl ho rfl (HR.out.below hb0) H1.out (by omega) (by simp) ?_; intro v' w' hown _ hbel)
  go_ret
  rw [Nat.zero_add, List.nil_append] at hown
  exact ⟨_, rfl, hown, hb0.trans hbel⟩
theorem zor (A : Option Addr) (n c : Nat) (w : World) (hc : n ≤ c) :
  Calls Tryz.prog 122 #[.slice A n c] w fun e w' => e = .returned (.slice A n n) ∧ w' = w := by
 go_enter Tryz.func122, Tryz.ntmps122
 go_wp2_with fail
 go_ret
 exact ⟨rfl, rfl⟩
theorem zhd (x : Hd) (W : World) : (Instr.buildSlice 40 1 #[(0, hdV x)]).run Tryz.prog W = .ok (.slice (some ⟨W.heap.size, 0, none⟩) 1 1) (W.alloc (.cells (hdL x).toArray 51)) := by kernel_rfl
theorem zgi {w : World} {o : Oper} {a : Act} {K : Act → World → Prop} {Q : Exit → Act → World → Prop} {y : Operand} {x : Hd} (ho : o.op = .buildSlice 40 1 #[(0, y)]) (hy : a.eval y = hdV x)
  (h : ∀ w' g, Rd w' (some ⟨g, 0, none⟩) (1 * 36) (hdL x) → Below w.heap.size w w' → K (a.put o.dst (.slice (some ⟨g, 0, none⟩) 1 1)) w') : o.wp Tryz.prog a w K Q := by
 have hbd := zhd x w
 have hlen := z1s x
 have hr := z56 (Blk.new w 51 (hdL x).toArray)
 rw [hlen] at hr
 have h2 := h _ _ (by rw [Nat.one_mul]; exact hr) ((Below.refl _ _).alloc (Nat.le_refl _) _)
 clear h hr
 generalize hdV x = V at *
 generalize hdL x = LL at *
 unfold Oper.wp execOp
 simp only [ho, List.map_toArray, List.map_cons, List.map_nil, hy, hbd, Sem.run_bind, Result.andThen_ok, Sem.run_pure]
 exact h2
theorem zr7 (A : Option Addr) (n c : Nat) (xs : List Value) (x : Hd) (w : World) (hr : Rd w A (n * 36) xs) (h1 : ∀ u ∈ xs, u.oneCell' = true) (hn : n ≤ 1000000) :
  Calls Tryz.prog 78 #[.slice A n c, hdV x] w fun e w' => ∃ A' c', e = .returned (.slice A' (n + 1) c') ∧ w'.ownsRow w.heap.size 51 36 (.slice A' (n + 1) c') (n + 1) (xs ++ hdL x) ∧ n + 1 ≤ c' ∧ c' ≤ maxLen ∧ Below w.heap.size w w' := by
 obtain ⟨wa, hwa, hb0, q1⟩ := z8c w x
 have HWA := ya hwa
 have hcx := yz (xs := hdL x) q1
 have HCL := ya (fun W (h : Below w.heap.size w W) => zou A n c xs W (hr.below h) h1 (by omega))
 have HCP := ya (fun A c W (h : n ≤ c) => zor A n c W h)
 have H1 := ya h1
 have H2 := ya (z63 x)
 have hl := z1s x
 clear hwa q1 hr h1
 go_enter Tryz.func78, Tryz.ntmps78
 go_upto_region 1 with fail
 change Code.wp _ _ _ _ (w.alloc (.cells (hdC x) 51))
 rw [← HWA.out]
 have hS : Below wa.heap.size wa wa.drew := (Below.refl _ _).drew
 refine yw 6 (by kernel_rfl) ?_
 refine WpT.tk 0 hS ?_
 simp only [nrm]
 refine WpT.tl 3 rfl (z06 (us := hdL x) rfl rfl rfl z0a (by rw [z00, hl]) hcx) hS ?_
 simp only [nrm]
 refine WpT.fork (i := 1) (j := 4) rfl rfl (by kernel_rfl) (fun K hK => ?_) (fun K hK => ?_)
 ·go_simp; refine (HCL.out _ (yb hb0 hS)).mono ?_; rintro e w4 ⟨v4, rfl, o4, hb4⟩; obtain ⟨A4, c4, rfl, n4, m4, r4⟩ := z21 o4; clear o4; (try replace rq := rq.below hb4); replace hS := yb hS hb4
  refine hK _ _ hS ?_; clear hK K; try simp only [nrm]
  refine WpT.fork (i := 2) (j := 4) rfl rfl (by kernel_rfl) (fun K hK => ?_) (fun K hK => ?_)
  ·go_simp; refine (HCP.out _ _ _ n4).mono ?_; rintro e w5 ⟨rfl, hw5⟩; subst hw5
   refine hK _ _ hS ?_; clear hK K; try simp only [nrm]
   refine WpT.on 4 rfl (fun K hK => ?_)
   refine zgi rfl (by rfl) ?_; intro w6 g6 rq hb6; (try replace r4 := r4.below hb6); replace hS := yb hS hb6
   refine hK _ _ hS ?_; clear hK K; try simp only [nrm]
   refine WpT.on 5 rfl (fun K hK => ?_)
   refine zac rfl z6e (by rfl) r4 (by rfl) (m := 1) rq H2.out (by omega) (by omega) ?_; intro v7 w7 o7 hb7; have o8 := z4c o7 (yb hb0 hS).size; clear o7; obtain ⟨A8, c8, rfl, n8, m8, r8⟩ := z21 o8; replace hS := yb hS hb7
   refine hK _ _ hS ?_; clear hK K; try simp only [nrm]
   refine WpT.ta 6 rfl (fun K hK => ?_)
   go_simp; (try go_bits)
   refine hK _ _ ?_; clear hK K; try simp only [nrm]
   refine WpT.done (by kernel_rfl) ?_ _
   go_wp2_with fail; go_ret; exact ⟨A8, c8, rfl, o8, n8, m8, yb hb0 hS⟩
  ·refine zgi rfl (by rfl) ?_; intro w6 g6 rq hb6; (try replace r4 := r4.below hb6); replace hS := yb hS hb6
   refine hK _ _ hS ?_; clear hK K; try simp only [nrm]
   refine WpT.on 2 rfl (fun K hK => ?_)
   go_simp; refine (HCP.out _ _ _ n4).mono ?_; rintro e w5 ⟨rfl, hw5⟩; subst hw5
   refine hK _ _ hS ?_; clear hK K; try simp only [nrm]
   refine WpT.on 5 rfl (fun K hK => ?_)
   refine zac rfl z6e (by rfl) r4 (by rfl) (m := 1) rq H2.out (by omega) (by omega) ?_; intro v7 w7 o7 hb7; have o8 := z4c o7 (yb hb0 hS).size; clear o7; obtain ⟨A8, c8, rfl, n8, m8, r8⟩ := z21 o8; replace hS := yb hS hb7
   refine hK _ _ hS ?_; clear hK K; try simp only [nrm]
   refine WpT.ta 6 rfl (fun K hK => ?_)
   go_simp; (try go_bits)
   refine hK _ _ ?_; clear hK K; try simp only [nrm]
   refine WpT.done (by kernel_rfl) ?_ _
   go_wp2_with fail; go_ret; exact ⟨A8, c8, rfl, o8, n8, m8, yb hb0 hS⟩
 ·refine zgi rfl (by rfl) ?_; intro w6 g6 rq hb6; (try replace r4 := r4.below hb6); replace hS := yb hS hb6
  refine hK _ _ hS ?_; clear hK K; try simp only [nrm]
  refine WpT.on 1 rfl (fun K hK => ?_)
  go_simp; refine (HCL.out _ (yb hb0 hS)).mono ?_; rintro e w4 ⟨v4, rfl, o4, hb4⟩; obtain ⟨A4, c4, rfl, n4, m4, r4⟩ := z21 o4; clear o4; (try replace rq := rq.below hb4); replace hS := yb hS hb4
  refine hK _ _ hS ?_; clear hK K; try simp only [nrm]
  refine WpT.on 2 rfl (fun K hK => ?_)
  go_simp; refine (HCP.out _ _ _ n4).mono ?_; rintro e w5 ⟨rfl, hw5⟩; subst hw5
  refine hK _ _ hS ?_; clear hK K; try simp only [nrm]
  refine WpT.on 5 rfl (fun K hK => ?_)
  refine zac rfl z6e (by rfl) r4 (by rfl) (m := 1) rq H2.out (by omega) (by omega) ?_; intro v7 w7 o7 hb7; have o8 := z4c o7 (yb hb0 hS).size; clear o7; obtain ⟨A8, c8, rfl, n8, m8, r8⟩ := z21 o8; replace hS := yb hS hb7
  refine hK _ _ hS ?_; clear hK K; try simp only [nrm]
  refine WpT.ta 6 rfl (fun K hK => ?_)
  go_simp; (try go_bits)
  refine hK _ _ ?_; clear hK K; try simp only [nrm]
  refine WpT.done (by kernel_rfl) ?_ _
  go_wp2_with fail; go_ret; exact ⟨A8, c8, rfl, o8, n8, m8, yb hb0 hS⟩
def z87 (g : Nat) (v : EvR) : Prop := (v.vn ≠ 0 → z2z v.vA g) ∧ (v.an ≠ 0 → z2z v.aA g)
structure z1v (g : Nat) (r : LgR) : Prop where
 ev : z2z r.eA g
 tp : z2z r.tA g
 hd : z2z r.hA g
 es : ∀ v ∈ r.es, z87 g v
theorem zks {W : World} {A : Option Addr} {n : Nat} {xs : List Value} (h : Rd W A n xs) (hn : n = 0) (W' : World) : Rd W' A n xs := by
 subst hn
 have : xs = [] := List.eq_nil_of_length_eq_zero h.len
 subst this
 exact ⟨rfl, fun k u hk => by simp at hk⟩
theorem Rd.turnedN {W W' : World} {A : Option Addr} {n g : Nat} {xs : List Value} (h : Rd W A n xs) (ht : z0y g W W') (hn : n ≠ 0 → z2z A g) : Rd W' A n xs := by
 by_cases h0 : n = 0
 ·exact zks h h0 W'
 ·exact h.turned ht (hn h0)
theorem z1b.turned {W W' : World} {g : Nat} {v : EvR} (h : z1b W v) (ht : z0y g W W') (ha : z87 g v) : z1b W' v :=
 ⟨h.vlen, h.vrd.turnedN ht ha.1, h.vcap, h.vmax, ⟨h.ard.len, h.ard.rd.turnedN ht (fun h0 => ha.2 (fun e => h0 (by rw [e])))⟩, h.acap, h.amax, h.non⟩
theorem z0f.turned {W W' : World} {g : Nat} {r : LgR} (h : z0f W r) (ht : z0y g W W') (ha : z1v g r) : z0f W' r :=
 ⟨⟨h.ev.len, h.ev.rd.turned ht ha.ev, fun v hv => (h.ev.ok v hv).turned ht (ha.es v hv)⟩, h.ec, h.em, ⟨h.tp.len, h.tp.rd.turned ht ha.tp⟩, h.tc, h.tm, h.tl, ⟨h.hd.len, h.hd.rd.turned ht ha.hd⟩, h.hc, h.hm, h.hl⟩
theorem z1v.new (g : Nat) (o : Int) : z1v g (z03 o) := ⟨z2z.none g, z2z.none g, z2z.none g, fun v hv => absurd hv List.not_mem_nil⟩
def zak (r : LgR) (v : EvR) (s : Int) (tA : Option Addr) (tn tc : Nat) (ts : List Nat) (r' : LgR) (B : Nat) (W : World) : Prop :=
 ∃ A c, r' = { r with eA := A, en := r.en + 1, ec := c, es := r.es ++ [v], s := s, tA := tA, tn := tn, tc := tc, ts := ts } ∧ W.ownsRow B 27 25 (.slice A (r.en + 1) c) (r.en + 1) (r.es.flatMap evL ++ evL v) ∧ r.en + 1 ≤ c ∧ c ≤ maxLen
def zao (r : LgR) (h : Hd) (r' : LgR) (B : Nat) (W : World) : Prop :=
 ∃ A c, r' = { r with hA := A, hn := r.hn + 1, hc := c, hs := r.hs ++ [h] } ∧ W.ownsRow B 51 36 (.slice A (r.hn + 1) c) (r.hn + 1) (r.hs.flatMap hdL ++ hdL h) ∧ r.hn + 1 ≤ c ∧ c ≤ maxLen
theorem zak.turned {r : LgR} {v : EvR} {s : Int} {tA : Option Addr} {tn tc : Nat} {ts : List Nat} {r' : LgR} {B : Nat} {W W' : World} {g : Nat} (h : zak r v s tA tn tc ts r' B W) (hg : g < B) (ht : z0y g W W') : zak r v s tA tn tc ts r' B W' := by
 obtain ⟨A, c, rfl, o, h1, h2⟩ := h
 exact ⟨A, c, rfl, ht.own o (fun e => by have := (World.ownsRow.lt o _ e).1; omega), h1, h2⟩
theorem zao.turned {r : LgR} {h : Hd} {r' : LgR} {B : Nat} {W W' : World} {g : Nat} (hp : zao r h r' B W) (hg : g < B) (ht : z0y g W W') : zao r h r' B W' := by
 obtain ⟨A, c, rfl, o, h1, h2⟩ := hp
 exact ⟨A, c, rfl, ht.own o (fun e => by have := (World.ownsRow.lt o _ e).1; omega), h1, h2⟩
def z8x (Post : LgR → Nat → World → Prop) (g : Nat) (W : World) (e : Ending) (w' : World) : Prop := ∃ v r' w1, e = .returned v ∧ Below W.heap.size W w1 ∧ z0y g w1 w' ∧ Blk w' g 42 (lgC r') ∧ Post r' W.heap.size w'
theorem zqy (r : LgR) (A : Option Addr) (n c : Nat) (es : List EvR) : (lgC r).setIfInBounds 1 (.slice A n c) = lgC { r with eA := A, en := n, ec := c, es := es } := by simp [lgC, lgL]
theorem zqz (r : LgR) (A : Option Addr) (n c : Nat) (hs : List Hd) : (lgC r).setIfInBounds 4 (.slice A n c) = lgC { r with hA := A, hn := n, hc := c, hs := hs } := by simp [lgC, lgL]
theorem zjc (r : LgR) (s : Int) (A : Option Addr) (n c : Nat) (ts : List Nat) : ((lgC r).toList.take 2 ++ ([.int .i64 s, .slice A n c] : List Value) ++ (lgC r).toList.drop (2 + ([.int .i64 s, .slice A n c] : List Value).length)).toArray = lgC { r with s := s, tA := A, tn := n, tc := c, ts := ts } := by simp [lgC, lgL]
theorem zmu (r : LgR) (v : EvR) (s : Int) (tA : Option Addr) (tn tc : Nat) (ts : List Nat) (g ge gt : Nat) (w : World) (hg : Blk w g 42 (lgC r)) (hge : Blk w ge 27 (evC v)) (hgt : Blk w gt 39 (pkC s tA tn tc))
  (h1 : ge ≠ g) (h2 : gt ≠ g) (hr : Rd w r.eA (r.en * 25) (r.es.flatMap evL)) (hn : r.en ≤ 1000000) :
  Calls Tryz.prog 71 #[.pointer (some ⟨g, 0, none⟩), .pointer (some ⟨ge, 0, none⟩), .pointer (some ⟨gt, 0, none⟩)] w (z8x (zak r v s tA tn tc ts) g w) := by
 have c1 := z37 hg
 have HM := ya (fun W (h : Below w.heap.size w W) => zr6 r.eA r.en r.ec _ v W (hr.below h) (z4b z26 r.es) hn)
 have HG := ya (fun W (h : Below w.heap.size w W) => hg.below h)
 have h25 := z2j v
 have HGE := ya (fun W (h : Tk g w W) => yz (xs := evL v) (h.blk hge h1))
 have HGT := ya (fun W (h : Tk g w W) => yz (xs := [.int .i64 s, .slice tA tn tc]) (h.blk hgt h2))
 have hglt := hg.lt
 clear hg hge hgt h1 h2 hr
 unfold z8x
 go_enter Tryz.func71, Tryz.ntmps71
 go_upto_region 0 with fail
 have hS : Below w.heap.size w w.drew := (Below.refl _ _).drew
 refine z2h (S := (Tk g w)) 14 (by kernel_rfl) ?_
 refine WpT.tk 0 (Tk.of hS) ?_
 simp only [nrm]
 refine WpT.tk 1 (Tk.of hS) ?_
 simp only [nrm]
 refine WpT.tk 2 (Tk.of hS) ?_
 simp only [nrm]
 refine WpT.tk 3 (Tk.of hS) ?_
 simp only [nrm]
 refine WpT.tk 4 (Tk.of hS) ?_
 simp only [nrm]
 refine WpT.tl 6 rfl (zdz (us := evL v) rfl rfl rfl z1q (by rw [z1f, h25]) HGE.out) (Tk.of hS) ?_
 simp only [nrm]
 refine WpT.tl 8 rfl (zdz (us := [.int .i64 s, .slice tA tn tc]) rfl rfl rfl z3n (by rw [z1m]; rfl) HGT.out) (Tk.of hS) ?_
 simp only [nrm]
 refine WpT.on 5 rfl (fun K hK => ?_)
 refine zwp rfl (by rfl) (by kernel_rfl) (cell_later hS c1) ?_
 refine hK _ _ (Tk.of hS) ?_; clear hK K; try simp only [nrm]
 refine WpT.on 7 rfl (fun K hK => ?_)
 go_simp; refine (HM.out _ hS).mono ?_; rintro e w4 ⟨A4, c4, rfl, o4, n4, m4, hb4⟩; have o5 := z4c o4 hS.size; clear o4; replace hS := yb hS hb4
 refine hK _ _ (Tk.of hS) ?_; clear hK K; try simp only [nrm]
 refine WpT.tk 9 (Tk.of hS) ?_
 simp only [nrm]
 refine WpT.tk 10 (Tk.of hS) ?_
 simp only [nrm]
 refine WpT.on 11 rfl (fun K hK => ?_)
 refine z7e rfl (by kernel_rfl) (by rfl) (by rfl) (by rfl) (HG.out _ hS) (by rw [z0c]; omega) (zqy r A4 (r.en + 1) c4 (r.es ++ [v])) ?_; intro w8 ht8 b8
 refine hK _ _ (Tk.turn hS ht8) ?_; clear hK K; try simp only [nrm]
 refine WpT.tp 12 (Tk.turn hS ht8) ?_
 simp only [nrm]
 refine WpT.tk 13 (Tk.turn hS ht8) ?_
 simp only [nrm]
 refine WpT.ta 14 rfl (fun K hK => ?_)
 refine z7d (vs := [.int .i64 s, .slice tA tn tc]) rfl (by rfl) (by rfl) b8 (by rw [z0c]; simp) (by rw [z1m]; rfl) (by intro u hu; simp only [List.mem_cons, List.not_mem_nil, or_false] at hu; rcases hu with rfl | rfl <;> rfl) (zjc _ s tA tn tc ts) ?_; intro w9 ht9 b9
 refine hK _ _ ?_; clear hK K; try simp only [nrm]
 refine WpT.done (by kernel_rfl) ?_ _
 skip
 refine bodyPost_end (results_none rfl _ _ _) rfl ?_
 have hne : (Value.slice A4 (r.en + 1) c4).ownBlock ≠ some g := fun e => by have := (World.ownsRow.lt o5 _ e).1; omega
 exact ⟨_, _, w4, rfl, hS, ht8.step ht9, b9, A4, c4, rfl, ht9.own (ht8.own o5 hne) hne, n4, m4⟩
theorem zuq (r : LgR) (h : Hd) (g gh : Nat) (w : World) (hg : Blk w g 42 (lgC r)) (hgh : Blk w gh 51 (hdC h))
  (hr : Rd w r.hA (r.hn * 36) (r.hs.flatMap hdL)) (hn : r.hn ≤ 1000000) :
  Calls Tryz.prog 77 #[.pointer (some ⟨g, 0, none⟩), .pointer (some ⟨gh, 0, none⟩)] w (z8x (zao r h) g w) := by
 have c3 := z5d hg
 have HM := ya (fun W (h' : Below w.heap.size w W) => zr7 r.hA r.hn r.hc _ h W (hr.below h') (z4b z63 r.hs) hn)
 have HG := ya (fun W (h : Below w.heap.size w W) => hg.below h)
 have h36 := z1s h
 have hch := yz (xs := hdL h) hgh
 have hglt := hg.lt
 clear hg hgh hr
 unfold z8x
 go_enter Tryz.func77, Tryz.ntmps77
 go_upto_region 0 with fail
 have hS : Below w.heap.size w w.drew := (Below.refl _ _).drew
 refine yw 9 (by kernel_rfl) ?_
 refine WpT.tk 0 hS ?_
 simp only [nrm]
 refine WpT.tk 1 hS ?_
 simp only [nrm]
 refine WpT.tk 2 hS ?_
 simp only [nrm]
 refine WpT.tk 3 hS ?_
 simp only [nrm]
 refine WpT.tl 4 rfl (yg rfl rfl rfl (by kernel_rfl) c3) hS ?_
 simp only [nrm]
 refine WpT.tl 5 rfl (z06 (us := hdL h) rfl rfl rfl z0a (by rw [z00, h36]) hch) hS ?_
 simp only [nrm]
 refine WpT.on 6 rfl (fun K hK => ?_)
 go_simp; refine (HM.out _ hS).mono ?_; rintro e w4 ⟨A4, c4, rfl, o4, n4, m4, hb4⟩; have o5 := z4c o4 hS.size; clear o4; replace hS := yb hS hb4
 refine hK _ _ hS ?_; clear hK K; try simp only [nrm]
 refine WpT.tp 7 (hS) ?_
 simp only [nrm]
 refine WpT.tk 8 hS ?_
 simp only [nrm]
 refine WpT.ta 9 rfl (fun K hK => ?_)
 refine z7e rfl (by kernel_rfl) (by rfl) (by rfl) (by rfl) (HG.out _ hS) (by rw [z0c]; omega) (zqz r A4 (r.hn + 1) c4 (r.hs ++ [h])) ?_; intro w8 ht8 b8
 refine hK _ _ ?_; clear hK K; try simp only [nrm]
 refine WpT.done (by kernel_rfl) ?_ _
 skip
 refine bodyPost_end (results_none rfl _ _ _) rfl ?_
 have hne : (Value.slice A4 (r.hn + 1) c4).ownBlock ≠ some g := fun e => by have := (World.ownsRow.lt o5 _ e).1; omega
 exact ⟨_, _, w4, rfl, hS, ht8, b8, A4, c4, rfl, ht8.own o5 hne, n4, m4⟩
theorem znz (F : Nat) (p q : Nat) (r : LgR) (A : Option Addr) (w : World) (Post : LgR → Nat → World → Prop) (hfn : Rd w A 1 [.func (.func F) #[] #[.pointer (some ⟨p, 0, none⟩), .pointer (some ⟨q, 0, none⟩)]])
  (hent : ∀ args W, (callFunc F args).run Tryz.prog W = .ok (.enter F args) W)
  (hcall : ∀ W g, Below w.heap.size w W → w.heap.size ≤ g → Blk W g 42 (lgC r) → Calls Tryz.prog F #[.pointer (some ⟨g, 0, none⟩), .pointer (some ⟨p, 0, none⟩), .pointer (some ⟨q, 0, none⟩)] W (z8x Post g W))
  (hpost : ∀ r' B W g W', Post r' B W → g < B → z0y g W W' → Post r' B W') :
  Calls Tryz.prog 70 #[lgV r, .slice A 1 1] w fun e w' => ∃ r' B, e = .returned (lgV r') ∧ w.heap.size ≤ B ∧ Post r' B w' ∧ Below w.heap.size w w' := by
 obtain ⟨wa, hwa, hb0, q1, q2⟩ := z91 w (lgC r) (lgC (z03 0)) 42 42
 have HWA := ya hwa
 have hlt2 := q2.lt
 obtain ⟨ad, rfl, hcf⟩ := (hfn.below hb0).get (k := 0) (by omega)
 replace hcf : wa.cell? ad = some (.func (.func F) #[] #[.pointer (some ⟨p, 0, none⟩), .pointer (some ⟨q, 0, none⟩)]) := hcf
 have HC := ya (fun W (hb : Below w.heap.size w W) => hcall W w.heap.size hb (Nat.le_refl _))
 have HP := ya hpost
 have ho5 := z17 r
 clear hwa hfn hcall hpost
 obtain ⟨g1, hg1⟩ : ∃ g, g = w.heap.size := ⟨_, rfl⟩
 obtain ⟨g2, hg2⟩ : ∃ g, g = w.heap.size + 1 := ⟨_, rfl⟩
 rw [← hg1] at q1 HC
 rw [← hg2] at q2 hlt2
 have HG := ya (And.intro hg1 hg2)
 clear hg1 hg2
 have H0 : Hid (∃ r' B, ((0 : Nat) = 0 → r' = r) ∧ Blk wa g1 42 (lgC r') ∧ Blk wa g2 42 (lgC (z03 0)) ∧ ((0 : Nat) = 1 → g2 < B ∧ Post r' B wa) ∧ Below g1 wa wa) := ya ⟨r, 0, fun _ => rfl, q1, q2, fun h => by omega, Below.refl _ _⟩
 clear q1 q2
 go_enter Tryz.func70, Tryz.ntmps70
 go_upto_region 1 with (refine z39 rfl rfl (z2n _) ?_)
 change Code.wp _ _ _ _ ((w.alloc (.cells (lgC r) 42)).alloc (.cells (lgC (z03 0)) 42))
 rw [← HWA.out, show (w.alloc (.cells (lgC r) 42)).heap.size = w.heap.size + 1 by simp, ← HG.out.2, ← HG.out.1]
 go_wp2_with fail
 go_loopw [6, 9] (fun v6 v9 wr => ∃ i : Nat, v9 = .int .i64 (i : Int) ∧ i ≤ 1 ∧ Hid (∃ r' B, (i = 0 → r' = r ∧ wr = wa) ∧ Blk wr g1 42 (lgC r') ∧ Blk wr g2 42 (lgC (z03 0)) ∧ (i = 1 → g2 < B ∧ Post r' B wr) ∧ Below g1 wa wr)) (fun v6 v9 _ => 1 - (intOf v9).toNat)
 case atStart =>
  obtain ⟨r', B, h1, h2, h3, h4, h5⟩ := H0.out
  exact ⟨0, rfl, by omega, ya ⟨r', B, fun _ => ⟨h1 (by trivial), rfl⟩, h2, h3, fun h => by omega, h5⟩⟩
 case round =>
  obtain ⟨i, rfl, hi, HI⟩ := hrel
  rcases (show i = 0 ∨ i = 1 by omega) with rfl | rfl
  ·obtain ⟨r', B, h1, h2, h3, -, h5⟩ := HI.out
   obtain ⟨rfl, rfl⟩ := h1 rfl
   clear HI H0
   have HB2 := ya h2
   have HB3 := ya h3
   have hlt3 := h3.lt
   clear h1 h2 h3 h5
   simp only [Int.cast_ofNat_Int] at *
   go_wp2_with fail
   refine (HC.out _ (by rw [HG.out.1]; exact hb0) HB2.out).mono ?_
   rintro e w4 ⟨v, r', w3, rfl, hb3, ht3, b4, hp⟩
   have hg := HG.out
   have HS : Hid (∃ r'' B, ((1 : Nat) = 0 → r'' = r' ∧ w4 = wr) ∧ Blk w4 g1 42 (lgC r'') ∧ Blk w4 g2 42 (lgC (z03 0)) ∧ ((1 : Nat) = 1 → g2 < B ∧ Post r'' B w4) ∧ Below g1 wr w4) :=
    ya ⟨r', wr.heap.size, fun h => by omega, b4, ht3.blk (HB3.out.below hb3) (by omega), fun _ => ⟨hlt3, hp⟩, (hb3.mono (by omega)).trans (ht3.below _ (Nat.le_refl _))⟩
   clear hb3 ht3 b4 hp HB2 HB3 hg
   go_wp2_with fail
   obtain ⟨r2, B2, -, k2, k3, k4, k5⟩ := HS.out
   exact ⟨⟨1, by go_num, by omega, ya ⟨r2, B2, fun h => by omega, k2, k3, fun _ => k4 trivial, k5⟩⟩, by simp [intOf]⟩
  ·obtain ⟨r', B, -, h2, h3, h4, h5⟩ := HI.out
   obtain ⟨hB, hp⟩ := h4 rfl
   have hz := z15 h2
   have h5' := z42 r'
   have HP1 := ya hp
   have hg := HG.out
   have HGG := ya hg
   clear HI H0 h2 h4 hp hg
   simp only [Int.cast_ofNat_Int] at *
   go_wp2_with (first
    | ((with_reducible show sl 16); refine yt (us := lgL r') rfl rfl rfl z02 (by rw [ym, h5']) hz ?_)
    | ((with_reducible show sn); refine z09 (vs := lgC r') rfl rfl rfl rfl h3 rfl (by rw [ym, z0c]) (z17 r') ?_; intro w9 ht9 b9))
   exact z04 rfl rfl rfl b9 z02 (by rw [ym, z0c]) ⟨r', B, rfl, by have := HGG.out; omega, HP.out _ _ _ _ _ HP1.out hB ht9, (hb0.trans (h5.mono (by have := HGG.out; omega))).trans (ht9.below _ (by have := HGG.out; omega))⟩
theorem zny (F : Nat) (p : Nat) (r : LgR) (A : Option Addr) (w : World) (Post : LgR → Nat → World → Prop) (hfn : Rd w A 1 [.func (.func F) #[] #[.pointer (some ⟨p, 0, none⟩)]])
  (hent : ∀ args W, (callFunc F args).run Tryz.prog W = .ok (.enter F args) W)
  (hcall : ∀ W g, Below w.heap.size w W → w.heap.size ≤ g → Blk W g 42 (lgC r) → Calls Tryz.prog F #[.pointer (some ⟨g, 0, none⟩), .pointer (some ⟨p, 0, none⟩)] W (z8x Post g W))
  (hpost : ∀ r' B W g W', Post r' B W → g < B → z0y g W W' → Post r' B W') :
  Calls Tryz.prog 70 #[lgV r, .slice A 1 1] w fun e w' => ∃ r' B, e = .returned (lgV r') ∧ w.heap.size ≤ B ∧ Post r' B w' ∧ Below w.heap.size w w' := by
 obtain ⟨wa, hwa, hb0, q1, q2⟩ := z91 w (lgC r) (lgC (z03 0)) 42 42
 have HWA := ya hwa
 have hlt2 := q2.lt
 obtain ⟨ad, rfl, hcf⟩ := (hfn.below hb0).get (k := 0) (by omega)
 replace hcf : wa.cell? ad = some (.func (.func F) #[] #[.pointer (some ⟨p, 0, none⟩)]) := hcf
 have HC := ya (fun W (hb : Below w.heap.size w W) => hcall W w.heap.size hb (Nat.le_refl _))
 have HP := ya hpost
 have ho5 := z17 r
 clear hwa hfn hcall hpost
 obtain ⟨g1, hg1⟩ : ∃ g, g = w.heap.size := ⟨_, rfl⟩
 obtain ⟨g2, hg2⟩ : ∃ g, g = w.heap.size + 1 := ⟨_, rfl⟩
 rw [← hg1] at q1 HC
 rw [← hg2] at q2 hlt2
 have HG := ya (And.intro hg1 hg2)
 clear hg1 hg2
 have H0 : Hid (∃ r' B, ((0 : Nat) = 0 → r' = r) ∧ Blk wa g1 42 (lgC r') ∧ Blk wa g2 42 (lgC (z03 0)) ∧ ((0 : Nat) = 1 → g2 < B ∧ Post r' B wa) ∧ Below g1 wa wa) := ya ⟨r, 0, fun _ => rfl, q1, q2, fun h => by omega, Below.refl _ _⟩
 clear q1 q2
 go_enter Tryz.func70, Tryz.ntmps70
 go_upto_region 1 with (refine z39 rfl rfl (z2n _) ?_)
 change Code.wp _ _ _ _ ((w.alloc (.cells (lgC r) 42)).alloc (.cells (lgC (z03 0)) 42))
 rw [← HWA.out, show (w.alloc (.cells (lgC r) 42)).heap.size = w.heap.size + 1 by simp, ← HG.out.2, ← HG.out.1]
 go_wp2_with fail
 go_loopw [6, 9] (fun v6 v9 wr => ∃ i : Nat, v9 = .int .i64 (i : Int) ∧ i ≤ 1 ∧ Hid (∃ r' B, (i = 0 → r' = r ∧ wr = wa) ∧ Blk wr g1 42 (lgC r') ∧ Blk wr g2 42 (lgC (z03 0)) ∧ (i = 1 → g2 < B ∧ Post r' B wr) ∧ Below g1 wa wr)) (fun v6 v9 _ => 1 - (intOf v9).toNat)
 case atStart =>
  obtain ⟨r', B, h1, h2, h3, h4, h5⟩ := H0.out
  exact ⟨0, rfl, by omega, ya ⟨r', B, fun _ => ⟨h1 (by trivial), rfl⟩, h2, h3, fun h => by omega, h5⟩⟩
 case round =>
  obtain ⟨i, rfl, hi, HI⟩ := hrel
  rcases (show i = 0 ∨ i = 1 by omega) with rfl | rfl
  ·obtain ⟨r', B, h1, h2, h3, -, h5⟩ := HI.out
   obtain ⟨rfl, rfl⟩ := h1 rfl
   clear HI H0
   have HB2 := ya h2
   have HB3 := ya h3
   have hlt3 := h3.lt
   clear h1 h2 h3 h5
   simp only [Int.cast_ofNat_Int] at *
   go_wp2_with fail
   refine (HC.out _ (by rw [HG.out.1]; exact hb0) HB2.out).mono ?_
   rintro e w4 ⟨v, r', w3, rfl, hb3, ht3, b4, hp⟩
   have hg := HG.out
   have HS : Hid (∃ r'' B, ((1 : Nat) = 0 → r'' = r' ∧ w4 = wr) ∧ Blk w4 g1 42 (lgC r'') ∧ Blk w4 g2 42 (lgC (z03 0)) ∧ ((1 : Nat) = 1 → g2 < B ∧ Post r'' B w4) ∧ Below g1 wr w4) :=
    ya ⟨r', wr.heap.size, fun h => by omega, b4, ht3.blk (HB3.out.below hb3) (by omega), fun _ => ⟨hlt3, hp⟩, (hb3.mono (by omega)).trans (ht3.below _ (Nat.le_refl _))⟩
   clear hb3 ht3 b4 hp HB2 HB3 hg
   go_wp2_with fail
   obtain ⟨r2, B2, -, k2, k3, k4, k5⟩ := HS.out
   exact ⟨⟨1, by go_num, by omega, ya ⟨r2, B2, fun h => by omega, k2, k3, fun _ => k4 trivial, k5⟩⟩, by simp [intOf]⟩
  ·obtain ⟨r', B, -, h2, h3, h4, h5⟩ := HI.out
   obtain ⟨hB, hp⟩ := h4 rfl
   have hz := z15 h2
   have h5' := z42 r'
   have HP1 := ya hp
   have hg := HG.out
   have HGG := ya hg
   clear HI H0 h2 h4 hp hg
   simp only [Int.cast_ofNat_Int] at *
   go_wp2_with (first
    | ((with_reducible show sl 16); refine yt (us := lgL r') rfl rfl rfl z02 (by rw [ym, h5']) hz ?_)
    | ((with_reducible show sn); refine z09 (vs := lgC r') rfl rfl rfl rfl h3 rfl (by rw [ym, z0c]) (z17 r') ?_; intro w9 ht9 b9))
   exact z04 rfl rfl rfl b9 z02 (by rw [ym, z0c]) ⟨r', B, rfl, by have := HGG.out; omega, HP.out _ _ _ _ _ HP1.out hB ht9, (hb0.trans (h5.mono (by have := HGG.out; omega))).trans (ht9.below _ (by have := HGG.out; omega))⟩
def z7i (r0 : LgR) (v : EvR) (p : Lg × Int) (w : World) (e : Ending) (w' : World) : Prop := ∃ r : LgR, e = .returned (.tuple #[lgV r, .int .i64 p.2]) ∧ yh r = p.1 ∧ z0f w' r ∧ Below w.heap.size w w' ∧ (∀ g, (g < w.heap.size ∨ w'.heap.size ≤ g) → z1v g r0 → z87 g v → z1v g r)
theorem znc (p q : Nat) (W : World) : (Instr.buildSlice 159 1 #[(0, .func (.func 71) #[] #[.pointer (some ⟨p, 0, none⟩), .pointer (some ⟨q, 0, none⟩)])]).run Tryz.prog W = .ok (.slice (some ⟨W.heap.size, 0, none⟩) 1 1) (W.alloc (.cells #[.func (.func 71) #[] #[.pointer (some ⟨p, 0, none⟩), .pointer (some ⟨q, 0, none⟩)]] 160)) := by kernel_rfl
theorem zwc {w : World} {ops : Array Oper} {rest : List Oper} {o : Oper} {a : Act} {Q : Exit → Act → World → Prop} (hgd : o.guard = none) {T e : TypeId} {y : Operand} {v : Value} (ho : o.op = .buildSlice T 1 #[(0, y)]) (hy : a.eval y = v)
  (hb : (Instr.buildSlice T 1 #[(0, v)]).run Tryz.prog w = .ok (.slice (some ⟨w.heap.size, 0, none⟩) 1 1) (w.alloc (.cells #[v] e)))
  (h : ∀ w' g, Rd w' (some ⟨g, 0, none⟩) 1 [v] → Below w.heap.size w w' → wpList Tryz.prog ops Q rest (a.put o.dst (.slice (some ⟨g, 0, none⟩) 1 1)) w') : wpList Tryz.prog ops Q (o :: rest) a w := by
 have h2 := h _ _ (Rd.new1 w v e) ((Below.refl _ _).alloc (Nat.le_refl _) _)
 refine wpList_plain hgd fun K hK => ?_
 unfold Oper.wp execOp
 simp only [ho, List.map_toArray, List.map_cons, List.map_nil, hy, hb, Sem.run_bind, Result.andThen_ok, Sem.run_pure]
 exact hK _ _ h2
theorem zpe (args : Array Value) (W : World) : (callFunc 71 args).run Tryz.prog W = .ok (.enter 71 args) W := by kernel_rfl
theorem zqx (r : LgR) (v : EvR) (s : Int) (A B : Option Addr) (n c m d : Nat) (ts : List Nat) : yh { r with eA := A, en := n, ec := c, es := r.es ++ [v], s := s, tA := B, tn := m, tc := d, ts := ts } = { yh r with events := (yh r).events ++ [v.e], size := s, tops := ts } := by simp [yh, ye]
theorem zbf {w : World} {B : Nat} {e : TypeId} {k n c : Nat} {A : Option Addr} {xs : List Value} (h : w.ownsRow B e k (.slice A n c) n xs) : Rd w A (n * k) xs := by
 obtain ⟨A', c', he, -, -, hr⟩ := z21 h
 injection he with h1 h2 h3
 subst h1; exact hr
theorem zik {nd : Nat → Nat → Nat} (h : ∀ a b, nd a b < 2 ^ 128) (x : Nat) (hx : x < 2 ^ 128) : ∀ l : List Nat, l.foldr nd x < 2 ^ 128
 | [] => hx
 | _ :: _ => h _ _
theorem zmw {nd : Nat → Nat → Nat} {em : Nat} (N : Nds nd em) (s : Int) (tl : List Nat) (x : Nat) (hl : ∀ y ∈ tl, y < 2 ^ 128) (hx : x < 2 ^ 128) : ∀ y ∈ (z3d nd s tl x).2.1, y < 2 ^ 128 := by
 unfold z3d
 split
 ·split
  ·intro y hy; exact absurd hy List.not_mem_nil
  ·intro y hy
   dsimp only at hy
   unfold grow at hy
   rcases List.mem_append.1 hy with hy | hy
   ·exact hl y (List.mem_of_mem_take hy)
   ·rw [List.mem_singleton.1 hy]; exact zik N.lt x hx _
 ·intro y hy; exact absurd hy List.not_mem_nil
theorem zh0 {H : He} (L : Les H) (r : LgR) (v : EvR) (w : World) (h : z0f w r) (hv : z1b w v) (hn : r.en ≤ 1000000) (htn : r.tn ≤ 1000) (hw : z0t v.e) (hf : z10 v.e) (hg : GCon w) (hgb : GBru w) :
  Calls Tryz.prog 23 #[lgV r, evV v] w (z7i r v (z2u H (yh r) v.e) w) := by
 obtain ⟨wa, hwa, hb0, q0, q1, q2⟩ := bx3 w (lgC r) (evC v) (lgC (z03 0)) 42 27 42
 have HWA := ya hwa
 have HQ0 := ya (fun W (h : Below wa.heap.size wa W) => q0.below h)
 have HQ1 := ya (fun W (h : Below wa.heap.size wa W) => q1.below h)
 have HQ2 := ya (fun W (h : Below wa.heap.size wa W) => q2.below h)
 have HLT : Hid (w.heap.size + 1 + 1 < wa.heap.size) := ya q2.lt
 have HOK := ya (fun W (hb : Below w.heap.size w W) => h.below hb)
 have HVK := ya (fun W (hb : Below w.heap.size w W) => hv.below hb)
 have HFW := ya (fun W (hb : Below w.heap.size w W) => zil r.es r.eA r.en r.ec v W (h.below hb).ev hn)
 have HFC := ya (fun W (hb : Below w.heap.size w W) => zb0 L v W (hv.below hb) hw hf (hg.below hb))
 have HLF := ya (fun W (hb : Below w.heap.size w W) => zcu L (yq H v.e) W (zcj H _ hw) (hg.below hb))
 have HAP := ya (fun W (hb : Below w.heap.size w W) => zh1 L.nds r.s (H.lf (yq H v.e)) r.tA r.tn r.tc r.ts W htn (h.below hb).tp h.tc h.tm (hg.below hb) (hgb.below hb))
 have HLL := ya (zmw L.nds r.s r.ts (H.lf (yq H v.e)) h.tl (L.llt _))
 have HV : Hid (z2u H (yh r) v.e = if follows (ye r.es) v.e = 0 then (if (z3d H.nd r.s r.ts (H.lf (yq H v.e))).2.2 = 0 then ({ yh r with events := (yh r).events ++ [v.e], size := (z3d H.nd r.s r.ts (H.lf (yq H v.e))).1, tops := (z3d H.nd r.s r.ts (H.lf (yq H v.e))).2.1 }, 0) else (yh r, (z3d H.nd r.s r.ts (H.lf (yq H v.e))).2.2)) else (yh r, follows (ye r.es) v.e)) := ya rfl
 have h5 := z42 r
 have h25 := z2j v
 have hsz : ∀ r' : LgR, (lgC r').size = 5 := z0c
 have c1 := z37 q0
 have hcv := yz (xs := evL v) q1
 have hel := ya h.ev.len
 clear hwa q0 q1 q2 h hv hw hf hg hgb L
 unfold z1i at HFC
 unfold isD at HLF
 unfold z85 at HAP
 generalize z2u H (yh r) v.e = X at *
 generalize follows (ye r.es) v.e = FO at *
 generalize H.lf (yq H v.e) = LF at *
 generalize yq H v.e = F at *
 generalize z3d H.nd r.s r.ts LF = AP at *
 obtain ⟨S, T, E⟩ := AP
 dsimp only at HAP HV HLL
 rcases z6s FO with ⟨hfo, e1, f1, d1⟩ | ⟨hfo, e1, f1, d1⟩
 rotate_left
 ·have hX : X = (yh r, FO) := by rw [HV.out, if_neg hfo]
  subst hX
  clear HV HAP HLF HFC HLL
  unfold z7i
  go_enter Tryz.func23, Tryz.ntmps23
  go_upto_region 1 with (refine z39 rfl rfl (z2n _) ?_)
  change Code.wp _ _ _ _ (((w.alloc (.cells (lgC r) 42)).alloc (.cells (evC v) 27)).alloc (.cells (lgC (z03 0)) 42))
  rw [← HWA.out]
  go_wp2_with ((with_reducible show sl 11); refine yt (us := evL v) rfl rfl rfl z1q (by rw [z1f, h25]) hcv ?_)
  refine (HFW.out _ hb0).mono ?_
  rintro e w1 ⟨rfl, hb1⟩
  have b2 := HQ2.out _ hb1
  have zr := z15 (HQ0.out _ hb1)
  go_wp2_with (first
   | ((with_reducible show sl 15); refine yt (us := lgL r) rfl rfl rfl z02 (by rw [ym, h5]) zr ?_)
   | ((with_reducible show sn); refine z09 (vs := lgC r) rfl rfl rfl rfl b2 rfl (by rw [ym, hsz]) (z17 r) ?_; intro w9 ht9 b9))
  have hbF : Below w.heap.size w w9 := (yb hb0 hb1).trans (ht9.below _ (by omega))
  exact z3g rfl rfl rfl b9 z02 (by rw [ym, hsz]) ⟨r, rfl, rfl, HOK.out _ hbF, hbF, fun _ _ ha _ => ha⟩
 have HV2 : Hid (X = if E = 0 then ({ yh r with events := (yh r).events ++ [v.e], size := S, tops := T }, 0) else (yh r, E)) := ya (by rw [HV.out, if_pos hfo])
 clear HV hfo
 go_enter Tryz.func23, Tryz.ntmps23
 go_upto_region 1 with (refine z39 rfl rfl (z2n _) ?_)
 change Code.wp _ _ _ _ (((w.alloc (.cells (lgC r) 42)).alloc (.cells (evC v) 27)).alloc (.cells (lgC (z03 0)) 42))
 rw [← HWA.out]
 go_wp2_with ((with_reducible show sl 11); refine yt (us := evL v) rfl rfl rfl z1q (by rw [z1f, h25]) hcv ?_)
 refine (HFW.out _ hb0).mono ?_
 rintro e w1 ⟨rfl, hb1⟩
 go_upto_region 4 with fail
 have HB1 := ya hb1
 have x2 : ∀ j u, ([.int .i64 r.s, .slice r.tA r.tn r.tc] : List Value)[j]? = some u → w1.cell? ((⟨w.heap.size, 2, none⟩ : Addr).add j) = some u := z5m (xs := lgL r) (HQ0.out _ hb1) 2 _ (fun j u hj => by
  match j, hj with
  | 0, hj => exact hj
  | 1, hj => exact hj
  | j + 2, hj => simp at hj)
 have xv := yz (xs := evL v) (HQ1.out _ hb1)
 replace hb0 := yb hb0 hb1
 clear c1 hcv hb1
 go_cut [7, 8] (fun v7 v8 wx => ∃ (g7 : Nat) (A : Option Addr) (m c : Nat), v7 = .pointer (some ⟨g7, 0, none⟩) ∧ v8 = .int .i64 E ∧ w1.heap.size ≤ g7 ∧ Blk wx g7 39 (pkC S A m c) ∧ yj wx w1.heap.size (.slice A m c) T ∧ (Value.slice A m c).ownBlock ≠ some g7 ∧ Below w1.heap.size w1 wx)
 case first =>
  have hS : Below w1.heap.size w1 w1.drew := (Below.refl _ _).drew
  refine yw 10 (by kernel_rfl) ?_
  refine WpT.tk 0 hS ?_
  simp only [nrm]
  refine WpT.tl 1 rfl (z06 (us := [.int .i64 r.s, .slice r.tA r.tn r.tc]) rfl rfl rfl z3n (by rw [z1m]; rfl) x2) hS ?_
  simp only [nrm]
  refine WpT.tl 2 rfl (z06 (us := evL v) rfl rfl rfl z1q (by rw [z1f, h25]) xv) hS ?_
  simp only [nrm]
  refine WpT.fork (i := 3) (j := 9) rfl rfl (by kernel_rfl) (fun K hK => ?_) (fun K hK => ?_)
  ·go_simp; refine (HFC.out _ (yb hb0 hS)).mono ?_; rintro e w4 ⟨rfl, hb4⟩; (try replace bV := bV.below hb4); replace hS := yb hS hb4
   refine hK _ _ hS ?_; clear hK K; try simp only [nrm]
   refine WpT.fork (i := 4) (j := 9) rfl rfl (by kernel_rfl) (fun K hK => ?_) (fun K hK => ?_)
   ·go_simp; refine (HLF.out _ (yb hb0 hS)).mono ?_; rintro e w5 ⟨rfl, hb5⟩; (try replace bV := bV.below hb5); replace hS := yb hS hb5
    refine hK _ _ hS ?_; clear hK K; try simp only [nrm]
    refine WpT.fork (i := 5) (j := 9) rfl rfl (by kernel_rfl) (fun K hK => ?_) (fun K hK => ?_)
    ·go_simp; refine (HAP.out _ (yb hb0 hS)).mono ?_; rintro e w6 ⟨A6, m6, c6, rfl, o6, hb6⟩; (try have hne : (Value.slice A6 m6 c6).ownBlock ≠ some gV := fun e => by have := (World.ownsRow.lt o6 _ e).1; have := bV.lt; omega); (try replace bV := bV.below hb6); replace o6 := yj.lower o6 hS.size; replace hS := yb hS hb6
     refine hK _ _ hS ?_; clear hK K; try simp only [nrm]
     refine WpT.tk 6 hS ?_
     simp only [nrm]
     refine WpT.tk 7 hS ?_
     simp only [nrm]
     refine WpT.tp 8 (hS) ?_
     simp only [nrm]
     refine WpT.on 9 rfl (fun K hK => ?_)
     refine z1o rfl z8t ?_; intro wV gV hgV bV hbV; have hgB : w1.heap.size ≤ gV := (by have := hS.size; omega); (try have hne : (Value.slice A6 m6 c6).ownBlock ≠ some gV := fun e => by have := (World.ownsRow.lt o6 _ e).2; omega); (try replace o6 := o6.below hbV); clear hgV; replace hS := yb hS hbV
     refine hK _ _ hS ?_; clear hK K; try simp only [nrm]
     refine WpT.ta 10 rfl (fun K hK => ?_)
     refine yy (vs := pkC S A6 m6 c6) rfl (by rfl) (by rfl) bV rfl (by rw [z1m]; rfl) (z73 _ _ _ _) ?_; intro w13 ht13 b13
     refine hK _ _ ?_; clear hK K; try simp only [nrm]
     refine WpT.ta 11 rfl (fun K hK => ?_)
     go_simp; (try go_bits)
     refine hK _ _ ?_; clear hK K; try simp only [nrm]
     refine WpT.done (by kernel_rfl) ?_ _
     go_wp2_with fail; go_meet; exact ⟨gV, A6, m6, c6, rfl, rfl, hgB, b13, ht13.own o6 hne, hne, hS.trans (ht13.below _ hgB)⟩
    ·refine z1o rfl z8t ?_; intro wV gV hgV bV hbV; have hgB : w1.heap.size ≤ gV := (by have := hS.size; omega); (try have hne : (Value.slice A6 m6 c6).ownBlock ≠ some gV := fun e => by have := (World.ownsRow.lt o6 _ e).2; omega); (try replace o6 := o6.below hbV); clear hgV; replace hS := yb hS hbV
     refine hK _ _ hS ?_; clear hK K; try simp only [nrm]
     refine WpT.on 5 rfl (fun K hK => ?_)
     go_simp; refine (HAP.out _ (yb hb0 hS)).mono ?_; rintro e w6 ⟨A6, m6, c6, rfl, o6, hb6⟩; (try have hne : (Value.slice A6 m6 c6).ownBlock ≠ some gV := fun e => by have := (World.ownsRow.lt o6 _ e).1; have := bV.lt; omega); (try replace bV := bV.below hb6); replace o6 := yj.lower o6 hS.size; replace hS := yb hS hb6
     refine hK _ _ hS ?_; clear hK K; try simp only [nrm]
     refine WpT.tk 6 hS ?_
     simp only [nrm]
     refine WpT.tk 7 hS ?_
     simp only [nrm]
     refine WpT.tp 8 (hS) ?_
     simp only [nrm]
     refine WpT.ta 10 rfl (fun K hK => ?_)
     refine yy (vs := pkC S A6 m6 c6) rfl (by rfl) (by rfl) bV rfl (by rw [z1m]; rfl) (z73 _ _ _ _) ?_; intro w13 ht13 b13
     refine hK _ _ ?_; clear hK K; try simp only [nrm]
     refine WpT.ta 11 rfl (fun K hK => ?_)
     go_simp; (try go_bits)
     refine hK _ _ ?_; clear hK K; try simp only [nrm]
     refine WpT.done (by kernel_rfl) ?_ _
     go_wp2_with fail; go_meet; exact ⟨gV, A6, m6, c6, rfl, rfl, hgB, b13, ht13.own o6 hne, hne, hS.trans (ht13.below _ hgB)⟩
   ·refine z1o rfl z8t ?_; intro wV gV hgV bV hbV; have hgB : w1.heap.size ≤ gV := (by have := hS.size; omega); (try have hne : (Value.slice A6 m6 c6).ownBlock ≠ some gV := fun e => by have := (World.ownsRow.lt o6 _ e).2; omega); (try replace o6 := o6.below hbV); clear hgV; replace hS := yb hS hbV
    refine hK _ _ hS ?_; clear hK K; try simp only [nrm]
    refine WpT.on 4 rfl (fun K hK => ?_)
    go_simp; refine (HLF.out _ (yb hb0 hS)).mono ?_; rintro e w5 ⟨rfl, hb5⟩; (try replace bV := bV.below hb5); replace hS := yb hS hb5
    refine hK _ _ hS ?_; clear hK K; try simp only [nrm]
    refine WpT.on 5 rfl (fun K hK => ?_)
    go_simp; refine (HAP.out _ (yb hb0 hS)).mono ?_; rintro e w6 ⟨A6, m6, c6, rfl, o6, hb6⟩; (try have hne : (Value.slice A6 m6 c6).ownBlock ≠ some gV := fun e => by have := (World.ownsRow.lt o6 _ e).1; have := bV.lt; omega); (try replace bV := bV.below hb6); replace o6 := yj.lower o6 hS.size; replace hS := yb hS hb6
    refine hK _ _ hS ?_; clear hK K; try simp only [nrm]
    refine WpT.tk 6 hS ?_
    simp only [nrm]
    refine WpT.tk 7 hS ?_
    simp only [nrm]
    refine WpT.tp 8 (hS) ?_
    simp only [nrm]
    refine WpT.ta 10 rfl (fun K hK => ?_)
    refine yy (vs := pkC S A6 m6 c6) rfl (by rfl) (by rfl) bV rfl (by rw [z1m]; rfl) (z73 _ _ _ _) ?_; intro w13 ht13 b13
    refine hK _ _ ?_; clear hK K; try simp only [nrm]
    refine WpT.ta 11 rfl (fun K hK => ?_)
    go_simp; (try go_bits)
    refine hK _ _ ?_; clear hK K; try simp only [nrm]
    refine WpT.done (by kernel_rfl) ?_ _
    go_wp2_with fail; go_meet; exact ⟨gV, A6, m6, c6, rfl, rfl, hgB, b13, ht13.own o6 hne, hne, hS.trans (ht13.below _ hgB)⟩
  ·refine z1o rfl z8t ?_; intro wV gV hgV bV hbV; have hgB : w1.heap.size ≤ gV := (by have := hS.size; omega); (try have hne : (Value.slice A6 m6 c6).ownBlock ≠ some gV := fun e => by have := (World.ownsRow.lt o6 _ e).2; omega); (try replace o6 := o6.below hbV); clear hgV; replace hS := yb hS hbV
   refine hK _ _ hS ?_; clear hK K; try simp only [nrm]
   refine WpT.on 3 rfl (fun K hK => ?_)
   go_simp; refine (HFC.out _ (yb hb0 hS)).mono ?_; rintro e w4 ⟨rfl, hb4⟩; (try replace bV := bV.below hb4); replace hS := yb hS hb4
   refine hK _ _ hS ?_; clear hK K; try simp only [nrm]
   refine WpT.on 4 rfl (fun K hK => ?_)
   go_simp; refine (HLF.out _ (yb hb0 hS)).mono ?_; rintro e w5 ⟨rfl, hb5⟩; (try replace bV := bV.below hb5); replace hS := yb hS hb5
   refine hK _ _ hS ?_; clear hK K; try simp only [nrm]
   refine WpT.on 5 rfl (fun K hK => ?_)
   go_simp; refine (HAP.out _ (yb hb0 hS)).mono ?_; rintro e w6 ⟨A6, m6, c6, rfl, o6, hb6⟩; (try have hne : (Value.slice A6 m6 c6).ownBlock ≠ some gV := fun e => by have := (World.ownsRow.lt o6 _ e).1; have := bV.lt; omega); (try replace bV := bV.below hb6); replace o6 := yj.lower o6 hS.size; replace hS := yb hS hb6
   refine hK _ _ hS ?_; clear hK K; try simp only [nrm]
   refine WpT.tk 6 hS ?_
   simp only [nrm]
   refine WpT.tk 7 hS ?_
   simp only [nrm]
   refine WpT.tp 8 (hS) ?_
   simp only [nrm]
   refine WpT.ta 10 rfl (fun K hK => ?_)
   refine yy (vs := pkC S A6 m6 c6) rfl (by rfl) (by rfl) bV rfl (by rw [z1m]; rfl) (z73 _ _ _ _) ?_; intro w13 ht13 b13
   refine hK _ _ ?_; clear hK K; try simp only [nrm]
   refine WpT.ta 11 rfl (fun K hK => ?_)
   go_simp; (try go_bits)
   refine hK _ _ ?_; clear hK K; try simp only [nrm]
   refine WpT.done (by kernel_rfl) ?_ _
   go_wp2_with fail; go_meet; exact ⟨gV, A6, m6, c6, rfl, rfl, hgB, b13, ht13.own o6 hne, hne, hS.trans (ht13.below _ hgB)⟩
 case rest =>
  obtain ⟨g7, A7, m7, c7, rfl, rfl, hg7, b7, o7, hne7, hbw⟩ := hcut
  have zr := z15 ((HQ0.out _ HB1.out).below hbw)
  have b2 := (HQ2.out _ HB1.out).below hbw
  rcases z6s E with ⟨hE, e2, f2, d2⟩ | ⟨hE, e2, f2, d2⟩
  rotate_left
  ·have hX : X = (yh r, E) := by rw [HV2.out, if_neg hE]
   subst hX
   clear HV2 HFC HLF HAP HFW
   go_wp2_with (first
    | ((with_reducible show sl 28); refine yt (us := lgL r) rfl rfl rfl z02 (by rw [ym, h5]) zr ?_)
    | ((with_reducible show sn); refine z09 (vs := lgC r) rfl rfl rfl rfl b2 rfl (by rw [ym, hsz]) (z17 r) ?_; intro w9 ht9 b9))
   have hbF : Below w.heap.size w w9 := (yb hb0 hbw).trans (ht9.below _ (by omega))
   exact z3g rfl rfl rfl b9 z02 (by rw [ym, hsz]) ⟨r, rfl, rfl, HOK.out _ hbF, hbF, fun _ _ ha _ => ha⟩
  ·have HX : Hid (X = ({ yh r with events := (yh r).events ++ [v.e], size := S, tops := T }, 0)) := ya (by rw [HV2.out, if_pos hE])
   subst hE
   have HB7 := ya b7
   have HO7 := ya o7
   have HW7 := ya hbw
   have HG7 : Hid (w1.heap.size ≤ g7 ∧ wa.heap.size ≤ g7) := ya ⟨hg7, by have := HB1.out.size; omega⟩
   have HM7 := ya (zk0 o7)
   clear HV2 HFC HLF HAP HFW b7 o7 hne7 hg7 x2 xv
   replace hb0 := yb hb0 hbw
   have HEV := ya ((HQ1.out _ HB1.out).below hbw)
   have HCH := ya (fun A W (hbW : Below wc.heap.size wc W) (hfn : Rd W A 1 [.func (.func 71) #[] #[.pointer (some ⟨w.heap.size + 1, 0, none⟩), .pointer (some ⟨g7, 0, none⟩)]]) =>
    znz 71 (w.heap.size + 1) g7 r A W (zak r v S A7 m7 c7 T) hfn zpe
     (fun W2 g hb2 hgB hblk => zmu r v S A7 m7 c7 T g (w.heap.size + 1) g7 W2 hblk (HEV.out.below (yb hbW hb2)) (HB7.out.below (yb hbW hb2))
      (by have := HEV.out.lt; have := hbW.size; omega) (by have := HB7.out.lt; have := hbW.size; omega) (HOK.out _ (yb hb0 (yb hbW hb2))).ev.rd hn)
     (fun r' B W g W' hp hgB ht => hp.turned hgB ht))
   clear hbw
   go_wp2_with (first
    | ((with_reducible show sl 30); refine yt (us := lgL r) rfl rfl rfl z02 (by rw [ym, h5]) zr ?_)
    | ((with_reducible show sl 32); refine zwc rfl rfl rfl (znc _ _ _) ?_; intro w2 gf rf hb2))
   refine (HCH.out _ _ hb2 rf).mono ?_
   rintro e w3 ⟨r', B, rfl, hB, hpost, hb3⟩
   have hb23 := yb hb2 hb3
   replace b2 := b2.below hb23
   clear zr rf
   obtain ⟨A9, c9, rfl, o9, n9, m9⟩ := hpost
   have HO9 := ya o9
   have HBB : Hid (wc.heap.size ≤ B ∧ w.heap.size + 1 + 1 < wc.heap.size) := ya ⟨by have := hb2.size; omega, by have := HW7.out.size; have := HB1.out.size; have := HLT.out; omega⟩
   have HN9 : Hid (r.en + 1 ≤ c9 ∧ c9 ≤ maxLen) := ya ⟨n9, m9⟩
   clear o9 hB n9 m9 hb2 hb3
   have hbF0 := yb hb0 hb23
   have HO7' := ya (HO7.out.below hb23)
   clear hb23
   go_wp2_with ((with_reducible show sn); refine z09 (vs := lgC { r with eA := A9, en := r.en + 1, ec := c9, es := r.es ++ [v], s := S, tA := A7, tn := m7, tc := c7, ts := T }) rfl rfl rfl rfl b2 rfl (by rw [ym, hsz]) (z17 _) ?_; intro w9 ht9 b9)
   have hbF : Below w.heap.size w w9 := hbF0.trans (ht9.below _ (by omega))
   have hO9 := ht9.own HO9.out (fun e => by have := (World.ownsRow.lt HO9.out _ e).1; have := HBB.out; omega)
   have hO7 : yj w9 w1.heap.size (.slice A7 m7 c7) T := ht9.own HO7'.out (fun e => by have := (World.ownsRow.lt HO7'.out _ e).1; have := HB1.out.size; have := HLT.out; omega)
   refine z3g rfl rfl rfl b9 z02 (by rw [ym, hsz]) ?_
   rw [HX.out]
   refine ⟨_, rfl, zqx r v S A9 A7 (r.en + 1) c9 m7 c7 T, ?_, hbF, fun g hg ha hv => ⟨by
    rcases hg with hg | hg
    ·exact zd6 hO9 (by have := HBB.out; omega)
    ·exact (zfm hO9).away hg, by
    rcases hg with hg | hg
    ·exact zd6 hO7 (by have := HB1.out.size; have := HLT.out; omega)
    ·exact (zfm hO7).away hg, ha.hd, fun x hx => by
    rcases List.mem_append.1 hx with hx | hx
    ·exact ha.es x hx
    ·rw [List.mem_singleton.1 hx]; exact hv⟩⟩
   have hk := HOK.out _ hbF
   obtain ⟨A7', c7', he7, k1, k2, k3⟩ := yj.formN hO7 HM7.out.symm
   injection he7 with i1 i2 i3
   subst i1
   subst i3
   exact ⟨⟨by simp [hel.out], by rw [List.flatMap_append]; simpa using zbf hO9, fun x hx => by
    rcases List.mem_append.1 hx with hx | hx
    ·exact hk.ev.ok x hx
    ·rw [List.mem_singleton.1 hx]; exact HVK.out _ hbF⟩, HN9.out.1, HN9.out.2, k3, k1, k2, HLL.out, hk.hd, hk.hc, hk.hm, hk.hl⟩
theorem zl5 {P : Program} {fn : Func} {R : Ending → World → Prop} {a : Act} {w : World} {g g2 : Nat} {t t2 : TypeId} {cs cs2 : Array Value} {p p2 q : Tmp} {ty ty2 : TypeId}
  (h : fn.results = #[.cell p ty, .cell p2 ty2, .tmp q]) (hd : a.defers = []) (hp : a.tmps.getD p undef = .pointer (some ⟨g, 0, none⟩)) (hp2 : a.tmps.getD p2 undef = .pointer (some ⟨g2, 0, none⟩)) (hb : Blk w g t cs) (hb2 : Blk w g2 t2 cs2)
  (hu : (P.underlying ty).map z0g = some true) (hi : (P.info? ty).map (·.size) = some cs.size) (hu2 : (P.underlying ty2).map z0g = some true) (hi2 : (P.info? ty2).map (·.size) = some cs2.size) (hR : R (.returned (.tuple #[.agg cs, .agg cs2, a.tmps.getD q undef])) w) : bodyPost P fn R .ret a w := by
 refine bodyPost_ret ?_ hd hR
 have hp' : a.tmps[p]?.getD undef = .pointer (some ⟨g, 0, none⟩) := by simpa using hp
 have hp2' : a.tmps[p2]?.getD undef = .pointer (some ⟨g2, 0, none⟩) := by simpa using hp2
 simp [results, h, hp', hp2', asAddr, z5o w g t ty cs hb hu hi, z5o w g2 t2 ty2 cs2 hb2 hu2 hi2]
theorem zvf {nd : Nat → Nat → Nat} {em : Nat} (N : Nds nd em) (tl : List Nat) (hl : ∀ y ∈ tl, y < 2 ^ 128) : z6p nd em tl < 2 ^ 128 := by
 rcases List.eq_nil_or_concat tl with rfl | ⟨l, x, rfl⟩
 ·exact N.lt0
 ·rw [List.concat_eq_append, zg8]
  exact zik N.lt x (hl x (by simp)) l
theorem zvg {nd : Nat → Nat → Nat} {em : Nat} (N : Nds nd em) (s : Int) (tl : List Nat) (hl : ∀ y ∈ tl, y < 2 ^ 128) : (z3j nd em s tl).1 < 2 ^ 128 := by
 unfold z3j
 split
 ·exact zvf N tl hl
 ·decide
theorem ziy (l : List EvR) (hf : z3c l) : -9223372036854775808 ≤ z19 (ye l) ∧ z19 (ye l) ≤ 9223372036854775807 := by
 rcases Nat.eq_zero_or_pos l.length with h | h
 ·have : l = [] := List.eq_nil_of_length_eq_zero h
  subst this
  exact ⟨by decide, by decide⟩
 ·rw [zix l h]
  have := (hf _ (List.getElem_mem (show l.length - 1 < l.length by omega))).1.nums
  exact this _ (by simp)
theorem z92 (o c d : Int) (rt : Nat) (s : Int) (W : World) : (Instr.build 51 #[(0, .int .i64 o), (1, .int .i64 c), (2, .int .i64 d), (3, dgV rt), (4, .int .i64 s)]).run Tryz.prog W = .ok (hdV ⟨o, c, d, rt, s, 0⟩) W := by kernel_rfl
theorem zn6 (W : World) : (Instr.build 51 #[]).run Tryz.prog W = .ok (hdV z0h) W := by kernel_rfl
theorem zaf {P : Program} {ops : Array Oper} {S : World → Prop} {o : Oper} {a : Act} {T : TypeId} {i j k l m : Nat} {x y z u t : Operand} {vx vy vz vu vt v : Value} (ho : o.op = .build T #[(i, x), (j, y), (k, z), (l, u), (m, t)]) (hgd : o.guard = none) (hx : a.eval x = vx) (hy : a.eval y = vy) (hz : a.eval z = vz) (hu : a.eval u = vu) (ht : a.eval t = vt) (h : ∀ W, (Instr.build T #[(i, vx), (j, vy), (k, vz), (l, vu), (m, vt)]).run P W = .ok v W) : YieldsIf P ops S o v a := by
 refine .inl ⟨by simp [Region.wanted, hgd], fun w hS => ?_⟩
 unfold execOp
 simp only [ho, List.map_toArray, List.map_cons, List.map_nil, hx, hy, hz, hu, ht, Sem.run_bind, h, Result.andThen_ok, Sem.run_pure]
theorem zio (h : Hd) (b : Nat) : ((hdC h).toList.take 20 ++ bv (dg b) ++ (hdC h).toList.drop (20 + (bv (dg b)).length)).toArray = hdC { h with sig := b } := by
 have e : (hdC h).toList.drop (20 + (bv (dg b)).length) = [] := List.drop_eq_nil_of_le (by rw [z01]; show (hdL h).length ≤ 36; rw [z1s]; omega)
 rw [e, List.append_nil]
 have h2 : (hdC h).toList.take 20 = [.int .i64 h.office, .int .i64 h.commit, .int .i64 h.day] ++ bv (dg h.root) ++ [.int .i64 h.serial] := by
  show (hdL h).take 20 = _
  unfold hdL
  rw [List.take_append_of_le_length (by simp only [List.length_append, z01]; simp), List.take_of_length_le (by simp only [List.length_append, z01]; simp)]
 rw [h2]
 rfl
theorem znb (p : Nat) (W : World) : (Instr.buildSlice 159 1 #[(0, .func (.func 77) #[] #[.pointer (some ⟨p, 0, none⟩)])]).run Tryz.prog W = .ok (.slice (some ⟨W.heap.size, 0, none⟩) 1 1) (W.alloc (.cells #[.func (.func 77) #[] #[.pointer (some ⟨p, 0, none⟩)]] 160)) := by kernel_rfl
theorem zwn {w : World} {o : Oper} {a : Act} {K : Act → World → Prop} {Q : Exit → Act → World → Prop} {T e : TypeId} {y : Operand} {v : Value} (ho : o.op = .buildSlice T 1 #[(0, y)]) (hy : a.eval y = v)
  (hb : ∀ W : World, (Instr.buildSlice T 1 #[(0, v)]).run Tryz.prog W = .ok (.slice (some ⟨W.heap.size, 0, none⟩) 1 1) (W.alloc (.cells #[v] e)))
  (h : ∀ w' g, Rd w' (some ⟨g, 0, none⟩) 1 [v] → Below w.heap.size w w' → K (a.put o.dst (.slice (some ⟨g, 0, none⟩) 1 1)) w') : o.wp Tryz.prog a w K Q := by
 have h2 := h _ _ (Rd.new1 w v e) ((Below.refl _ _).alloc (Nat.le_refl _) _)
 unfold Oper.wp execOp
 simp only [ho, List.map_toArray, List.map_cons, List.map_nil, hy, hb, Sem.run_bind, Result.andThen_ok, Sem.run_pure]
 exact h2
theorem zpf (args : Array Value) (W : World) : (callFunc 77 args).run Tryz.prog W = .ok (.enter 77 args) W := by kernel_rfl
theorem zcz (r : LgR) (h : Hd) (A : Option Addr) (n c : Nat) : yh { r with hA := A, hn := n, hc := c, hs := r.hs ++ [h] } = { yh r with heads := (yh r).heads ++ [h] } := by simp [yh]
def z88 (r0 : LgR) (p : Lg × Hd × Int) (w : World) (e : Ending) (w' : World) : Prop := ∃ r : LgR, e = .returned (.tuple #[lgV r, hdV p.2.1, .int .i64 p.2.2]) ∧ yh r = p.1 ∧ z0f w' r ∧ z0j p.2.1 ∧ Below w.heap.size w w' ∧ (∀ g, (g < w.heap.size ∨ w'.heap.size ≤ g) → z1v g r0 → z1v g r)
theorem bx4 (w : World) (c1 c2 c3 c4 : Array Value) (t1 t2 t3 t4 : TypeId) : ∃ wa : World, wa = (((w.alloc (.cells c1 t1)).alloc (.cells c2 t2)).alloc (.cells c3 t3)).alloc (.cells c4 t4) ∧ Below w.heap.size w wa ∧ Blk wa w.heap.size t1 c1 ∧ Blk wa (w.heap.size + 1) t2 c2 ∧ Blk wa (w.heap.size + 1 + 1) t3 c3 ∧ Blk wa (w.heap.size + 1 + 1 + 1) t4 c4 := by
 obtain ⟨wx, hwx, hb, q1, q2, q3⟩ := bx3 w c1 c2 c3 t1 t2 t3
 subst hwx
 exact ⟨_, rfl, hb.alloc hb.size _, q1.alloc _, q2.alloc _, q3.alloc _, by
  have := Blk.new (((w.alloc (.cells c1 t1)).alloc (.cells c2 t2)).alloc (.cells c3 t3)) t4 c4
  simpa using this⟩
theorem zlk {H : He} (L : Les H) (r : LgR) (k : Key) (w : World) (h : z0f w r) (hn : r.en ≤ 1000000) (hhn : r.hn ≤ 1000000) (htn : r.tn ≤ 1000) (hf : z3c r.es) (hk : WfK k) (hks : k.secret.size ≤ 65536) (ho : 0 ≤ r.o ∧ r.o < 32) (hg : GCon w) :
  Calls Tryz.prog 24 #[lgV r, z14 k] w (z88 r (z3u H (yh r) k) w) := by
 obtain ⟨wa, hwa, hb0, q0, q1, q2, q3⟩ := bx4 w (lgC r) (z0l k) (lgC (z03 0)) (hdC z0h) 42 44 42 51
 have HWA := ya hwa
 have HQ0 := ya (fun W (h : Below wa.heap.size wa W) => q0.below h)
 have HQ1 := ya (fun W (h : Below wa.heap.size wa W) => q1.below h)
 have HQ2 := ya (fun W (h : Below wa.heap.size wa W) => q2.below h)
 have HQ3 := ya (fun W (h : Below wa.heap.size wa W) => q3.below h)
 have HLT : Hid (w.heap.size + 1 + 1 + 1 < wa.heap.size) := ya q3.lt
 have HOK := ya (fun W (hb : Below w.heap.size w W) => h.below hb)
 have HM := ya (fun W => zjf k r.o W hk ho.1 ho.2)
 have HTP := ya (fun W (hb : Below w.heap.size w W) => zvh L.nds r.s r.tA r.tn r.tc r.ts W htn (h.below hb).tp h.tc h.tm (hg.below hb))
 have HDY := ya (fun W (hb : Below w.heap.size w W) => zhx r r.en W (h.below hb) (Nat.le_refl _) hn)
 have hdf := ziy r.es hf
 have HLD : Hid (z1c (ye r.es) r.en = z19 (ye r.es)) := ya (by unfold z19; rw [z1h, h.ev.len])
 have htl := zvg L.nds r.s r.ts h.tl
 have hsgl := L.hlt k.secret r.o (r.en : Int) (z19 (ye r.es)) k.serial (z3j H.nd H.em r.s r.ts).1
 have HV : Hid (z3u H (yh r) k = if z33 k r.o = true then ({ yh r with heads := (yh r).heads ++ [⟨r.o, (r.en : Int), z19 (ye r.es), (z3j H.nd H.em r.s r.ts).1, k.serial, H.sh k.secret r.o (r.en : Int) (z19 (ye r.es)) k.serial (z3j H.nd H.em r.s r.ts).1⟩] }, ⟨r.o, (r.en : Int), z19 (ye r.es), (z3j H.nd H.em r.s r.ts).1, k.serial, H.sh k.secret r.o (r.en : Int) (z19 (ye r.es)) k.serial (z3j H.nd H.em r.s r.ts).1⟩, 0) else (yh r, z0h, 1)) := ya (by
  unfold z3u z8d
  rw [show (yh r).events = ye r.es from rfl, z1h, h.ev.len]
  rfl)
 rw [HLD.out] at HDY
 generalize z19 (ye r.es) = LD at *
 generalize hTR : z3j H.nd H.em r.s r.ts = TR at *
 have HSR : Hid (z1z [r.o, (r.en : Int), LD, k.serial]) := ya (by
  have := zdv hk.serial
  intro x hx
  simp only [List.mem_cons, List.not_mem_nil, or_false] at hx
  rcases hx with rfl | rfl | rfl | rfl <;> omega)
 have HPT := ya (fun W => zip ⟨r.o, (r.en : Int), LD, TR.1, k.serial, 0⟩ W HSR.out)
 have HMK := ya (fun A W (hb : Below w.heap.size w W) (hr : Rd W A 2 (sv (z32 r.o (r.en : Int) LD k.serial TR.1))) => L.makeH k r.o (r.en : Int) LD k.serial TR.1 A 2 2 W (by omega) hks hr (hg.below hb))
 have h5 := z42 r
 have hsz : ∀ r' : LgR, (lgC r').size = 5 := z0c
 have hsh : ∀ h' : Hd, (hdC h').size = 36 := z40
 have h36 := z1s
 have c0 := z4y q0
 have hck := yz (xs := kv k) q1
 have hel := ya h.hd.len
 clear hwa q0 q1 q2 q3 h hf hk hg L hTR
 generalize z3u H (yh r) k = X at *
 unfold BIs at HM
 unfold z5x at HPT
 unfold isD at HMK
 generalize z33 k r.o = M at *
 obtain ⟨RT, TE⟩ := TR
 dsimp only at HTP htl hsgl HV HPT HMK
 generalize H.sh k.secret r.o (r.en : Int) LD k.serial RT = SG at *
 generalize z32 r.o (r.en : Int) LD k.serial RT = PT at *
 cases M with
 | false =>
  have hX : X = (yh r, z0h, 1) := by rw [HV.out]; rfl
  subst hX
  clear HV HTP HDY HPT HMK
  go_enter Tryz.func24, Tryz.ntmps24
  go_upto_region 1 with (first
   | ((with_reducible show sl 4); refine z39 rfl rfl (z2n _) ?_)
   | ((with_reducible show sl 5); refine z39 rfl rfl (z3k _) ?_))
  change Code.wp _ _ _ _ ((((w.alloc (.cells (lgC r) 42)).alloc (.cells (z0l k) 44)).alloc (.cells (lgC (z03 0)) 42)).alloc (.cells (hdC z0h) 51))
  rw [← HWA.out]
  go_wp2_with ((with_reducible show sl 11); refine z3a rfl rfl rfl hck ?_)
  refine (HM.out _).mono ?_
  rintro e w1 ⟨rfl, hb1⟩
  have b2 := HQ2.out _ hb1
  have b3 := HQ3.out _ hb1
  have zr := z15 (HQ0.out _ hb1)
  go_wp2_with (first
   | ((with_reducible show sl 16); refine yt (us := lgL r) rfl rfl rfl z02 (by rw [ym, h5]) zr ?_)
   | ((with_reducible show sl 17); refine z5s rfl rfl zn6 ?_)
   | ((with_reducible show sn); refine z09 (vs := lgC r) rfl rfl rfl rfl b2 rfl (by rw [ym, hsz]) (z17 r) ?_; intro w8 ht8 b8; replace b3 := ht8.blk b3 (by omega))
   | ((with_reducible show sn); refine z09 (vs := hdC z0h) rfl rfl rfl rfl b3 rfl (by rw [z00, hsh]) (z3e _) ?_; intro w9 ht9 b9; replace b8 := ht9.blk b8 (by omega)))
  have hbF : Below w.heap.size w w9 := ((yb hb0 hb1).trans (ht8.below _ (by omega))).trans (ht9.below _ (by omega))
  exact zl5 rfl rfl rfl rfl b8 b9 z02 (by rw [ym, hsz]) z0a (by rw [z00, hsh]) ⟨r, rfl, rfl, HOK.out _ hbF, z0j.zero, hbF, fun _ _ ha => ha⟩
 | true =>
  have HX : Hid (X = ({ yh r with heads := (yh r).heads ++ [⟨r.o, (r.en : Int), LD, RT, k.serial, SG⟩] }, ⟨r.o, (r.en : Int), LD, RT, k.serial, SG⟩, 0)) := ya (by rw [HV.out, if_pos rfl])
  clear HV
  go_enter Tryz.func24, Tryz.ntmps24
  go_upto_region 1 with (first
   | ((with_reducible show sl 4); refine z39 rfl rfl (z2n _) ?_)
   | ((with_reducible show sl 5); refine z39 rfl rfl (z3k _) ?_))
  change Code.wp _ _ _ _ ((((w.alloc (.cells (lgC r) 42)).alloc (.cells (z0l k) 44)).alloc (.cells (lgC (z03 0)) 42)).alloc (.cells (hdC z0h) 51))
  rw [← HWA.out]
  go_wp2_with ((with_reducible show sl 11); refine z3a rfl rfl rfl hck ?_)
  refine (HM.out _).mono ?_
  rintro e w1 ⟨rfl, hb1⟩
  have x1 := z37 (HQ0.out _ hb1)
  have x2 : ∀ j u, ([.int .i64 r.s, .slice r.tA r.tn r.tc] : List Value)[j]? = some u → w1.cell? ((⟨w.heap.size, 2, none⟩ : Addr).add j) = some u := z5m (xs := lgL r) (HQ0.out _ hb1) 2 _ (fun j u hj => by
   match j, hj with
   | 0, hj => exact hj
   | 1, hj => exact hj
   | j + 2, hj => simp at hj)
  go_wp2_with ((with_reducible show sl 23); refine yt (us := [.int .i64 r.s, .slice r.tA r.tn r.tc]) rfl rfl rfl z3n (by rw [z1m]; rfl) x2 ?_)
  refine (HTP.out _ (yb hb0 hb1)).mono ?_
  rintro e w2 ⟨rfl, hb2⟩
  go_upto_region 5 with ((with_reducible show sl 8); refine zdw (n := RT) rfl rfl rfl rfl (fun _ => rfl) (fun _ => rfl) ?_; intro w3 g8 hg8 b8 hb3; clear hg8)
  have HB3 := ya (yb hb1 (yb hb2 hb3))
  have y0 := z4y (HQ0.out _ HB3.out)
  have yr := z15 (HQ0.out _ HB3.out)
  have ys := zf3 (HQ1.out _ HB3.out)
  have hc8 := yz (xs := bv (dg RT)) b8
  replace hb0 := yb hb0 HB3.out
  clear c0 hck x1 x2 hb1 hb2 hb3 b8 HTP HM
  go_cut [10] (fun v10 wx => ∃ g, v10 = .pointer (some ⟨g, 0, none⟩) ∧ w3.heap.size ≤ g ∧ Blk wx g 51 (hdC ⟨r.o, (r.en : Int), LD, RT, k.serial, 0⟩) ∧ Below w3.heap.size w3 wx)
  case first =>
   have hS : Below w3.heap.size w3 w3.drew := (Below.refl _ _).drew
   refine yw 11 (by kernel_rfl) ?_
   refine WpT.tk 0 hS ?_
   simp only [nrm]
   refine WpT.tl 1 rfl (yg rfl rfl rfl (by kernel_rfl) y0) hS ?_
   simp only [nrm]
   refine WpT.tk 2 hS ?_
   simp only [nrm]
   refine WpT.tl 3 rfl (z06 (us := lgL r) rfl rfl rfl z02 (by rw [ym, h5]) yr) hS ?_
   simp only [nrm]
   refine WpT.tk 4 hS ?_
   simp only [nrm]
   refine WpT.tl 6 rfl (z06 (us := bv (dg RT)) rfl rfl rfl yn (by rw [yf, z01]) hc8) hS ?_
   simp only [nrm]
   refine WpT.tk 7 hS ?_
   simp only [nrm]
   refine WpT.tl 8 rfl (yg rfl rfl rfl (by kernel_rfl) ys) hS ?_
   simp only [nrm]
   refine WpT.fork (i := 5) (j := 10) rfl rfl (by kernel_rfl) (fun K hK => ?_) (fun K hK => ?_)
   ·go_simp; refine (HDY.out _ (yb hb0 hS)).mono ?_; rintro e w4 ⟨rfl, hb4⟩; (try replace bV := bV.below hb4); replace hS := yb hS hb4
    refine hK _ _ hS ?_; clear hK K; try simp only [nrm]
    refine WpT.tl 9 rfl (zaf rfl rfl (by rfl) (by rfl) (by rfl) (by rfl) (by rfl) (z92 r.o (r.en : Int) LD RT k.serial)) hS ?_
    simp only [nrm]
    refine WpT.on 10 rfl (fun K hK => ?_)
    refine z1o rfl z3k ?_; intro wV gV hgV bV hbV; have hgB : w3.heap.size ≤ gV := (by have := hS.size; omega); clear hgV; replace hS := yb hS hbV
    refine hK _ _ hS ?_; clear hK K; try simp only [nrm]
    refine WpT.ta 11 rfl (fun K hK => ?_)
    refine yy (vs := hdC ⟨r.o, (r.en : Int), LD, RT, k.serial, 0⟩) rfl (by rfl) (by rfl) bV (by rw [hsh, hsh]) (by rw [z00, hsh]) (z3e _) ?_; intro w13 ht13 b13
    refine hK _ _ ?_; clear hK K; try simp only [nrm]
    refine WpT.done (by kernel_rfl) ?_ _
    go_wp2_with fail; go_meet; exact ⟨gV, rfl, hgB, b13, hS.trans (ht13.below _ hgB)⟩
   ·refine z1o rfl z3k ?_; intro wV gV hgV bV hbV; have hgB : w3.heap.size ≤ gV := (by have := hS.size; omega); clear hgV; replace hS := yb hS hbV
    refine hK _ _ hS ?_; clear hK K; try simp only [nrm]
    refine WpT.on 5 rfl (fun K hK => ?_)
    go_simp; refine (HDY.out _ (yb hb0 hS)).mono ?_; rintro e w4 ⟨rfl, hb4⟩; (try replace bV := bV.below hb4); replace hS := yb hS hb4
    refine hK _ _ hS ?_; clear hK K; try simp only [nrm]
    refine WpT.tl 9 rfl (zaf rfl rfl (by rfl) (by rfl) (by rfl) (by rfl) (by rfl) (z92 r.o (r.en : Int) LD RT k.serial)) hS ?_
    simp only [nrm]
    refine WpT.ta 11 rfl (fun K hK => ?_)
    refine yy (vs := hdC ⟨r.o, (r.en : Int), LD, RT, k.serial, 0⟩) rfl (by rfl) (by rfl) bV (by rw [hsh, hsh]) (by rw [z00, hsh]) (z3e _) ?_; intro w13 ht13 b13
    refine hK _ _ ?_; clear hK K; try simp only [nrm]
    refine WpT.done (by kernel_rfl) ?_ _
    go_wp2_with fail; go_meet; exact ⟨gV, rfl, hgB, b13, hS.trans (ht13.below _ hgB)⟩
  case rest =>
   obtain ⟨g10, rfl, hg10, b10, hbw⟩ := hcut
   have hck2 := yz (xs := kv k) ((HQ1.out _ HB3.out).below hbw)
   have hch := yz (xs := hdL ⟨r.o, (r.en : Int), LD, RT, k.serial, 0⟩) b10
   have HB4 := ya (yb HB3.out hbw)
   have HG10 : Hid (wa.heap.size ≤ g10 ∧ w3.heap.size ≤ g10) := ya ⟨by have := HB3.out.size; omega, hg10⟩
   replace hb0 := yb hb0 hbw
   have hsk : (kv k).length = 5 := rfl
   have h36' := h36 ⟨r.o, (r.en : Int), LD, RT, k.serial, 0⟩
   have HBW := ya hbw
   clear y0 yr ys hc8 hg10 hbw
   go_upto_region 6 with fail
   have hS : Below wc.heap.size wc wc.drew := (Below.refl _ _).drew
   refine yw 5 (by kernel_rfl) ?_
   refine WpT.tl 0 rfl (z06 (us := kv k) rfl rfl rfl z6v (by rw [z7z, hsk]) hck2) hS ?_
   simp only [nrm]
   refine WpT.tl 1 rfl (z06 (us := hdL ⟨r.o, (r.en : Int), LD, RT, k.serial, 0⟩) rfl rfl rfl z0a (by rw [z00, h36']) hch) hS ?_
   simp only [nrm]
   refine WpT.on 2 rfl (fun K hK => ?_)
   go_simp; refine (HPT.out _).mono ?_; rintro e w4 ⟨B4, rfl, r4, hb4⟩; replace hS := yb hS hb4
   refine hK _ _ hS ?_; clear hK K; try simp only [nrm]
   refine WpT.on 3 rfl (fun K hK => ?_)
   go_simp; refine (HMK.out _ _ (yb hb0 hS) r4).mono ?_; rintro e w5 ⟨rfl, hb5⟩; replace hS := yb hS hb5
   refine hK _ _ hS ?_; clear hK K; try simp only [nrm]
   refine WpT.tp 4 (hS) ?_
   simp only [nrm]
   refine WpT.ta 5 rfl (fun K hK => ?_)
   refine z7d (vs := bv (dg SG)) rfl (by rfl) (by rfl) (b10.below hS) (by rw [z01, hsh]; omega) (by rw [zbn, z01]) (z7v _) (zio _ _) ?_; intro w9 ht9 b9
   refine hK _ _ ?_; clear hK K; try simp only [nrm]
   refine WpT.done (by kernel_rfl) ?_ _
   skip
   have HB9 : Hid (Below wa.heap.size wa w9) := ya ((yb HB4.out hS).trans (ht9.below _ HG10.out.1))
   have hb9 : Below w.heap.size w w9 := hb0.trans ((hS.mono hb0.size).trans (ht9.below _ (by have := HG10.out; have := HBW.out.size; have := hb0.size; have := HB4.out.size; have := HLT.out; omega)))
   clear hS ht9 b10 hck2 hch r4 hb4 hb5 HPT HMK HDY
   have H9 := ya b9
   have zr := z15 (HQ0.out _ HB9.out)
   have HLTg : Hid (g10 < w9.heap.size ∧ w.heap.size + 1 + 1 + 1 < w9.heap.size) := ya ⟨b9.lt, by have := HLT.out; have := HB9.out.size; omega⟩
   obtain ⟨NH, hNH⟩ : ∃ x : Hd, x = ⟨r.o, (r.en : Int), LD, RT, k.serial, SG⟩ := ⟨_, rfl⟩
   have HLh : Hid (z0j NH) := ya (by rw [hNH]; exact ⟨htl, hsgl⟩)
   rw [← hNH] at HX
   have HCH := ya (fun A W (hbW : Below w9.heap.size w9 W) (hfn : Rd W A 1 [.func (.func 77) #[] #[.pointer (some ⟨g10, 0, none⟩)]]) =>
    zny 77 g10 r A W (zao r NH) hfn zpf
     (fun W2 g hb2 hgB hblk => zuq r NH g g10 W2 hblk (by rw [hNH]; exact H9.out.below (yb hbW hb2)) (HOK.out _ (yb hb9 (yb hbW hb2))).hd.rd hhn)
     (fun r' B W g W' hp hgB ht => hp.turned hgB ht))
   have hch9 : ∀ W, Tk (w.heap.size + 1 + 1) w9 W → ∀ j u, (hdL NH)[j]? = some u → W.cell? ((⟨g10, 0, none⟩ : Addr).add j) = some u := fun W hW => yz (xs := hdL NH) (hW.blk (by rw [hNH]; exact H9.out) (by have := HG10.out; have := HLT.out; omega))
   have hlg9 : ∀ W, Tk (w.heap.size + 1 + 1) w9 W → ∀ j u, (lgL r)[j]? = some u → W.cell? ((⟨w.heap.size, 0, none⟩ : Addr).add j) = some u := fun W hW => z15 (hW.blk (HQ0.out _ HB9.out) (by omega))
   have hmf : ∀ (fn : Fn) (first cap : Array Value) (w : World), (Instr.makeFunc fn first cap).run Tryz.prog w = .ok (.func fn first cap) w := fun _ _ _ _ => rfl
   have h36n := h36 NH
   clear b9 zr hNH htl hsgl
   go_upto_region 7 with fail
   have hS : Below w9.heap.size w9 w9.drew := (Below.refl _ _).drew
   have b2 := HQ2.out _ HB9.out
   have b3 := HQ3.out _ HB9.out
   refine z2h (S := (Tk (w.heap.size + 1 + 1) w9)) 6 (by kernel_rfl) ?_
   refine WpT.tl 0 rfl (zdz (us := lgL r) rfl rfl rfl z02 (by rw [ym, h5]) hlg9) (Tk.of hS) ?_
   simp only [nrm]
   refine WpT.tk 1 (Tk.of hS) ?_
   simp only [nrm]
   refine WpT.tl 4 rfl (zdz (us := hdL NH) rfl rfl rfl z0a (by rw [z00, h36n]) hch9) (Tk.of hS) ?_
   simp only [nrm]
   refine WpT.on 2 rfl (fun K hK => ?_)
   refine zwn rfl (by rfl) (znb g10) ?_; intro w2 gf rf hb2; replace hS := yb hS hb2
   refine hK _ _ (Tk.of hS) ?_; clear hK K; try simp only [nrm]
   refine WpT.on 3 rfl (fun K hK => ?_)
   go_simp; refine (HCH.out _ _ hS rf).mono ?_; rintro e w4 ⟨r', B, rfl, hB, hpost, hb4⟩; obtain ⟨A9, c9, rfl, o9, n9, m9⟩ := hpost; have hB9 : w9.heap.size ≤ B := (by have := hS.size; omega); replace hS := yb hS hb4
   refine hK _ _ (Tk.of hS) ?_; clear hK K; try simp only [nrm]
   refine WpT.on 5 rfl (fun K hK => ?_)
   refine yy (vs := lgC { r with hA := A9, hn := r.hn + 1, hc := c9, hs := r.hs ++ [NH] }) rfl (by rfl) (by rfl) (b2.below hS) (by rw [hsz, hsz]) (by rw [ym, hsz]) (z17 _) ?_; intro w12 ht12 b12; have b3' := ht12.blk (b3.below hS) (by omega)
   refine hK _ _ (Tk.turn hS ht12) ?_; clear hK K; try simp only [nrm]
   refine WpT.ta 6 rfl (fun K hK => ?_)
   refine yy (vs := hdC NH) rfl (by rfl) (by rfl) b3' (by rw [hsh, hsh]) (by rw [z00, hsh]) (z3e _) ?_; intro w13 ht13 b13
   refine hK _ _ ?_; clear hK K; try simp only [nrm]
   refine WpT.ta 7 rfl (fun K hK => ?_)
   go_simp; (try go_bits)
   refine hK _ _ ?_; clear hK K; try simp only [nrm]
   refine WpT.done (by kernel_rfl) ?_ _
   skip
   go_wp2_with fail
   have hbF : Below w.heap.size w w13 := ((yb hb9 hS).trans (ht12.below _ (by omega))).trans (ht13.below _ (by omega))
   have hne : ∀ g, g < w9.heap.size → (Value.slice A9 (r.hn + 1) c9).ownBlock ≠ some g := fun g hg e => by have := (World.ownsRow.lt o9 _ e).1; omega
   have hO9 := ht13.own (ht12.own o9 (hne _ (by have := HLTg.out; omega))) (hne _ (by have := HLTg.out; omega))
   refine zl5 rfl rfl rfl rfl (ht13.blk b12 (by omega)) b13 z02 (by rw [ym, hsz]) z0a (by rw [z00, hsh]) ?_
   rw [HX.out]
   refine ⟨_, rfl, zcz r NH A9 (r.hn + 1) c9, ?_, HLh.out, hbF, fun g hg ha => ⟨ha.ev, ha.tp, by
    rcases hg with hg | hg
    ·exact zd6 hO9 (by have := HLTg.out; have := hb9.size; omega)
    ·exact (zfm hO9).away hg, ha.es⟩⟩
   have hk := HOK.out _ hbF
   exact ⟨hk.ev, hk.ec, hk.em, hk.tp, hk.tc, hk.tm, hk.tl, ⟨by simp [hel.out], by rw [List.flatMap_append]; simpa using zbf hO9⟩, n9, m9, fun x hx => by
    rcases List.mem_append.1 hx with hx | hx
    ·exact hk.hl x hx
    ·rw [List.mem_singleton.1 hx]; exact HLh.out⟩
theorem zph (a b : List Nat) (A : Option Addr) (n c : Nat) (B : Option Addr) (m d : Nat) (w : World) (ha : RdD w A n a) (hb : RdD w B m b) (hn : n ≤ 1000000) (hm : m ≤ 1000000) (wa : ∀ x ∈ a, x < 2 ^ 128) (wb : ∀ x ∈ b, x < 2 ^ 128) :
  Calls Tryz.prog 69 #[.slice A n c, .slice B m d] w fun e w' => e = .returned (.bool (decide (a = b))) ∧ Below w.heap.size w w' := by
 have HA := ya ha
 have HB := ya hb
 have HLA := ya ha.len
 have HLB := ya hb.len
 have WA := ya wa
 have WB := ya wb
 clear wa wb
 by_cases hnm : n = m
 ·subst hnm
  have HX := ya (fun (h : ∀ j (hj : j < a.length) (hj2 : j < b.length), a[j] = b[j]) => (show decide (a = b) = true by
   rw [decide_eq_true_eq]; exact List.ext_getElem (by rw [ha.len, hb.len]) (fun i h1 h2 => h i h1 h2)))
  have HY := ya (fun k (h1 : k < a.length) (h2 : k < b.length) (h : a[k] ≠ b[k]) => zi3 h1 h2 h)
  generalize decide (a = b) = V at *
  clear ha hb
  have dn : ((n : Int) != n) = false := by simp
  go_enter Tryz.func69, Tryz.ntmps69
  go_wp2_with fail
  go_loopw [13] (fun vk wr => ∃ k : Nat, k ≤ n ∧ vk = .int .i64 k ∧ Below w.heap.size w wr ∧ Hid (∀ j (hj : j < a.length) (hj2 : j < b.length), j < k → a[j] = b[j])) (fun vk _ => n - (intOf vk).toNat)
  case atStart => exact ⟨0, Nat.zero_le _, rfl, Below.refl _ _, ya (fun j hj hj2 h => by omega)⟩
  case round =>
   obtain ⟨k, hk, rfl, hbw, HV⟩ := hrel
   by_cases hlt : k < n
   ·have hka : k < a.length := by have := HLA.out; omega
    have hkb : k < b.length := by have := HLB.out; omega
    obtain ⟨ad, rfl, hca⟩ := (HA.out.below hbw).elem hka
    obtain ⟨bd, rfl, hcb⟩ := (HB.out.below hbw).elem hkb
    have hne := z8i (WA.out _ (List.getElem_mem hka)) (WB.out _ (List.getElem_mem hkb))
    have HN : Hid (a[k] = b[k] → ∀ j (hj : j < a.length) (hj2 : j < b.length), j < k + 1 → a[j] = b[j]) := ya (fun h j hj hj2 hjk => by
     by_cases e : j = k
     ·subst e; exact h
     ·exact HV.out j hj hj2 (by omega))
    have HM := ya (HY.out k hka hkb)
    generalize a[k] = x at *
    generalize b[k] = y at *
    go_upto_region 6 with fail
    by_cases hxy : x = y
    ·have dx : decide (x = y) = true := by simpa using hxy
     rw [dx] at hne
     have HN2 := ya (HN.out hxy)
     clear HN HM HV dx hxy
     refine yw 9 (by kernel_rfl) ?_
     refine WpT.tk 0 ((Below.refl _ _).drew) ?_
     simp only [nrm]
     refine WpT.tk 1 ((Below.refl _ _).drew) ?_
     simp only [nrm]
     refine WpT.tk 2 ((Below.refl _ _).drew) ?_
     simp only [nrm]
     refine WpT.tl 3 rfl (z06 (us := bv (dg x)) rfl rfl rfl yn (by rw [yf, z01]) hca) ((Below.refl _ _).drew) ?_
     simp only [nrm]
     refine WpT.tk 4 ((Below.refl _ _).drew) ?_
     simp only [nrm]
     refine WpT.tk 5 ((Below.refl _ _).drew) ?_
     simp only [nrm]
     refine WpT.tk 6 ((Below.refl _ _).drew) ?_
     simp only [nrm]
     refine WpT.tl 7 rfl (z06 (us := bv (dg y)) rfl rfl rfl yn (by rw [yf, z01]) hcb) ((Below.refl _ _).drew) ?_
     simp only [nrm]
     refine WpT.tk 8 ((Below.refl _ _).drew) ?_
     simp only [nrm]
     refine WpT.done (by kernel_rfl) ?_ _
     go_wp2_with fail
     exact ⟨⟨k + 1, by omega, by go_num, hbw.drew, HN2⟩, by simp [intOf]; omega⟩
    ·have dx : decide (x = y) = false := by simpa using hxy
     rw [dx] at hne
     have hV := HM.out hxy
     subst hV
     clear HN HM HV dx hxy HX HY
     refine yw 9 (by kernel_rfl) ?_
     refine WpT.tk 0 ((Below.refl _ _).drew) ?_
     simp only [nrm]
     refine WpT.tk 1 ((Below.refl _ _).drew) ?_
     simp only [nrm]
     refine WpT.tk 2 ((Below.refl _ _).drew) ?_
     simp only [nrm]
     refine WpT.tl 3 rfl (z06 (us := bv (dg x)) rfl rfl rfl yn (by rw [yf, z01]) hca) ((Below.refl _ _).drew) ?_
     simp only [nrm]
     refine WpT.tk 4 ((Below.refl _ _).drew) ?_
     simp only [nrm]
     refine WpT.tk 5 ((Below.refl _ _).drew) ?_
     simp only [nrm]
     refine WpT.tk 6 ((Below.refl _ _).drew) ?_
     simp only [nrm]
     refine WpT.tl 7 rfl (z06 (us := bv (dg y)) rfl rfl rfl yn (by rw [yf, z01]) hcb) ((Below.refl _ _).drew) ?_
     simp only [nrm]
     refine WpT.tk 8 ((Below.refl _ _).drew) ?_
     simp only [nrm]
     refine WpT.done (by kernel_rfl) ?_ _
     go_wp2_with fail
     go_ret
     exact ⟨rfl, hbw.drew⟩
   ·obtain rfl : k = n := by omega
    have hV : V = true := HX.out (fun j hj hj2 => HV.out j hj hj2 (by have := HLA.out; omega))
    subst hV
    clear HX HY HV
    go_wp2_with fail
    go_ret
    exact ⟨rfl, hbw⟩
 ·have hV : decide (a = b) = false := by
   rw [decide_eq_false_iff_not]
   intro e
   subst e
   exact hnm (ha.len.symm.trans hb.len)
  rw [hV]
  have dn : ((n : Int) != m) = true := by simp; omega
  clear ha hb hV
  go_enter Tryz.func69, Tryz.ntmps69
  go_wp2_with fail
  go_ret
  exact ⟨rfl, Below.refl _ _⟩
theorem ze0 {P : Program} {ops : Array Oper} {S : World → Prop} {o : Oper} {a : Act} (hw : Region.wanted o (yielded ops a.tmps) = true) {t : TypeId} {x y : Operand} (ho : o.op = .slice t x none (some y) none) (hu : P.underlying t = some (.slice (P.elem t))) {s : Nat} (hs : (P.info? (P.elem t)).map (·.size) = some s)
  {A : Option Addr} {m c k : Nat} (hx : a.eval x = .slice A m c) (hy : a.eval y = .int .i64 (k : Int)) (hk : k ≤ c) : YieldsIf P ops S o (.slice A k c) a := by
 refine .inl ⟨hw, fun w hS => ?_⟩
 have hr : (Instr.sliceAt t (.slice A m c) none (some (.int .i64 (k : Int))) none).run P w = .ok (.slice A k c) w := by
  rw [run_sliceAt_slice w _ _ _ _ _ hu, run_slice_h w _ A m c hu .i64 (k : Int) (by omega) (by omega), zls hs]
  have hA : (if c = 0 then A else A.map (·.add (0 * s))) = A := by
   split
   ·rfl
   ·cases A with
    | none => rfl
    | some ad => simp [Addr.add]
  show Result.ok (sliced A 0 (Int.toNat (k : Int)) c s) w = _
  unfold sliced
  rw [hA, Int.toNat_natCast, Nat.sub_zero, Nat.sub_zero]
 unfold execOp
 simp only [ho, hx, hy, Option.map_some, Option.map_none, hr, Sem.run_bind, Result.andThen_ok, Sem.run_pure]
theorem zd8 {nd : Nat → Nat → Nat} {em : Nat} (N : Nds nd em) : ∀ (k : Nat) (l : List Nat), l.length ≤ k → (∀ x ∈ l, x < 2 ^ 128) → ∀ x ∈ z0e nd em l, x < 2 ^ 128
 | 0, l, h, _ => by obtain rfl := List.eq_nil_of_length_eq_zero (Nat.le_zero.1 h); rw [z34]; intro x hx; simp at hx
 | k + 1, l, h, hl => by
  by_cases h0 : l = []
  ·subst h0; rw [z34]; intro x hx; simp at hx
  ·rw [z5g nd em h0]
   have hb := zar l.length
   have hp := zd9 h0
   intro x hx
   rcases List.mem_cons.1 hx with rfl | hx
   ·exact z9y N _ _ (Nat.le_refl _) (fun y hy => hl y (List.mem_of_mem_take hy))
   ·exact zd8 N k _ (by rw [List.length_drop]; omega) (fun y hy => hl y (List.mem_of_mem_drop hy)) x hx
theorem z4v.take {W : World} {A : Option Addr} {n : Nat} {l : List EvR} (h : z4v W A n l) {k : Nat} (hk : k ≤ n) : z4v W A k (l.take k) := by
 have hl := h.len
 refine ⟨by rw [List.length_take]; omega, ?_, fun r hr => h.ok r (List.mem_of_mem_take hr)⟩
 have := h.rd.take (k := k * 25) (Nat.mul_le_mul_right 25 hk)
 rw [zco z2j l k (by omega)] at this
 exact this
theorem zpj (l : List EvR) (k : Nat) : ye (l.take k) = (ye l).take k := by simp [ye, List.map_take]
theorem ziz (l : List EvR) (k : Nat) (hk : k ≤ l.length) : z19 (ye (l.take k)) = z1c (ye l) k := by
 unfold z19 z1c
 rw [z1h, List.length_take, Nat.min_eq_left hk]
 by_cases h : k = 0
 ·subst h; rfl
 ·rw [if_neg h, if_neg h, zpj, List.getElem?_take, if_pos (by omega)]
theorem zjn (l : List EvR) (k : Nat) (hk : k < l.length) : z2y k (z1c (ye l) k) ((ye l).drop k) = (if follows (ye (l.take k)) l[k].e = 0 then z2y (k + 1) (z1c (ye l) (k + 1)) ((ye l).drop (k + 1)) else false) := by
 have h1 : (ye l).drop k = l[k].e :: (ye l).drop (k + 1) := by
  rw [List.drop_eq_getElem_cons (by rw [z1h]; exact hk)]
  simp [ye]
 rw [h1, z2y]
 unfold follows
 rw [z1h, List.length_take, Nat.min_eq_left (by omega), ziz l k (by omega), zen l k hk]
theorem zjm (l : List EvR) : z2y l.length (z1c (ye l) l.length) ((ye l).drop l.length) = true := by
 rw [List.drop_of_length_le (by rw [z1h]; exact Nat.le_refl _)]; rfl
theorem zir (H : He) (o : Int) (ev : List Ev) (la : Int) (l : List Hd) (k : Nat) (hk : k < l.length) : z24 H o ev la (l.drop k) = (if l[k].office = o ∧ la ≤ l[k].commit ∧ l[k].commit ≤ ev.length ∧ l[k].day = z1c ev l[k].commit.toNat ∧ root H.nd H.em ((yp H ev).take l[k].commit.toNat) = l[k].root then z24 H o ev l[k].commit (l.drop (k + 1)) else false) := by
 rw [List.drop_eq_getElem_cons hk, z24]
end
end Go.Proofs.YtcapckngikekpaaGreatDoor
