/-
  These texts, joined.
  A list that a function value captured and lengthens: what stands meanwhile; the program's proof of an element. Conditions: at most 1000000 digests; the tables of constants stand.
  The program's Inclusion. Conditions: at most 1000000 digests; the table of constants stands.
  The program's Consistency. Conditions: at most 1000000 digests; the table of constants stands.
  A path that is gone through: its first and last digest; what settles a result. Conditions: at most 1000000 digests, which lie in memory that was there before.
  The check of the proof of an element. Conditions: at most 1000000 digests in the path; the table of constants stands.
-/
import Derived.Test.YtgggpnjnhhkmgaaDoorB5
import Derived.Defers
namespace Go.Proofs.YtgggpnjnhhkmgaaDoor
set_option linter.unusedSimpArgs false
set_option linter.unusedVariables false
open Go.RowKit Exch
theorem yields_loadS {P : Program} {ops : Array Oper} {S : World → Prop} {o : Oper} {a : Act} {t : TypeId} {x : Operand} {p : Addr} {us : List Value} (ho : o.op = .load t x) (hg : o.guard = none) (ha : a.eval x = .pointer (some p))
    (hu : (P.underlying t).map isAggDesc = some true) (hi : (P.info? t).map (·.size) = some us.length) (hc : ∀ W, S W → ∀ j u, us[j]? = some u → W.cell? (p.add j) = some u) : YieldsIf P ops S o (.agg us.toArray) a := by
  refine .inl ⟨by simp [Region.wanted, hg], fun w hS => ?_⟩
  unfold execOp
  simp only [ho, ha, Instr.loadAt, Instr.sureAddr, Sem.run_bind, Sem.run_pure, Result.andThen_ok, run_loadK (w := w) hu hi (hc w hS)]
theorem yields_load1S {P : Program} {ops : Array Oper} {S : World → Prop} {o : Oper} {a : Act} {t : TypeId} {x : Operand} {p : Addr} {v : Value} (ho : o.op = .load t x) (hg : o.guard = none) (ha : a.eval x = .pointer (some p))
    (hu : (P.underlying t).map isAggDesc = some false) (hc : ∀ W, S W → W.cell? p = some v) : YieldsIf P ops S o v a := by
  refine .inl ⟨by simp [Region.wanted, hg], fun w hS => ?_⟩
  unfold execOp
  simp only [ho, ha, Instr.loadAt, Instr.sureAddr, Sem.run_bind, Sem.run_pure, Result.andThen_ok, run_loadVar_one w p t v hu (hc w hS)]
theorem own_ge {w : World} {B : Nat} {e : TypeId} {k : Nat} {v : Value} {n : Nat} {xs : List Value} (h : w.ownsRow B e k v n xs) {g : Nat} (hg : g < B) : v.ownBlock ≠ some g := fun e2 => by
  rcases h.2 with ⟨rfl, _⟩ | ⟨g2, cap2, cur2, rfl, h3, _⟩
  · cases e2
  · have : g2 = g := Option.some.inj e2
    omega
theorem own_one {w : World} {B : Nat} {e : TypeId} {k n : Nat} {v : Value} {xs : List Value} (h : w.ownsRow B e k v n xs) : v.oneCell' = true := by
  rcases h.2 with ⟨rfl, _⟩ | ⟨_, _, _, rfl, _⟩ <;> rfl
theorem blk_grown {w w' : World} {g : Nat} {t : TypeId} {cs : Array Value} {row : Option Nat} (h : Blk w g t cs) (hg : w.grownBy w' row) (hn : row ≠ some g) : Blk w' g t cs := (hg.block g h.lt (fun e => hn e.symm)).trans h
theorem wp_region_TS {P : Program} {ops : Array Oper} {Q : Exit → Act → World → Prop} {id : Nat} {a : Act} {w : World} {S : World → Prop} (t : Nat) (hm : P.follows .mixedOrders = true)
    (h : WpT P ops Q S t ops.size (Array.replicate ops.size false) a w.drew) : (Code.region id ops true).wp P Q a w :=
  wp_region_any hm (WpT.any _ _ _ _ h)
/-- Where the variables lie: behind the call's beginning, before what it makes later. -/
structure Pos (w0 : World) (gp gt B : Nat) : Prop where
  p : w0.heap.size ≤ gp
  t : w0.heap.size ≤ gt
  ne : gp ≠ gt
  pB : gp < B
  tB : gt < B
/-- What stands while the list grows: all older blocks, the function value, the variable. -/
structure AccS (w0 : World) (gp gt B : Nat) (tf : TypeId) (F v : Value) (W : World) : Prop where
  old : Below w0.heap.size w0 W
  fn : Blk W gp tf #[F]
  var : Blk W gt 22 #[v]
  sz : B ≤ W.heap.size
section
variable {w0 W W' : World} {gp gt B : Nat} {tf : TypeId} {F v v' : Value}
theorem AccS.below (h : AccS w0 gp gt B tf F v W) (hb : Below W.heap.size W W') : AccS w0 gp gt B tf F v W' :=
  ⟨bstep h.old hb, h.fn.below hb, h.var.below hb, Nat.le_trans h.sz hb.size⟩
theorem AccS.grown (h : AccS w0 gp gt B tf F v W) (hp : Pos w0 gp gt B) {row : Option Nat} (hg : W.grownBy W' row) (hb : Below B W W') (hr : ∀ g, row = some g → B ≤ g) : AccS w0 gp gt B tf F v W' :=
  ⟨h.old.trans (hb.mono (by have := hp.p; have := hp.pB; omega)), blk_grown h.fn hg (fun e => by have := hr _ e; have := hp.pB; omega), blk_grown h.var hg (fun e => by have := hr _ e; have := hp.tB; omega), Nat.le_trans h.sz hb.size⟩
theorem AccS.turned (h : AccS w0 gp gt B tf F v W) (hp : Pos w0 gp gt B) (ht : Turned gt W W') (hv : Blk W' gt 22 #[v']) : AccS w0 gp gt B tf F v' W' :=
  ⟨h.old.trans (ht.below _ hp.t), ht.blk h.fn hp.ne, hv, by rw [ht.size]; exact h.sz⟩
theorem own_row {w : World} {B : Nat} {e : TypeId} {k n : Nat} {v : Value} {xs : List Value} (h : w.ownsRow B e k v n xs) : ∀ g, v.ownBlock = some g → B ≤ g := fun g e => (World.ownsRow.lt h g e).1
end
/-- .. and the list so far. -/
def Acc (w0 : World) (gp gt B : Nat) (tf : TypeId) (F : Value) (P : List Nat) (W : World) : Prop := ∃ v, AccS w0 gp gt B tf F v W ∧ OwnDs W B v P
theorem Acc.below {w0 W W' : World} {gp gt B : Nat} {tf : TypeId} {F : Value} {P : List Nat} (h : Acc w0 gp gt B tf F P W) (hb : Below W.heap.size W W') : Acc w0 gp gt B tf F P W' := by
  obtain ⟨v, h1, h2⟩ := h
  exact ⟨v, h1.below hb, h2.below hb⟩
def AccIs (w0 : World) (gp gt B : Nat) (tf : TypeId) (F : Value) (P : List Nat) (e : Ending) (w' : World) : Prop := e = .returned (.tuple #[]) ∧ Acc w0 gp gt B tf F P w'
abbrev fnV (f : FuncId) (caps : List Nat) : Value := .func (.func f) #[] (caps.map fun g => Value.pointer (some ⟨g, 0, none⟩)).toArray
set_option maxRecDepth 20000 in
set_option maxHeartbeats 2000000 in
theorem inclC_any {nd : Nat → Nat → Nat} {em : Nat} (N : Nds nd em) (w0 : World) (gp gt B : Nat) (hpos : Pos w0 gp gt B) (hg : GCon w0) (K : Nat) : ∀ (l : List Nat) (i : Nat) (A : Option Addr) (n c : Nat) (P : List Nat) (w : World), n ≤ K → n ≤ 1000000 → P.length + n ≤ 2000000 → i < n → RdD w0 A n l → n ≤ c → c ≤ maxLen →
    Acc w0 gp gt B 64 (fnV 32 [gp, gt]) P w →
    Calls Tryd.prog 32 #[.slice A n c, .int .i64 i, .pointer (some ⟨gp, 0, none⟩), .pointer (some ⟨gt, 0, none⟩)] w (AccIs w0 gp gt B 64 (fnV 32 [gp, gt]) (P ++ Merk.incl nd em l i)) := by
  induction K with
  | zero => intro l i A n c P w hK hn hP hi; omega
  | succ K ih =>
    intro l i A n c P w hK hn hP hi hr hnc hcm hacc
    have hl := hr.len
    by_cases h1 : n = 1
    · subst h1
      rw [Merk.incl_one nd em (by omega), List.append_nil]
      unfold AccIs
      go_enter Tryd.func32, Tryd.ntmps32
      go_wp2_with fail
      refine bodyPost_ret (results_none rfl _ _ _) rfl ?_
      exact ⟨rfl, hacc⟩
    · have hk1 := Merk.split_lt (n := n) (by omega)
      have hk0 := Merk.split_pos n
      have HS := Lib.hid (fun W => split_any n W (by omega) (by omega))
      have hcm2 : c ≤ 9223372036854775807 := hcm
      have e1 : ((n : Int) == 1) = false := by simp; omega
      by_cases hik : i < Merk.split n
      ·
        have hx := Merk.incl_left nd em (l := l) (i := i) (by omega) (by rw [hl]; exact hik)
        rw [hl] at hx
        have hpl := Merk.incl_len nd em _ (l.take (Merk.split n)) i (Nat.le_refl _)
        rw [List.length_take] at hpl
        have HI := Lib.hid (fun (W : World) (h : Acc w0 gp gt B 64 (fnV 32 [gp, gt]) P W) => ih (l.take (Merk.split n)) i A (Merk.split n) (Merk.split n) P W (by omega) (by omega) (by omega) hik (hr.take (by omega)) (Nat.le_refl _) (by omega) h)
        have HRT := Lib.hid (fun (W : World) (hb : Below w0.heap.size w0 W) => root_any N n (l.drop (Merk.split n)) (if c = Merk.split n then A else A.map (·.add (Merk.split n * 16))) (n - Merk.split n) (c - Merk.split n) W (by omega) (by omega) ((hr.drop (by omega) hnc).below hb) (by omega) (by omega) (hg.below hb))
        rw [hx, ← List.append_assoc]
        have HPL : Hid (P.length + (Merk.incl nd em (l.take (Merk.split n)) i).length + 1 ≤ 3000000) := Lib.hid (by omega)
        clear hx ih hr hcm hl hpl 
        generalize Merk.root nd em (l.drop (Merk.split n)) = X at *
        generalize Merk.incl nd em (l.take (Merk.split n)) i = Q at *
        generalize Merk.split n = k at *
        obtain ⟨v, hSv, hownv⟩ := hacc
        have hfn := hSv.fn.below (Below.refl w.heap.size w).drew
        have hacc2 : Acc w0 gp gt B 64 (fnV 32 [gp, gt]) P w.drew := Acc.below ⟨v, hSv, hownv⟩ (Below.refl _ _).drew
        have HACC := Lib.hid hacc2
        clear hSv hownv hacc2
        unfold AccIs at HI ⊢
        unfold DgIs at HRT
        have HPQ : Hid ((P ++ Q).length + 1 ≤ 3000000) := Lib.hid (by rw [List.length_append]; exact HPL.out)
        generalize P ++ Q = PQ at *
        generalize hF : fnV 32 [gp, gt] = F at *
        have HF := Lib.hid hF.symm
        clear hF
        have hik2 : (i : Int) < (k : Int) := by omega
        go_enter Tryd.func32, Tryd.ntmps32
        go_upto_region 3 with (go_at_call 33; refine (HS.out _).mono ?_; rintro e w1 ⟨rfl, rfl⟩)
        rw [HF.out] at hfn
        refine wp_region_TS (S := fun W => Blk W gp 64 #[fnV 32 [gp, gt]]) 7 (by kernel_rfl) ?_
        refine WpT.take (i := 0) rfl (by kernel_rfl) (fun _ _ _ h => h) (yields_load1S rfl rfl rfl (by kernel_rfl) (fun W h => h.cell 0)) (hfn) ?_
        try simp only [nrm]
        refine WpT.take (i := 1) rfl (by kernel_rfl) (fun _ _ _ h => h) (.inl ⟨by rfl, fun w hSw => by clear hSw; go_simp; (try go_bits); (try rw [if_pos (by omega)]); (try with_reducible rfl)⟩) (hfn) ?_
        try simp only [nrm]
        refine WpT.take (i := 2) rfl (by kernel_rfl) (fun _ _ _ h => h) (.inl ⟨by rfl, fun w hSw => by clear hSw; go_simp; (try go_bits); (try rw [if_pos (by omega)]); (try with_reducible rfl)⟩) (hfn) ?_
        try simp only [nrm]
        refine WpT.take (i := 3) rfl (by kernel_rfl) (fun _ _ _ h => h) (.inl ⟨by rfl, fun w hSw => by clear hSw; go_simp; (try go_bits); (try rw [if_pos (by omega)]); (try with_reducible rfl)⟩) (hfn) ?_
        try simp only [nrm]
        refine WpT.take (i := 4) rfl (by kernel_rfl) (fun _ _ _ h => h) (.inl ⟨by rfl, fun w hSw => by clear hSw; go_simp; (try go_bits); (try rw [if_pos (by omega)]); (try with_reducible rfl)⟩) (hfn) ?_
        try simp only [nrm]
        refine WpT.take (i := 5) rfl (by kernel_rfl) (fun _ _ _ h => h) (.inl ⟨by rfl, fun w hSw => by clear hSw; go_simp; (try go_bits); (try rw [if_pos (by omega)]); (try with_reducible rfl)⟩) (hfn) ?_
        try simp only [nrm]
        refine WpT.one (i := 6) rfl (by kernel_rfl) (fun K hK => ?_)
        go_simp; refine (HI.out _ HACC.out).mono ?_; rintro e w5 ⟨rfl, v5, hS5, hown5⟩; have hfn5 := hS5.fn; rw [HF.out] at hfn5
        refine hK _ _ (hfn5) ?_; clear hK K; try simp only [nrm]
        refine WpT.done (by kernel_rfl) ?_ _
        skip
        clear hfn hfn5 HACC
        have hS := hS5.below (Below.refl w5.heap.size w5).drew
        replace hown5 := hown5.below (Below.refl w5.heap.size w5).drew
        clear hS5
        go_upto_region 4 with (fail)
        refine wp_region_TS (S := AccS w0 gp gt B 64 F v5) 7 (by kernel_rfl) ?_
        refine WpT.take (i := 0) rfl (by kernel_rfl) (fun _ _ _ h => h) (yields_load1S rfl rfl rfl (by kernel_rfl) (fun W h => h.var.cell 0)) (hS) ?_
        try simp only [nrm]
        refine WpT.take (i := 1) rfl (by kernel_rfl) (fun _ _ _ h => h) (.inl ⟨by rfl, fun w hSw => by clear hSw; go_simp; (try go_bits); (try rw [if_pos (by omega)]); (try with_reducible rfl)⟩) (hS) ?_
        try simp only [nrm]
        refine WpT.take (i := 2) rfl (by kernel_rfl) (fun _ _ _ h => h) (.inl ⟨by rfl, fun w hSw => by clear hSw; go_simp; (try go_bits); (try rw [if_pos (by omega)]); (try with_reducible rfl)⟩) (hS) ?_
        try simp only [nrm]
        refine WpT.take (i := 3) rfl (by kernel_rfl) (fun _ _ _ h => h) (.inl ⟨by rfl, fun w hSw => by clear hSw; go_simp; (try go_bits); (try rw [if_pos (by omega)]); (try with_reducible rfl)⟩) (hS) ?_
        try simp only [nrm]
        refine WpT.one (i := 4) rfl (by kernel_rfl) (fun K hK => ?_)
        go_simp; refine (HRT.out _ hS.old).mono ?_; rintro e w6 ⟨rfl, hb6⟩; replace hS := hS.below hb6; replace hown5 := hown5.below hb6
        refine hK _ _ (hS) ?_; clear hK K; try simp only [nrm]
        refine WpT.one (i := 5) rfl (by kernel_rfl) (fun K hK => ?_)
        refine (if_pos (by rfl)).mpr ?_; refine wp_lit1D rfl (by rfl) ?_; intro w7 g7 hg7 hr7 hb7; clear hg7; replace hS := hS.below hb7; replace hown5 := hown5.below hb7
        refine hK _ _ (hS) ?_; clear hK K; try simp only [nrm]
        refine WpT.one (i := 6) rfl (by kernel_rfl) (fun K hK => ?_)
        refine (if_pos (by rfl)).mpr ?_; refine wp_appK rfl elemDg (by rfl) hown5 (by rfl) (m := 1) hr7 (one_dgsL [X]) (by have := HPQ.out; omega) hS.sz ?_; intro v8 w8 hown8 hg8 hb8; replace hS := hS.grown hpos hg8 hb8 (own_row hown5); replace hown8 : OwnDs w8 B v8 (PQ ++ [X]) := OwnDs.app hown8
        refine hK _ _ (hS) ?_; clear hK K; try simp only [nrm]
        refine WpT.tail (i := 7) rfl (by kernel_rfl) (by kernel_rfl) (fun K hK => ?_)
        refine (if_pos (by rfl)).mpr ?_; refine wp_set (j := 0) (v := v8) (cs' := #[v8]) rfl (by kernel_rfl) (by rfl) (by rfl) (own_one hown8) hS.var (by simp) (by simp) ?_; intro w9 ht9 b9
        refine hK _ _ ?_; clear hK K; try simp only [nrm]
        refine WpT.done (by kernel_rfl) ?_ _
        skip
        have hfin : Acc w0 gp gt B 64 F (PQ ++ [X]) w9 := ⟨v8, hS.turned hpos ht9 b9, ht9.own hown8 (own_ge hown8 hpos.tB)⟩
        clear hS hown8 hown5 ht9 b9
        go_wp2_with fail
        refine bodyPost_end (results_none rfl _ _ _) rfl ?_
        exact ⟨rfl, hfin⟩
      ·
        have hx := Merk.incl_right nd em (l := l) (i := i) (by omega) (by rw [hl]; exact hik)
        rw [hl] at hx
        have hpl := Merk.incl_len nd em _ (l.drop (Merk.split n)) (i - Merk.split n) (Nat.le_refl _)
        rw [List.length_drop] at hpl
        have HI := Lib.hid (fun (W : World) (h : Acc w0 gp gt B 64 (fnV 32 [gp, gt]) P W) => ih (l.drop (Merk.split n)) (i - Merk.split n) (if c = Merk.split n then A else A.map (·.add (Merk.split n * 16))) (n - Merk.split n) (c - Merk.split n) P W (by omega) (by omega) (by omega) (by omega) (hr.drop (by omega) hnc) (by omega) (by omega) h)
        have HRT := Lib.hid (fun (W : World) (hb : Below w0.heap.size w0 W) => root_any N n (l.take (Merk.split n)) A (Merk.split n) (Merk.split n) W (by omega) (by omega) ((hr.take (by omega)).below hb) (Nat.le_refl _) (by omega) (hg.below hb))
        rw [hx, ← List.append_assoc]
        have hcast : ((i - Merk.split n : Nat) : Int) = (i : Int) - (Merk.split n : Int) := by omega
        rw [hcast] at HI
        have HPL : Hid (P.length + (Merk.incl nd em (l.drop (Merk.split n)) (i - Merk.split n)).length + 1 ≤ 3000000) := Lib.hid (by omega)
        clear hx ih hr hcm hl hpl hcast
        generalize Merk.root nd em (l.take (Merk.split n)) = X at *
        generalize Merk.incl nd em (l.drop (Merk.split n)) (i - Merk.split n) = Q at *
        generalize Merk.split n = k at *
        obtain ⟨v, hSv, hownv⟩ := hacc
        have hfn := hSv.fn.below (Below.refl w.heap.size w).drew
        have hacc2 : Acc w0 gp gt B 64 (fnV 32 [gp, gt]) P w.drew := Acc.below ⟨v, hSv, hownv⟩ (Below.refl _ _).drew
        have HACC := Lib.hid hacc2
        clear hSv hownv hacc2
        unfold AccIs at HI ⊢
        unfold DgIs at HRT
        have HPQ : Hid ((P ++ Q).length + 1 ≤ 3000000) := Lib.hid (by rw [List.length_append]; exact HPL.out)
        generalize P ++ Q = PQ at *
        generalize hF : fnV 32 [gp, gt] = F at *
        have HF := Lib.hid hF.symm
        clear hF
        have hik2 : ¬ (i : Int) < (k : Int) := by omega
        have hsub : 0 ≤ (i : Int) - (k : Int) ∧ (i : Int) - (k : Int) ≤ 1000000 := by omega
        have HW : Hid (wrap64 ((i : Int) - (k : Int)) = (i : Int) - (k : Int) ∧ IntKind.i64.wrap ((i : Int) - (k : Int)) = (i : Int) - (k : Int)) := Lib.hid ⟨by unfold wrap64; omega, wrap_small _ (by omega) (by omega)⟩
        go_enter Tryd.func32, Tryd.ntmps32
        go_upto_region 5 with (go_at_call 33; refine (HS.out _).mono ?_; rintro e w1 ⟨rfl, rfl⟩)
        rw [HF.out] at hfn
        refine wp_region_TS (S := fun W => Blk W gp 64 #[fnV 32 [gp, gt]]) 8 (by kernel_rfl) ?_
        refine WpT.take (i := 0) rfl (by kernel_rfl) (fun _ _ _ h => h) (yields_load1S rfl rfl rfl (by kernel_rfl) (fun W h => h.cell 0)) (hfn) ?_
        try simp only [nrm]
        refine WpT.take (i := 1) rfl (by kernel_rfl) (fun _ _ _ h => h) (.inl ⟨by rfl, fun w hSw => by clear hSw; go_simp; (try go_bits); (try rw [if_pos (by omega)]); (try with_reducible rfl)⟩) (hfn) ?_
        try simp only [nrm]
        refine WpT.take (i := 2) rfl (by kernel_rfl) (fun _ _ _ h => h) (.inl ⟨by rfl, fun w hSw => by clear hSw; go_simp; (try go_bits); (try rw [if_pos (by omega)]); (try with_reducible rfl)⟩) (hfn) ?_
        try simp only [nrm]
        refine WpT.take (i := 3) rfl (by kernel_rfl) (fun _ _ _ h => h) (.inl ⟨by rfl, fun w hSw => by clear hSw; go_simp; (try go_bits); (try rw [if_pos (by omega)]); (try with_reducible rfl)⟩) (hfn) ?_
        try simp only [nrm]
        refine WpT.take (i := 4) rfl (by kernel_rfl) (fun _ _ _ h => h) (.inl ⟨by rfl, fun w hSw => by clear hSw; go_simp; (try go_bits); (try rw [if_pos (by omega)]); (try with_reducible rfl)⟩) (hfn) ?_
        try simp only [nrm]
        refine WpT.take (i := 5) rfl (by kernel_rfl) (fun _ _ _ h => h) (.inl ⟨by rfl, fun w hSw => by clear hSw; go_simp; (try go_bits); (try rw [if_pos (by omega)]); (try with_reducible rfl)⟩) (hfn) ?_
        try simp only [nrm]
        refine WpT.take (i := 6) rfl (by kernel_rfl) (fun _ _ _ h => h) (.inl ⟨by rfl, fun w hSw => by clear hSw; go_simp; (try go_bits); (try rw [if_pos (by omega)]); (try with_reducible rfl)⟩) (hfn) ?_
        try simp only [nrm]
        refine WpT.one (i := 7) rfl (by kernel_rfl) (fun K hK => ?_)
        go_simp; (try simp only [HW.out.1, HW.out.2]); refine (HI.out _ HACC.out).mono ?_; rintro e w5 ⟨rfl, v5, hS5, hown5⟩; have hfn5 := hS5.fn; rw [HF.out] at hfn5
        refine hK _ _ (hfn5) ?_; clear hK K; try simp only [nrm]
        refine WpT.done (by kernel_rfl) ?_ _
        skip
        clear hfn hfn5 HACC
        have hS := hS5.below (Below.refl w5.heap.size w5).drew
        replace hown5 := hown5.below (Below.refl w5.heap.size w5).drew
        clear hS5
        go_upto_region 6 with (fail)
        refine wp_region_TS (S := AccS w0 gp gt B 64 F v5) 8 (by kernel_rfl) ?_
        refine WpT.take (i := 0) rfl (by kernel_rfl) (fun _ _ _ h => h) (yields_load1S rfl rfl rfl (by kernel_rfl) (fun W h => h.var.cell 0)) (hS) ?_
        try simp only [nrm]
        refine WpT.take (i := 1) rfl (by kernel_rfl) (fun _ _ _ h => h) (.inl ⟨by rfl, fun w hSw => by clear hSw; go_simp; (try go_bits); (try rw [if_pos (by omega)]); (try with_reducible rfl)⟩) (hS) ?_
        try simp only [nrm]
        refine WpT.take (i := 2) rfl (by kernel_rfl) (fun _ _ _ h => h) (.inl ⟨by rfl, fun w hSw => by clear hSw; go_simp; (try go_bits); (try rw [if_pos (by omega)]); (try with_reducible rfl)⟩) (hS) ?_
        try simp only [nrm]
        refine WpT.take (i := 3) rfl (by kernel_rfl) (fun _ _ _ h => h) (.inl ⟨by rfl, fun w hSw => by clear hSw; go_simp; (try go_bits); (try rw [if_pos (by omega)]); (try with_reducible rfl)⟩) (hS) ?_
        try simp only [nrm]
        refine WpT.take (i := 4) rfl (by kernel_rfl) (fun _ _ _ h => h) (.inl ⟨by rfl, fun w hSw => by clear hSw; go_simp; (try go_bits); (try rw [if_pos (by omega)]); (try with_reducible rfl)⟩) (hS) ?_
        try simp only [nrm]
        refine WpT.one (i := 5) rfl (by kernel_rfl) (fun K hK => ?_)
        go_simp; refine (HRT.out _ hS.old).mono ?_; rintro e w6 ⟨rfl, hb6⟩; replace hS := hS.below hb6; replace hown5 := hown5.below hb6
        refine hK _ _ (hS) ?_; clear hK K; try simp only [nrm]
        refine WpT.one (i := 6) rfl (by kernel_rfl) (fun K hK => ?_)
        refine (if_pos (by rfl)).mpr ?_; refine wp_lit1D rfl (by rfl) ?_; intro w7 g7 hg7 hr7 hb7; clear hg7; replace hS := hS.below hb7; replace hown5 := hown5.below hb7
        refine hK _ _ (hS) ?_; clear hK K; try simp only [nrm]
        refine WpT.one (i := 7) rfl (by kernel_rfl) (fun K hK => ?_)
        refine (if_pos (by rfl)).mpr ?_; refine wp_appK rfl elemDg (by rfl) hown5 (by rfl) (m := 1) hr7 (one_dgsL [X]) (by have := HPQ.out; omega) hS.sz ?_; intro v8 w8 hown8 hg8 hb8; replace hS := hS.grown hpos hg8 hb8 (own_row hown5); replace hown8 : OwnDs w8 B v8 (PQ ++ [X]) := OwnDs.app hown8
        refine hK _ _ (hS) ?_; clear hK K; try simp only [nrm]
        refine WpT.tail (i := 8) rfl (by kernel_rfl) (by kernel_rfl) (fun K hK => ?_)
        refine (if_pos (by rfl)).mpr ?_; refine wp_set (j := 0) (v := v8) (cs' := #[v8]) rfl (by kernel_rfl) (by rfl) (by rfl) (own_one hown8) hS.var (by simp) (by simp) ?_; intro w9 ht9 b9
        refine hK _ _ ?_; clear hK K; try simp only [nrm]
        refine WpT.done (by kernel_rfl) ?_ _
        skip
        have hfin : Acc w0 gp gt B 64 F (PQ ++ [X]) w9 := ⟨v8, hS.turned hpos ht9 b9, ht9.own hown8 (own_ge hown8 hpos.tB)⟩
        clear hS hown8 hown5 ht9 b9
        go_wp2_with fail
        refine bodyPost_end (results_none rfl _ _ _) rfl ?_
        exact ⟨rfl, hfin⟩
end Go.Proofs.YtgggpnjnhhkmgaaDoor
namespace Go.Proofs.YtgggpnjnhhkmgaaDoor
set_option linter.unusedSimpArgs false
set_option linter.unusedVariables false
open Go.RowKit Exch
def ErIs (p : List Nat × Int) (w : World) (e : Ending) (w' : World) : Prop := ∃ v, e = .returned (.tuple #[v, .int .i64 p.2]) ∧ OwnDs w' w.heap.size v p.1 ∧ Below w.heap.size w w'
set_option maxRecDepth 20000 in
set_option maxHeartbeats 1000000 in
theorem inclusion_any {nd : Nat → Nat → Nat} {em : Nat} (N : Nds nd em) (l : List Nat) (i : Nat) (A : Option Addr) (n c : Nat) (w : World) (hn : n ≤ 1000000) (hi : i < n) (hr : RdD w A n l) (hnc : n ≤ c) (hcm : c ≤ maxLen) (hg : GCon w) :
    Calls Tryd.prog 10 #[.slice A n c, .int .i64 i] w (ErIs (Merk.incl nd em l i, 0) w) := by
  have hmf : ∀ (fn : Fn) (first cap : Array Value) (w : World), (Instr.makeFunc fn first cap).run Tryd.prog w = .ok (.func fn first cap) w := fun _ _ _ _ => rfl
  have d0 : decide ((i : Int) < 0) = false := by simp
  have d1 : decide ((i : Int) ≥ (n : Int)) = false := by simp; omega
  have HI := Lib.hid (fun (gp gt B : Nat) (hpos : Pos w gp gt B) (W : World) (h : Acc w gp gt B 64 (fnV 32 [gp, gt]) [] W) => inclC_any N w gp gt B hpos hg n l i A n c [] W (Nat.le_refl _) hn (by simp; omega) hi hr hnc hcm h)
  simp only [List.nil_append] at HI
  clear hr hg hcm
  generalize Merk.incl nd em l i = P at *
  unfold AccIs at HI
  unfold ErIs
  go_enter Tryd.func10, Tryd.ntmps10
  go_upto_region 5 with (fail)
  change Code.wp _ _ _ _ ((w.alloc (.cells #[.slice none 0 0] 22)).alloc (.cells #[.nilFunc] 64))
  obtain ⟨wa, hwa, hb0, q0, q1, hsz⟩ : ∃ wa : World, wa = (w.alloc (.cells #[.slice none 0 0] 22)).alloc (.cells #[.nilFunc] 64) ∧ Below w.heap.size w wa ∧ Blk wa w.heap.size 22 #[.slice none 0 0] ∧ Blk wa (w.heap.size + 1) 64 #[.nilFunc] ∧ wa.heap.size = w.heap.size + 2 :=
    ⟨_, rfl, ((Below.refl w.heap.size w).alloc (Nat.le_refl _) _).alloc (by simp) _, (Blk.new _ _ _).alloc _, Blk.new2 _ _ _ _, by simp⟩
  rw [← hwa]
  clear hwa
  obtain ⟨gt, hgt⟩ : ∃ g, g = w.heap.size := ⟨_, rfl⟩
  obtain ⟨gp, hgp⟩ : ∃ g, g = w.heap.size + 1 := ⟨_, rfl⟩
  rw [← hgt] at q0
  rw [← hgp] at q1
  have hpos : Pos w gp gt wa.heap.size := ⟨by omega, by omega, by omega, by omega, by omega⟩
  have HGP := Lib.hid hgp
  have HGT := Lib.hid hgt
  rw [← hgp, ← hgt]
  clear hsz hgp hgt
  go_upto_region 6 with ((with_reducible show wpList _ _ _ (⟨none, _, _, _, _, _⟩ :: _) _ _); refine wpList_set (g := gp) (j := 0) (v := fnV 32 [gp, gt]) (cs' := #[fnV 32 [gp, gt]]) rfl rfl (by kernel_rfl) rfl rfl rfl q1 (by simp) (by simp) ?_; intro w2 ht2 b2)
  have hacc : Acc w gp gt wa.heap.size 64 (fnV 32 [gp, gt]) [] w2 :=
    ⟨.slice none 0 0, ⟨hb0.trans (ht2.below _ hpos.p), b2, ht2.blk q0 hpos.ne.symm, by rw [ht2.size]; exact Nat.le_refl _⟩, OwnDs.nil _ _⟩
  have HI2 := Lib.hid (HI.out gp gt wa.heap.size hpos w2 hacc)
  have c2 := b2.cell 0
  simp only [List.getElem?_toArray, List.getElem?_cons_zero] at c2
  clear b2 ht2 q0 q1 hacc HI
  go_wp2_with fail
  refine HI2.out.mono ?_
  rintro e w5 ⟨rfl, v5, hS5, hown5⟩
  have c5 := hS5.var.cell 0
  simp only [List.getElem?_toArray, List.getElem?_cons_zero] at c5
  have hsz : w.heap.size ≤ wa.heap.size := hb0.size
  have hold := hS5.old
  clear hS5
  go_wp2_with fail
  refine bodyPost_ret (results_tmp2 rfl _ _ _) rfl ?_
  exact ⟨_, rfl, hown5.lower hsz, hold⟩
/-- .. of a place that is none. -/
theorem inclusion_bad (i : Int) (A : Option Addr) (n c : Nat) (w : World) (h : i < 0 ∨ (n : Int) ≤ i) :
    Calls Tryd.prog 10 #[.slice A n c, .int .i64 i] w (ErIs ([], 1) w) := by
  unfold ErIs
  by_cases h0 : i < 0
  · have d0 : decide (i < 0) = true := by simpa using h0
    go_enter Tryd.func10, Tryd.ntmps10
    go_wp2_with fail
    refine bodyPost_ret (results_tmp2 rfl _ _ _) rfl ?_
    exact ⟨_, rfl, OwnDs.nil _ _, Below.refl _ _⟩
  · have d0 : decide (i < 0) = false := by simpa using h0
    have d1 : decide (i ≥ (n : Int)) = true := by simp; omega
    go_enter Tryd.func10, Tryd.ntmps10
    go_wp2_with fail
    refine bodyPost_ret (results_tmp2 rfl _ _ _) rfl ?_
    exact ⟨_, rfl, OwnDs.nil _ _, Below.refl _ _⟩
theorem inclusion_all {nd : Nat → Nat → Nat} {em : Nat} (N : Nds nd em) (l : List Nat) (i : Int) (A : Option Addr) (n c : Nat) (w : World) (hn : n ≤ 1000000) (hr : RdD w A n l) (hnc : n ≤ c) (hcm : c ≤ maxLen) (hg : GCon w) :
    Calls Tryd.prog 10 #[.slice A n c, .int .i64 i] w (ErIs (inclR nd em l i) w) := by
  have hl := hr.len
  unfold inclR
  by_cases h : 0 ≤ i ∧ i < l.length
  · rw [if_pos h]
    obtain ⟨k, rfl⟩ : ∃ k : Nat, i = k := ⟨i.toNat, by omega⟩
    exact inclusion_any N l k A n c w hn (by omega) hr hnc hcm hg
  · rw [if_neg h]
    exact inclusion_bad i A n c w (by omega)
end Go.Proofs.YtgggpnjnhhkmgaaDoor
namespace Go.Proofs.YtgggpnjnhhkmgaaDoor
set_option linter.unusedSimpArgs false
set_option linter.unusedVariables false
open Go.RowKit Exch
set_option maxRecDepth 20000 in
set_option maxHeartbeats 2000000 in
theorem csyC_any {nd : Nat → Nat → Nat} {em : Nat} (N : Nds nd em) (w0 : World) (gp gt B : Nat) (hpos : Pos w0 gp gt B) (hg : GCon w0) (K : Nat) : ∀ (l : List Nat) (i : Nat) (mk : Bool) (A : Option Addr) (n c : Nat) (P : List Nat) (w : World), n ≤ K → n ≤ 1000000 → P.length + n ≤ 2000000 → 1 ≤ i → i ≤ n → RdD w0 A n l → n ≤ c → c ≤ maxLen →
    Acc w0 gp gt B 66 (fnV 34 [gt, gp]) P w →
    Calls Tryd.prog 34 #[.slice A n c, .int .i64 i, .bool mk, .pointer (some ⟨gt, 0, none⟩), .pointer (some ⟨gp, 0, none⟩)] w (AccIs w0 gp gt B 66 (fnV 34 [gt, gp]) (P ++ Merk.csy nd em l i mk)) := by
  induction K with
  | zero => intro l i mk A n c P w hK hn hP hi hi2; omega
  | succ K ih =>
    intro l i mk A n c P w hK hn hP hi hi2 hr hnc hcm hacc
    have hl := hr.len
    by_cases h1 : i = n
    · have e1 : ((i : Int) == n) = true := by simp; omega
      cases mk with
      | true =>
        rw [Merk.csy_true nd em (by omega), List.append_nil]
        unfold AccIs
        go_enter Tryd.func34, Tryd.ntmps34
        go_wp2_with fail
        refine bodyPost_ret (results_none rfl _ _ _) rfl ?_
        exact ⟨rfl, hacc⟩
      | false =>
        rw [Merk.csy_false nd em (by omega)]
        have HRT := Lib.hid (fun (W : World) (hb : Below w0.heap.size w0 W) => root_any N n l A n c W (Nat.le_refl _) (by omega) (hr.below hb) hnc hcm (hg.below hb))
        have HPQ : Hid (P.length + 1 ≤ 3000000) := Lib.hid (by omega)
        clear ih hr hcm hl
        generalize Merk.root nd em l = X at *
        obtain ⟨v, hSv, hownv⟩ := hacc
        have hS := hSv.below (Below.refl w.heap.size w).drew
        have hown5 := hownv.below (Below.refl w.heap.size w).drew
        clear hSv hownv
        unfold DgIs at HRT
        unfold AccIs
        generalize hF : fnV 34 [gt, gp] = F at *
        clear hF
        go_enter Tryd.func34, Tryd.ntmps34
        go_upto_region 2 with (fail)
        refine wp_region_TS (S := AccS w0 gp gt B 66 F v) 5 (by kernel_rfl) ?_
        refine WpT.take (i := 0) rfl (by kernel_rfl) (fun _ _ _ h => h) (yields_load1S rfl rfl rfl (by kernel_rfl) (fun W h => h.var.cell 0)) (hS) ?_
        try simp only [nrm]
        refine WpT.take (i := 1) rfl (by kernel_rfl) (fun _ _ _ h => h) (.inl ⟨by rfl, fun w hSw => by clear hSw; go_simp; (try go_bits); (try rw [if_pos (by omega)]); (try with_reducible rfl)⟩) (hS) ?_
        try simp only [nrm]
        refine WpT.one (i := 2) rfl (by kernel_rfl) (fun K hK => ?_)
        go_simp; refine (HRT.out _ hS.old).mono ?_; rintro e w6 ⟨rfl, hb6⟩; replace hS := hS.below hb6; replace hown5 := hown5.below hb6
        refine hK _ _ (hS) ?_; clear hK K; try simp only [nrm]
        refine WpT.one (i := 3) rfl (by kernel_rfl) (fun K hK => ?_)
        refine (if_pos (by rfl)).mpr ?_; refine wp_lit1D rfl (by rfl) ?_; intro w7 g7 hg7 hr7 hb7; clear hg7; replace hS := hS.below hb7; replace hown5 := hown5.below hb7
        refine hK _ _ (hS) ?_; clear hK K; try simp only [nrm]
        refine WpT.one (i := 4) rfl (by kernel_rfl) (fun K hK => ?_)
        refine (if_pos (by rfl)).mpr ?_; refine wp_appK rfl elemDg (by rfl) hown5 (by rfl) (m := 1) hr7 (one_dgsL [X]) (by have := HPQ.out; omega) hS.sz ?_; intro v8 w8 hown8 hg8 hb8; replace hS := hS.grown hpos hg8 hb8 (own_row hown5); replace hown8 : OwnDs w8 B v8 (P ++ [X]) := OwnDs.app hown8
        refine hK _ _ (hS) ?_; clear hK K; try simp only [nrm]
        refine WpT.tail (i := 5) rfl (by kernel_rfl) (by kernel_rfl) (fun K hK => ?_)
        refine (if_pos (by rfl)).mpr ?_; refine wp_set (j := 0) (v := v8) (cs' := #[v8]) rfl (by kernel_rfl) (by rfl) (by rfl) (own_one hown8) hS.var (by simp) (by simp) ?_; intro w9 ht9 b9
        refine hK _ _ ?_; clear hK K; try simp only [nrm]
        refine WpT.done (by kernel_rfl) ?_ _
        skip
        have hfin : Acc w0 gp gt B 66 F (P ++ [X]) w9 := ⟨v8, hS.turned hpos ht9 b9, ht9.own hown8 (own_ge hown8 hpos.tB)⟩
        clear hS hown8 hown5 ht9 b9
        go_wp2_with fail
        refine bodyPost_ret (results_none rfl _ _ _) rfl ?_
        exact ⟨rfl, hfin⟩
    · have hk1 := Merk.split_lt (n := n) (by omega)
      have hk0 := Merk.split_pos n
      have HS := Lib.hid (fun W => split_any n W (by omega) (by omega))
      have hcm2 : c ≤ 9223372036854775807 := hcm
      have e1 : ((i : Int) == n) = false := by simp; omega
      by_cases hik : i ≤ Merk.split n
      ·
        have hx := Merk.csy_left nd em (l := l) (m := i) mk (by omega) (by omega) (by rw [hl]; exact hik)
        rw [hl] at hx
        have hpl := Merk.csy_len nd em _ (l.take (Merk.split n)) i mk (Nat.le_refl _) hi (by simp; omega)
        rw [List.length_take] at hpl
        have HI := Lib.hid (fun (W : World) (h : Acc w0 gp gt B 66 (fnV 34 [gt, gp]) P W) => ih (l.take (Merk.split n)) i mk A (Merk.split n) (Merk.split n) P W (by omega) (by omega) (by omega) hi hik (hr.take (by omega)) (Nat.le_refl _) (by omega) h)
        have HRT := Lib.hid (fun (W : World) (hb : Below w0.heap.size w0 W) => root_any N n (l.drop (Merk.split n)) (if c = Merk.split n then A else A.map (·.add (Merk.split n * 16))) (n - Merk.split n) (c - Merk.split n) W (by omega) (by omega) ((hr.drop (by omega) hnc).below hb) (by omega) (by omega) (hg.below hb))
        rw [hx, ← List.append_assoc]
        have HPL : Hid (P.length + (Merk.csy nd em (l.take (Merk.split n)) i mk).length + 1 ≤ 3000000) := Lib.hid (by omega)
        clear hx ih hr hcm hl hpl 
        generalize Merk.root nd em (l.drop (Merk.split n)) = X at *
        generalize Merk.csy nd em (l.take (Merk.split n)) i mk = Q at *
        generalize Merk.split n = k at *
        obtain ⟨v, hSv, hownv⟩ := hacc
        have hfn := hSv.fn.below (Below.refl w.heap.size w).drew
        have hacc2 : Acc w0 gp gt B 66 (fnV 34 [gt, gp]) P w.drew := Acc.below ⟨v, hSv, hownv⟩ (Below.refl _ _).drew
        have HACC := Lib.hid hacc2
        clear hSv hownv hacc2
        unfold AccIs at HI ⊢
        unfold DgIs at HRT
        have HPQ : Hid ((P ++ Q).length + 1 ≤ 3000000) := Lib.hid (by rw [List.length_append]; exact HPL.out)
        generalize P ++ Q = PQ at *
        generalize hF : fnV 34 [gt, gp] = F at *
        have HF := Lib.hid hF.symm
        clear hF
        have hik2 : (i : Int) ≤ (k : Int) := by omega
        go_enter Tryd.func34, Tryd.ntmps34
        go_upto_region 5 with (go_at_call 33; refine (HS.out _).mono ?_; rintro e w1 ⟨rfl, rfl⟩)
        rw [HF.out] at hfn
        refine wp_region_TS (S := fun W => Blk W gp 66 #[fnV 34 [gt, gp]]) 8 (by kernel_rfl) ?_
        refine WpT.take (i := 0) rfl (by kernel_rfl) (fun _ _ _ h => h) (yields_load1S rfl rfl rfl (by kernel_rfl) (fun W h => h.cell 0)) (hfn) ?_
        try simp only [nrm]
        refine WpT.take (i := 1) rfl (by kernel_rfl) (fun _ _ _ h => h) (.inl ⟨by rfl, fun w hSw => by clear hSw; go_simp; (try go_bits); (try rw [if_pos (by omega)]); (try with_reducible rfl)⟩) (hfn) ?_
        try simp only [nrm]
        refine WpT.take (i := 2) rfl (by kernel_rfl) (fun _ _ _ h => h) (.inl ⟨by rfl, fun w hSw => by clear hSw; go_simp; (try go_bits); (try rw [if_pos (by omega)]); (try with_reducible rfl)⟩) (hfn) ?_
        try simp only [nrm]
        refine WpT.take (i := 3) rfl (by kernel_rfl) (fun _ _ _ h => h) (.inl ⟨by rfl, fun w hSw => by clear hSw; go_simp; (try go_bits); (try rw [if_pos (by omega)]); (try with_reducible rfl)⟩) (hfn) ?_
        try simp only [nrm]
        refine WpT.take (i := 4) rfl (by kernel_rfl) (fun _ _ _ h => h) (.inl ⟨by rfl, fun w hSw => by clear hSw; go_simp; (try go_bits); (try rw [if_pos (by omega)]); (try with_reducible rfl)⟩) (hfn) ?_
        try simp only [nrm]
        refine WpT.take (i := 5) rfl (by kernel_rfl) (fun _ _ _ h => h) (.inl ⟨by rfl, fun w hSw => by clear hSw; go_simp; (try go_bits); (try rw [if_pos (by omega)]); (try with_reducible rfl)⟩) (hfn) ?_
        try simp only [nrm]
        refine WpT.take (i := 6) rfl (by kernel_rfl) (fun _ _ _ h => h) (.inl ⟨by rfl, fun w hSw => by clear hSw; go_simp; (try go_bits); (try rw [if_pos (by omega)]); (try with_reducible rfl)⟩) (hfn) ?_
        try simp only [nrm]
        refine WpT.one (i := 7) rfl (by kernel_rfl) (fun K hK => ?_)
        go_simp; refine (HI.out _ HACC.out).mono ?_; rintro e w5 ⟨rfl, v5, hS5, hown5⟩; have hfn5 := hS5.fn; rw [HF.out] at hfn5
        refine hK _ _ (hfn5) ?_; clear hK K; try simp only [nrm]
        refine WpT.done (by kernel_rfl) ?_ _
        skip
        clear hfn hfn5 HACC
        have hS := hS5.below (Below.refl w5.heap.size w5).drew
        replace hown5 := hown5.below (Below.refl w5.heap.size w5).drew
        clear hS5
        go_upto_region 6 with (fail)
        refine wp_region_TS (S := AccS w0 gp gt B 66 F v5) 7 (by kernel_rfl) ?_
        refine WpT.take (i := 0) rfl (by kernel_rfl) (fun _ _ _ h => h) (yields_load1S rfl rfl rfl (by kernel_rfl) (fun W h => h.var.cell 0)) (hS) ?_
        try simp only [nrm]
        refine WpT.take (i := 1) rfl (by kernel_rfl) (fun _ _ _ h => h) (.inl ⟨by rfl, fun w hSw => by clear hSw; go_simp; (try go_bits); (try rw [if_pos (by omega)]); (try with_reducible rfl)⟩) (hS) ?_
        try simp only [nrm]
        refine WpT.take (i := 2) rfl (by kernel_rfl) (fun _ _ _ h => h) (.inl ⟨by rfl, fun w hSw => by clear hSw; go_simp; (try go_bits); (try rw [if_pos (by omega)]); (try with_reducible rfl)⟩) (hS) ?_
        try simp only [nrm]
        refine WpT.take (i := 3) rfl (by kernel_rfl) (fun _ _ _ h => h) (.inl ⟨by rfl, fun w hSw => by clear hSw; go_simp; (try go_bits); (try rw [if_pos (by omega)]); (try with_reducible rfl)⟩) (hS) ?_
        try simp only [nrm]
        refine WpT.one (i := 4) rfl (by kernel_rfl) (fun K hK => ?_)
        go_simp; refine (HRT.out _ hS.old).mono ?_; rintro e w6 ⟨rfl, hb6⟩; replace hS := hS.below hb6; replace hown5 := hown5.below hb6
        refine hK _ _ (hS) ?_; clear hK K; try simp only [nrm]
        refine WpT.one (i := 5) rfl (by kernel_rfl) (fun K hK => ?_)
        refine (if_pos (by rfl)).mpr ?_; refine wp_lit1D rfl (by rfl) ?_; intro w7 g7 hg7 hr7 hb7; clear hg7; replace hS := hS.below hb7; replace hown5 := hown5.below hb7
        refine hK _ _ (hS) ?_; clear hK K; try simp only [nrm]
        refine WpT.one (i := 6) rfl (by kernel_rfl) (fun K hK => ?_)
        refine (if_pos (by rfl)).mpr ?_; refine wp_appK rfl elemDg (by rfl) hown5 (by rfl) (m := 1) hr7 (one_dgsL [X]) (by have := HPQ.out; omega) hS.sz ?_; intro v8 w8 hown8 hg8 hb8; replace hS := hS.grown hpos hg8 hb8 (own_row hown5); replace hown8 : OwnDs w8 B v8 (PQ ++ [X]) := OwnDs.app hown8
        refine hK _ _ (hS) ?_; clear hK K; try simp only [nrm]
        refine WpT.tail (i := 7) rfl (by kernel_rfl) (by kernel_rfl) (fun K hK => ?_)
        refine (if_pos (by rfl)).mpr ?_; refine wp_set (j := 0) (v := v8) (cs' := #[v8]) rfl (by kernel_rfl) (by rfl) (by rfl) (own_one hown8) hS.var (by simp) (by simp) ?_; intro w9 ht9 b9
        refine hK _ _ ?_; clear hK K; try simp only [nrm]
        refine WpT.done (by kernel_rfl) ?_ _
        skip
        have hfin : Acc w0 gp gt B 66 F (PQ ++ [X]) w9 := ⟨v8, hS.turned hpos ht9 b9, ht9.own hown8 (own_ge hown8 hpos.tB)⟩
        clear hS hown8 hown5 ht9 b9
        go_wp2_with fail
        refine bodyPost_end (results_none rfl _ _ _) rfl ?_
        exact ⟨rfl, hfin⟩
      ·
        have hx := Merk.csy_right nd em (l := l) (m := i) mk (by omega) (by omega) (by rw [hl]; exact hik)
        rw [hl] at hx
        have hpl := Merk.csy_len nd em _ (l.drop (Merk.split n)) (i - Merk.split n) false (Nat.le_refl _) (by omega) (by simp; omega)
        rw [List.length_drop] at hpl
        have HI := Lib.hid (fun (W : World) (h : Acc w0 gp gt B 66 (fnV 34 [gt, gp]) P W) => ih (l.drop (Merk.split n)) (i - Merk.split n) false (if c = Merk.split n then A else A.map (·.add (Merk.split n * 16))) (n - Merk.split n) (c - Merk.split n) P W (by omega) (by omega) (by omega) (by omega) (by omega) (hr.drop (by omega) hnc) (by omega) (by omega) h)
        have HRT := Lib.hid (fun (W : World) (hb : Below w0.heap.size w0 W) => root_any N n (l.take (Merk.split n)) A (Merk.split n) (Merk.split n) W (by omega) (by omega) ((hr.take (by omega)).below hb) (Nat.le_refl _) (by omega) (hg.below hb))
        rw [hx, ← List.append_assoc]
        have hcast : ((i - Merk.split n : Nat) : Int) = (i : Int) - (Merk.split n : Int) := by omega
        rw [hcast] at HI
        have HPL : Hid (P.length + (Merk.csy nd em (l.drop (Merk.split n)) (i - Merk.split n) false).length + 1 ≤ 3000000) := Lib.hid (by omega)
        clear hx ih hr hcm hl hpl hcast
        generalize Merk.root nd em (l.take (Merk.split n)) = X at *
        generalize Merk.csy nd em (l.drop (Merk.split n)) (i - Merk.split n) false = Q at *
        generalize Merk.split n = k at *
        obtain ⟨v, hSv, hownv⟩ := hacc
        have hfn := hSv.fn.below (Below.refl w.heap.size w).drew
        have hacc2 : Acc w0 gp gt B 66 (fnV 34 [gt, gp]) P w.drew := Acc.below ⟨v, hSv, hownv⟩ (Below.refl _ _).drew
        have HACC := Lib.hid hacc2
        clear hSv hownv hacc2
        unfold AccIs at HI ⊢
        unfold DgIs at HRT
        have HPQ : Hid ((P ++ Q).length + 1 ≤ 3000000) := Lib.hid (by rw [List.length_append]; exact HPL.out)
        generalize P ++ Q = PQ at *
        generalize hF : fnV 34 [gt, gp] = F at *
        have HF := Lib.hid hF.symm
        clear hF
        have hik2 : ¬ (i : Int) ≤ (k : Int) := by omega
        have hsub : 0 ≤ (i : Int) - (k : Int) ∧ (i : Int) - (k : Int) ≤ 1000000 := by omega
        have HW : Hid (wrap64 ((i : Int) - (k : Int)) = (i : Int) - (k : Int) ∧ IntKind.i64.wrap ((i : Int) - (k : Int)) = (i : Int) - (k : Int)) := Lib.hid ⟨by unfold wrap64; omega, wrap_small _ (by omega) (by omega)⟩
        go_enter Tryd.func34, Tryd.ntmps34
        go_upto_region 7 with (go_at_call 33; refine (HS.out _).mono ?_; rintro e w1 ⟨rfl, rfl⟩)
        rw [HF.out] at hfn
        refine wp_region_TS (S := fun W => Blk W gp 66 #[fnV 34 [gt, gp]]) 8 (by kernel_rfl) ?_
        refine WpT.take (i := 0) rfl (by kernel_rfl) (fun _ _ _ h => h) (yields_load1S rfl rfl rfl (by kernel_rfl) (fun W h => h.cell 0)) (hfn) ?_
        try simp only [nrm]
        refine WpT.take (i := 1) rfl (by kernel_rfl) (fun _ _ _ h => h) (.inl ⟨by rfl, fun w hSw => by clear hSw; go_simp; (try go_bits); (try rw [if_pos (by omega)]); (try with_reducible rfl)⟩) (hfn) ?_
        try simp only [nrm]
        refine WpT.take (i := 2) rfl (by kernel_rfl) (fun _ _ _ h => h) (.inl ⟨by rfl, fun w hSw => by clear hSw; go_simp; (try go_bits); (try rw [if_pos (by omega)]); (try with_reducible rfl)⟩) (hfn) ?_
        try simp only [nrm]
        refine WpT.take (i := 3) rfl (by kernel_rfl) (fun _ _ _ h => h) (.inl ⟨by rfl, fun w hSw => by clear hSw; go_simp; (try go_bits); (try rw [if_pos (by omega)]); (try with_reducible rfl)⟩) (hfn) ?_
        try simp only [nrm]
        refine WpT.take (i := 4) rfl (by kernel_rfl) (fun _ _ _ h => h) (.inl ⟨by rfl, fun w hSw => by clear hSw; go_simp; (try go_bits); (try rw [if_pos (by omega)]); (try with_reducible rfl)⟩) (hfn) ?_
        try simp only [nrm]
        refine WpT.take (i := 5) rfl (by kernel_rfl) (fun _ _ _ h => h) (.inl ⟨by rfl, fun w hSw => by clear hSw; go_simp; (try go_bits); (try rw [if_pos (by omega)]); (try with_reducible rfl)⟩) (hfn) ?_
        try simp only [nrm]
        refine WpT.take (i := 6) rfl (by kernel_rfl) (fun _ _ _ h => h) (.inl ⟨by rfl, fun w hSw => by clear hSw; go_simp; (try go_bits); (try rw [if_pos (by omega)]); (try with_reducible rfl)⟩) (hfn) ?_
        try simp only [nrm]
        refine WpT.one (i := 7) rfl (by kernel_rfl) (fun K hK => ?_)
        go_simp; (try simp only [HW.out.1, HW.out.2]); refine (HI.out _ HACC.out).mono ?_; rintro e w5 ⟨rfl, v5, hS5, hown5⟩; have hfn5 := hS5.fn; rw [HF.out] at hfn5
        refine hK _ _ (hfn5) ?_; clear hK K; try simp only [nrm]
        refine WpT.done (by kernel_rfl) ?_ _
        skip
        clear hfn hfn5 HACC
        have hS := hS5.below (Below.refl w5.heap.size w5).drew
        replace hown5 := hown5.below (Below.refl w5.heap.size w5).drew
        clear hS5
        go_upto_region 8 with (fail)
        refine wp_region_TS (S := AccS w0 gp gt B 66 F v5) 8 (by kernel_rfl) ?_
        refine WpT.take (i := 0) rfl (by kernel_rfl) (fun _ _ _ h => h) (yields_load1S rfl rfl rfl (by kernel_rfl) (fun W h => h.var.cell 0)) (hS) ?_
        try simp only [nrm]
        refine WpT.take (i := 1) rfl (by kernel_rfl) (fun _ _ _ h => h) (.inl ⟨by rfl, fun w hSw => by clear hSw; go_simp; (try go_bits); (try rw [if_pos (by omega)]); (try with_reducible rfl)⟩) (hS) ?_
        try simp only [nrm]
        refine WpT.take (i := 2) rfl (by kernel_rfl) (fun _ _ _ h => h) (.inl ⟨by rfl, fun w hSw => by clear hSw; go_simp; (try go_bits); (try rw [if_pos (by omega)]); (try with_reducible rfl)⟩) (hS) ?_
        try simp only [nrm]
        refine WpT.take (i := 3) rfl (by kernel_rfl) (fun _ _ _ h => h) (.inl ⟨by rfl, fun w hSw => by clear hSw; go_simp; (try go_bits); (try rw [if_pos (by omega)]); (try with_reducible rfl)⟩) (hS) ?_
        try simp only [nrm]
        refine WpT.take (i := 4) rfl (by kernel_rfl) (fun _ _ _ h => h) (.inl ⟨by rfl, fun w hSw => by clear hSw; go_simp; (try go_bits); (try rw [if_pos (by omega)]); (try with_reducible rfl)⟩) (hS) ?_
        try simp only [nrm]
        refine WpT.one (i := 5) rfl (by kernel_rfl) (fun K hK => ?_)
        go_simp; refine (HRT.out _ hS.old).mono ?_; rintro e w6 ⟨rfl, hb6⟩; replace hS := hS.below hb6; replace hown5 := hown5.below hb6
        refine hK _ _ (hS) ?_; clear hK K; try simp only [nrm]
        refine WpT.one (i := 6) rfl (by kernel_rfl) (fun K hK => ?_)
        refine (if_pos (by rfl)).mpr ?_; refine wp_lit1D rfl (by rfl) ?_; intro w7 g7 hg7 hr7 hb7; clear hg7; replace hS := hS.below hb7; replace hown5 := hown5.below hb7
        refine hK _ _ (hS) ?_; clear hK K; try simp only [nrm]
        refine WpT.one (i := 7) rfl (by kernel_rfl) (fun K hK => ?_)
        refine (if_pos (by rfl)).mpr ?_; refine wp_appK rfl elemDg (by rfl) hown5 (by rfl) (m := 1) hr7 (one_dgsL [X]) (by have := HPQ.out; omega) hS.sz ?_; intro v8 w8 hown8 hg8 hb8; replace hS := hS.grown hpos hg8 hb8 (own_row hown5); replace hown8 : OwnDs w8 B v8 (PQ ++ [X]) := OwnDs.app hown8
        refine hK _ _ (hS) ?_; clear hK K; try simp only [nrm]
        refine WpT.tail (i := 8) rfl (by kernel_rfl) (by kernel_rfl) (fun K hK => ?_)
        refine (if_pos (by rfl)).mpr ?_; refine wp_set (j := 0) (v := v8) (cs' := #[v8]) rfl (by kernel_rfl) (by rfl) (by rfl) (own_one hown8) hS.var (by simp) (by simp) ?_; intro w9 ht9 b9
        refine hK _ _ ?_; clear hK K; try simp only [nrm]
        refine WpT.done (by kernel_rfl) ?_ _
        skip
        have hfin : Acc w0 gp gt B 66 F (PQ ++ [X]) w9 := ⟨v8, hS.turned hpos ht9 b9, ht9.own hown8 (own_ge hown8 hpos.tB)⟩
        clear hS hown8 hown5 ht9 b9
        go_wp2_with fail
        refine bodyPost_end (results_none rfl _ _ _) rfl ?_
        exact ⟨rfl, hfin⟩
set_option maxRecDepth 20000 in
set_option maxHeartbeats 1000000 in
theorem consistency_any {nd : Nat → Nat → Nat} {em : Nat} (N : Nds nd em) (l : List Nat) (i : Nat) (A : Option Addr) (n c : Nat) (w : World) (hn : n ≤ 1000000) (hi : 1 ≤ i) (hi2 : i < n) (hr : RdD w A n l) (hnc : n ≤ c) (hcm : c ≤ maxLen) (hg : GCon w) :
    Calls Tryd.prog 11 #[.slice A n c, .int .i64 i] w (ErIs (Merk.csy nd em l i true, 0) w) := by
  have hmf : ∀ (fn : Fn) (first cap : Array Value) (w : World), (Instr.makeFunc fn first cap).run Tryd.prog w = .ok (.func fn first cap) w := fun _ _ _ _ => rfl
  have d0 : decide ((i : Int) < 0) = false := by simp
  have d1 : decide ((i : Int) > (n : Int)) = false := by simp; omega
  have e0 : ((i : Int) == 0) = false := by simp; omega
  have e1 : ((i : Int) == (n : Int)) = false := by simp; omega
  have HI := Lib.hid (fun (gp gt B : Nat) (hpos : Pos w gp gt B) (W : World) (h : Acc w gp gt B 66 (fnV 34 [gt, gp]) [] W) => csyC_any N w gp gt B hpos hg n l i true A n c [] W (Nat.le_refl _) hn (by simp; omega) hi (by omega) hr hnc hcm h)
  simp only [List.nil_append] at HI
  clear hr hg hcm
  generalize Merk.csy nd em l i true = P at *
  unfold AccIs at HI
  unfold ErIs
  go_enter Tryd.func11, Tryd.ntmps11
  go_upto_region 7 with (fail)
  change Code.wp _ _ _ _ ((w.alloc (.cells #[.slice none 0 0] 22)).alloc (.cells #[.nilFunc] 66))
  obtain ⟨wa, hwa, hb0, q0, q1, hsz⟩ : ∃ wa : World, wa = (w.alloc (.cells #[.slice none 0 0] 22)).alloc (.cells #[.nilFunc] 66) ∧ Below w.heap.size w wa ∧ Blk wa w.heap.size 22 #[.slice none 0 0] ∧ Blk wa (w.heap.size + 1) 66 #[.nilFunc] ∧ wa.heap.size = w.heap.size + 2 :=
    ⟨_, rfl, ((Below.refl w.heap.size w).alloc (Nat.le_refl _) _).alloc (by simp) _, (Blk.new _ _ _).alloc _, Blk.new2 _ _ _ _, by simp⟩
  rw [← hwa]
  clear hwa
  obtain ⟨gt, hgt⟩ : ∃ g, g = w.heap.size := ⟨_, rfl⟩
  obtain ⟨gp, hgp⟩ : ∃ g, g = w.heap.size + 1 := ⟨_, rfl⟩
  rw [← hgt] at q0
  rw [← hgp] at q1
  have hpos : Pos w gp gt wa.heap.size := ⟨by omega, by omega, by omega, by omega, by omega⟩
  have HGP := Lib.hid hgp
  have HGT := Lib.hid hgt
  rw [← hgp, ← hgt]
  clear hsz hgp hgt
  go_upto_region 8 with ((with_reducible show wpList _ _ _ (⟨none, _, _, _, _, _⟩ :: _) _ _); refine wpList_set (g := gp) (j := 0) (v := fnV 34 [gt, gp]) (cs' := #[fnV 34 [gt, gp]]) rfl rfl (by kernel_rfl) rfl rfl rfl q1 (by simp) (by simp) ?_; intro w2 ht2 b2)
  have hacc : Acc w gp gt wa.heap.size 66 (fnV 34 [gt, gp]) [] w2 :=
    ⟨.slice none 0 0, ⟨hb0.trans (ht2.below _ hpos.p), b2, ht2.blk q0 hpos.ne.symm, by rw [ht2.size]; exact Nat.le_refl _⟩, OwnDs.nil _ _⟩
  have HI2 := Lib.hid (HI.out gp gt wa.heap.size hpos w2 hacc)
  have c2 := b2.cell 0
  simp only [List.getElem?_toArray, List.getElem?_cons_zero] at c2
  clear b2 ht2 q0 q1 hacc HI
  go_wp2_with fail
  refine HI2.out.mono ?_
  rintro e w5 ⟨rfl, v5, hS5, hown5⟩
  have c5 := hS5.var.cell 0
  simp only [List.getElem?_toArray, List.getElem?_cons_zero] at c5
  have hsz : w.heap.size ≤ wa.heap.size := hb0.size
  have hold := hS5.old
  clear hS5
  go_wp2_with fail
  refine bodyPost_ret (results_tmp2 rfl _ _ _) rfl ?_
  exact ⟨_, rfl, hown5.lower hsz, hold⟩
/-- .. of a place that is none. -/
theorem consistency_bad (i : Int) (A : Option Addr) (n c : Nat) (w : World) (h : i < 0 ∨ (n : Int) < i) :
    Calls Tryd.prog 11 #[.slice A n c, .int .i64 i] w (ErIs ([], 1) w) := by
  unfold ErIs
  by_cases h0 : i < 0
  · have d0 : decide (i < 0) = true := by simpa using h0
    go_enter Tryd.func11, Tryd.ntmps11
    go_wp2_with fail
    refine bodyPost_ret (results_tmp2 rfl _ _ _) rfl ?_
    exact ⟨_, rfl, OwnDs.nil _ _, Below.refl _ _⟩
  · have d0 : decide (i < 0) = false := by simpa using h0
    have d1 : decide (i > (n : Int)) = true := by simp; omega
    go_enter Tryd.func11, Tryd.ntmps11
    go_wp2_with fail
    refine bodyPost_ret (results_tmp2 rfl _ _ _) rfl ?_
    exact ⟨_, rfl, OwnDs.nil _ _, Below.refl _ _⟩
theorem consistency_all {nd : Nat → Nat → Nat} {em : Nat} (N : Nds nd em) (l : List Nat) (i : Int) (A : Option Addr) (n c : Nat) (w : World) (hn : n ≤ 1000000) (hr : RdD w A n l) (hnc : n ≤ c) (hcm : c ≤ maxLen) (hg : GCon w) :
    Calls Tryd.prog 11 #[.slice A n c, .int .i64 i] w (ErIs (csyR nd em l i) w) := by
  have hl := hr.len
  unfold csyR
  by_cases h : 0 ≤ i ∧ i ≤ l.length
  · rw [if_pos h]
    obtain ⟨k, rfl⟩ : ∃ k : Nat, i = k := ⟨i.toNat, by omega⟩
    by_cases h0 : (k : Int) = 0 ∨ (k : Int) = l.length
    · rw [if_pos h0]
      have d0 : decide ((k : Int) < 0) = false := by simp
      have d1 : decide ((k : Int) > (n : Int)) = false := by simp; omega
      unfold ErIs
      clear hr hg
      by_cases h1 : k = 0
      · have e0 : ((k : Int) == 0) = true := by simp; omega
        go_enter Tryd.func11, Tryd.ntmps11
        go_wp2_with fail
        refine bodyPost_ret (results_tmp2 rfl _ _ _) rfl ?_
        exact ⟨_, rfl, OwnDs.nil _ _, Below.refl _ _⟩
      · have e0 : ((k : Int) == 0) = false := by simp; omega
        have e1 : ((k : Int) == n) = true := by simp; omega
        go_enter Tryd.func11, Tryd.ntmps11
        go_wp2_with fail
        refine bodyPost_ret (results_tmp2 rfl _ _ _) rfl ?_
        exact ⟨_, rfl, OwnDs.nil _ _, Below.refl _ _⟩
    · rw [if_neg h0]
      exact consistency_any N l k A n c w hn (by omega) (by omega) hr hnc hcm hg
  · rw [if_neg h]
    exact consistency_bad i A n c w (by omega)
end Go.Proofs.YtgggpnjnhhkmgaaDoor
namespace Go.Proofs.YtgggpnjnhhkmgaaDoor
set_option linter.unusedSimpArgs false
set_option linter.unusedVariables false
open Go.RowKit Exch Merk
/-- Nothing that was there has changed, but for the blocks that are named. -/
structure Grew (ex : List Nat) (w w' : World) : Prop where
  os : w'.os = w.os
  tape : w'.tape = w.tape
  output : w'.output = w.output
  size : w.heap.size ≤ w'.heap.size
  block : ∀ k, k < w.heap.size → k ∉ ex → w'.heap[k]? = w.heap[k]?
section
variable {ex : List Nat} {w w1 w2 : World} {g : Nat}
theorem Grew.refl (ex : List Nat) (w : World) : Grew ex w w := ⟨rfl, rfl, rfl, Nat.le_refl _, fun _ _ _ => rfl⟩
theorem Grew.of_below (h : Below w.heap.size w w1) : Grew ex w w1 := ⟨h.os, h.tape, h.output, h.size, fun k hk _ => h.block k hk⟩
theorem Grew.trans (h : Grew ex w w1) (k : Grew ex w1 w2) : Grew ex w w2 :=
  ⟨k.os.trans h.os, k.tape.trans h.tape, k.output.trans h.output, Nat.le_trans h.size k.size, fun i hi he => (k.block i (Nat.lt_of_lt_of_le hi h.size) he).trans (h.block i hi he)⟩
theorem Grew.later (h : Grew ex w w1) (hb : Below w1.heap.size w1 w2) : Grew ex w w2 := h.trans (Grew.of_below hb)
theorem Grew.turned (h : Grew ex w w1) (ht : Turned g w1 w2) (hg : g ∈ ex ∨ w.heap.size ≤ g) : Grew ex w w2 :=
  ⟨(ht.below 0 (Nat.zero_le _)).os.trans h.os, (ht.below 0 (Nat.zero_le _)).tape.trans h.tape, (ht.below 0 (Nat.zero_le _)).output.trans h.output, by rw [ht.size]; exact h.size, fun k hk hne => (ht.far k (fun e => by
    rcases hg with hg | hg
    · exact hne (e ▸ hg)
    · omega)).trans (h.block k hk hne)⟩
theorem Grew.blk (h : Grew ex w w1) {T : TypeId} {cs : Array Value} (hb : Blk w g T cs) (hg : g ∉ ex) : Blk w1 g T cs := (h.block g hb.lt hg).trans hb
theorem Grew.below {B : Nat} (h : Grew ex w w1) (hB : B ≤ w.heap.size) (hex : ∀ g ∈ ex, B ≤ g) : Below B w w1 :=
  ⟨h.os, h.tape, h.output, h.size, fun k hk => h.block k (by omega) (fun e => by have := hex k e; omega)⟩
theorem Grew.more (h : Grew ex w w1) {ex' : List Nat} (hs : ∀ g ∈ ex, g ∈ ex' ∨ w.heap.size ≤ g) : Grew ex' w w1 :=
  ⟨h.os, h.tape, h.output, h.size, fun k hk hne => h.block k hk (fun e => by rcases hs k e with h1 | h1; exact hne h1; omega)⟩
end
theorem RdD.zero (W : World) (A : Option Addr) : RdD W A 0 [] := ⟨rfl, ⟨rfl, fun k u hk => by simp [dgsL] at hk⟩⟩
/-- A path stands in a block of its own; its digests lie in older memory. -/
structure PthAt (w0 : World) (gb : Nat) (p : Pth) (W : World) : Prop where
  old : Below w0.heap.size w0 W
  ge : w0.heap.size ≤ gb
  blk : ∃ A n c, RdD w0 A n p.l ∧ n ≤ 1000000 ∧ n ≤ c ∧ c ≤ maxLen ∧ Blk W gb 81 #[.slice A n c, .bool p.short]
theorem PthAt.below {w0 W W' : World} {gb : Nat} {p : Pth} (h : PthAt w0 gb p W) (hb : Below W.heap.size W W') : PthAt w0 gb p W' := by
  obtain ⟨A, n, c, h1, h2, h3, h4, h5⟩ := h.blk
  exact ⟨bstep h.old hb, h.ge, A, n, c, h1, h2, h3, h4, h5.below hb⟩
theorem PthAt.grew {w0 W W' : World} {gb : Nat} {p : Pth} {ex : List Nat} (h : PthAt w0 gb p W) (hg : Grew ex W W') (hne : gb ∉ ex) (hex : ∀ g ∈ ex, w0.heap.size ≤ g) : PthAt w0 gb p W' := by
  obtain ⟨A, n, c, h1, h2, h3, h4, h5⟩ := h.blk
  exact ⟨h.old.trans (hg.below h.old.size hex), h.ge, A, n, c, h1, h2, h3, h4, hg.blk h5 hne⟩
def EndIs (r : Nat × Pth) (w0 : World) (gb : Nat) (w : World) (e : Ending) (w' : World) : Prop := e = .returned (dgV r.1) ∧ PthAt w0 gb r.2 w' ∧ Grew [gb] w w'
set_option maxRecDepth 20000 in
set_option maxHeartbeats 1000000 in
theorem last_any (p : Pth) (w0 : World) (gb : Nat) (w : World) (h : PthAt w0 gb p w) : Calls Tryd.prog 52 #[.pointer (some ⟨gb, 0, none⟩)] w (EndIs p.last w0 gb w) := by
  obtain ⟨l, s⟩ := p
  obtain ⟨hold, hge, A, n, c, hr, hn, hnc, hcm, hb⟩ := h
  have hcm2 : c ≤ 9223372036854775807 := hcm
  have hl := hr.len
  simp only at hl hr hb
  unfold EndIs
  by_cases h0 : n = 0
  · subst h0
    obtain rfl := List.eq_nil_of_length_eq_zero hl
    rw [last_short]
    have HB := Lib.hid hb
    go_enter Tryd.func52, Tryd.ntmps52
    go_upto_region 1 with ((with_reducible show wpList _ _ _ (⟨some 2, _, _, _, _, _⟩ :: _) _ _); refine wpList_new (cs := dgC 0) rfl rfl zeroDg ?_; intro w1 g1 hg1 q1 hb1 lt1; have HG1 := Lib.hid hg1; clear hg1)
    have b1 := HB.out.below hb1
    have c0 := b1.cell 0
    simp only [List.getElem?_toArray, List.getElem?_cons_zero] at c0
    go_upto_region 4 with ((with_reducible show wpList _ _ _ (⟨none, _, _, _, _, _⟩ :: _) _ _); refine wpList_set (g := gb) (j := 1) (v := .bool true) (cs' := #[.slice A 0 c, .bool true]) rfl rfl (by kernel_rfl) rfl rfl rfl b1 (by simp) (by simp) ?_; intro w2 ht2 b2)
    have q2 := ht2.blk q1 (by have h1 := HB.out.lt; have h2 := HG1.out; omega)
    have ho := (bstep hold hb1).trans (ht2.below _ hge)
    have hgr : Grew [gb] w w2 := (Grew.of_below hb1).turned ht2 (.inl (by simp))
    clear b1 q1 ht2 c0 hb hr
    go_wp2_with ((with_reducible show wpList _ _ _ (⟨none, _, _, _, _, _⟩ :: _) _ _); refine wpList_put (vs := dgC 0) rfl rfl rfl rfl q2 rfl (by rw [sizeDg, dgC_size]) (one_dgC _) ?_; intro w9 ht9 b9)
    have hne : g1 ≠ gb := by have h1 := HB.out.lt; have h2 := HG1.out; omega
    exact ret_blk rfl rfl rfl b9 aggDg (by rw [sizeDg, dgC_size]) ⟨rfl, ⟨ho.trans (ht9.below _ (by have := HG1.out; have := HB.out.lt; have := hold.size; omega)), hge, A, 0, c, RdD.zero _ _, by omega, by omega, hcm, ht9.blk b2 (fun e => hne e.symm)⟩, hgr.turned ht9 (.inr (by have := HG1.out; omega))⟩
  · obtain ⟨m, hnm⟩ : ∃ m, n = m + 1 := ⟨n - 1, by omega⟩
    obtain ⟨l0, x, rfl⟩ : ∃ l0 x, l = l0 ++ [x] := by
      rcases List.eq_nil_or_concat l with rfl | ⟨l0, x, rfl⟩
      · exfalso; simp at hl; omega
      · exact ⟨l0, x, by simp⟩
    rw [last_app]
    have hm : l0.length = m := by simp at hl; omega
    have hx : (l0 ++ [x])[m]'(by simp; omega) = x := by simp [← hm]
    obtain ⟨ad, rfl, -⟩ := hr.elem (i := m) (by simp; omega)
    have HE : Hid (∀ W, Below w0.heap.size w0 W → ∀ j u, (bv (dg x))[j]? = some u → W.cell? ((ad.add (m * 16)).add j) = some u) := Lib.hid (fun W hb => by
      obtain ⟨ad2, e2, hc⟩ := (hr.below hb).elem (i := m) (by simp; omega)
      obtain rfl := Option.some.inj e2
      rwa [hx] at hc)
    have HT : Hid (RdD w0 (some ad) m l0) := Lib.hid (by have := hr.take (k := m) (by omega); rwa [List.take_append_of_le_length (by omega), List.take_of_length_le (by omega)] at this)
    have HB := Lib.hid hb
    have HO := Lib.hid hold
    have e0 : ((n : Int) == 0) = false := by simp; omega
    have e1 : (n : Int) - 1 = (m : Int) := by omega
    have e2 : 0 ≤ (m : Int) ∧ (m : Int) < (n : Int) := by omega
    have e3 : 0 ≤ (m : Int) ∧ (m : Int) ≤ (c : Int) := by omega
    have HNM := Lib.hid hnm
    clear hr hx hb hold hl hnm h0
    go_enter Tryd.func52, Tryd.ntmps52
    go_upto_region 1 with ((with_reducible show wpList _ _ _ (⟨some 2, _, _, _, _, _⟩ :: _) _ _); refine wpList_new (cs := dgC 0) rfl rfl zeroDg ?_; intro w1 g1 hg1 q1 hb1 lt1; have HG1 := Lib.hid hg1; clear hg1)
    have b1 := HB.out.below hb1
    have c0 := b1.cell 0
    simp only [List.getElem?_toArray, List.getElem?_cons_zero] at c0
    have hcx := HE.out _ (bstep HO.out hb1)
    go_upto_region 5 with (fail)
    go_upto_region 6 with (first
      | ((with_reducible show wpList _ _ _ (⟨some 23, _, _, _, _, _⟩ :: _) _ _); refine wpList_loadK (us := bv (dg x)) rfl rfl rfl aggDg (by rw [sizeDg, bv_dg_len]) hcx ?_)
      | ((with_reducible show wpList _ _ _ (⟨some 4, _, _, _, _, _⟩ :: _) _ _); refine wpList_new (cs := dgC 0) rfl rfl zeroDg ?_; intro w2 g4 hg4 q4 hb2 lt4; have HG4 := Lib.hid hg4; clear hg4)
      | ((with_reducible show wpList _ _ _ (⟨none, _, _, _, _, _⟩ :: _) _ _); refine wpList_put (vs := dgC x) rfl rfl rfl rfl q4 (by rw [dgC_size, dgC_size]) (by rw [sizeDg, dgC_size]) (one_dgC _) ?_; intro w3 ht3 b4))
    have b3 := ht3.blk (b1.below hb2) (by have := HG4.out; have := b1.lt; omega)
    have q3 := ht3.blk (q1.below hb2) (by have := HG4.out; omega)
    have hgr : Grew [gb] w w3 := ((Grew.of_below hb1).later hb2).turned ht3 (.inr (by have := HG4.out; have := hb1.size; omega))
    have c3 := b3.cell 0
    simp only [List.getElem?_toArray, List.getElem?_cons_zero] at c3
    clear b1 q1 q4 c0 ht3 hcx HE
    go_upto_region 7 with ((with_reducible show wpList _ _ _ (⟨none, _, _, _, _, _⟩ :: _) _ _); refine wpList_set (g := gb) (j := 0) (v := .slice (some ad) m m) (cs' := #[.slice (some ad) m m, .bool s]) rfl rfl (by kernel_rfl) rfl rfl rfl b3 (by simp) (by simp) ?_; intro w5 ht5 b5)
    have q5 := ht5.blk q3 (by have h1 := HB.out.lt; have h2 := HG1.out; omega)
    have b6 := ht5.blk b4 (by have h1 := HB.out.lt; have h2 := HG4.out; have := hb1.size; omega)
    replace hgr := hgr.turned ht5 (.inl (by simp))
    clear b3 q3 b4 ht5 c3
    go_wp2_with (first
      | ((with_reducible show wpList _ _ _ (⟨some 36, _, _, _, _, _⟩ :: _) _ _); refine wpList_loadRow rfl rfl rfl b6 aggDg (by rw [sizeDg, dgC_size]) ?_)
      | ((with_reducible show wpList _ _ _ (⟨none, _, _, _, _, _⟩ :: _) _ _); refine wpList_put (vs := dgC x) rfl rfl rfl rfl q5 (by rw [dgC_size, dgC_size]) (by rw [sizeDg, dgC_size]) (one_dgC _) ?_; intro w9 ht9 b9))
    have hne : g1 ≠ gb := by have h1 := HB.out.lt; have h2 := HG1.out; omega
    have hgr9 := hgr.turned ht9 (.inr (by have := HG1.out; omega))
    exact ret_blk rfl rfl rfl b9 aggDg (by rw [sizeDg, dgC_size]) ⟨rfl, ⟨HO.out.trans (hgr9.below HO.out.size (by simp; exact hge)), hge, some ad, m, m, HT.out, by have := HNM.out; omega, Nat.le_refl _, by have := HNM.out; omega, ht9.blk b5 (fun e => hne e.symm)⟩, hgr9⟩
set_option maxRecDepth 20000 in
set_option maxHeartbeats 1000000 in
theorem first_any (p : Pth) (w0 : World) (gb : Nat) (w : World) (h : PthAt w0 gb p w) : Calls Tryd.prog 49 #[.pointer (some ⟨gb, 0, none⟩)] w (EndIs p.first w0 gb w) := by
  obtain ⟨l, s⟩ := p
  obtain ⟨hold, hge, A, n, c, hr, hn, hnc, hcm, hb⟩ := h
  have hcm2 : c ≤ 9223372036854775807 := hcm
  have hl := hr.len
  simp only at hl hr hb
  unfold EndIs
  by_cases h0 : n = 0
  · subst h0
    obtain rfl := List.eq_nil_of_length_eq_zero hl
    show Calls _ _ _ _ fun e w' => e = .returned (dgV 0) ∧ PthAt w0 gb ⟨[], true⟩ w' ∧ Grew [gb] w w'
    have HB := Lib.hid hb
    go_enter Tryd.func49, Tryd.ntmps49
    go_upto_region 1 with ((with_reducible show wpList _ _ _ (⟨some 2, _, _, _, _, _⟩ :: _) _ _); refine wpList_new (cs := dgC 0) rfl rfl zeroDg ?_; intro w1 g1 hg1 q1 hb1 lt1; have HG1 := Lib.hid hg1; clear hg1)
    have b1 := HB.out.below hb1
    have c0 := b1.cell 0
    simp only [List.getElem?_toArray, List.getElem?_cons_zero] at c0
    go_upto_region 3 with ((with_reducible show wpList _ _ _ (⟨none, _, _, _, _, _⟩ :: _) _ _); refine wpList_set (g := gb) (j := 1) (v := .bool true) (cs' := #[.slice A 0 c, .bool true]) rfl rfl (by kernel_rfl) rfl rfl rfl b1 (by simp) (by simp) ?_; intro w2 ht2 b2)
    have q2 := ht2.blk q1 (by have h1 := HB.out.lt; have h2 := HG1.out; omega)
    have ho := (bstep hold hb1).trans (ht2.below _ hge)
    have hgr : Grew [gb] w w2 := (Grew.of_below hb1).turned ht2 (.inl (by simp))
    clear b1 q1 ht2 c0 hb hr
    go_wp2_with ((with_reducible show wpList _ _ _ (⟨none, _, _, _, _, _⟩ :: _) _ _); refine wpList_put (vs := dgC 0) rfl rfl rfl rfl q2 rfl (by rw [sizeDg, dgC_size]) (one_dgC _) ?_; intro w9 ht9 b9)
    have hne : g1 ≠ gb := by have h1 := HB.out.lt; have h2 := HG1.out; omega
    exact ret_blk rfl rfl rfl b9 aggDg (by rw [sizeDg, dgC_size]) ⟨rfl, ⟨ho.trans (ht9.below _ (by have := HG1.out; have := HB.out.lt; have := hold.size; omega)), hge, A, 0, c, RdD.zero _ _, by omega, by omega, hcm, ht9.blk b2 (fun e => hne e.symm)⟩, hgr.turned ht9 (.inr (by have := HG1.out; omega))⟩
  · obtain ⟨m, hnm⟩ : ∃ m, n = m + 1 := ⟨n - 1, by omega⟩
    obtain ⟨x, l0, rfl⟩ : ∃ x l0, l = x :: l0 := by
      cases l with
      | nil => exfalso; simp at hl; omega
      | cons x l0 => exact ⟨x, l0, rfl⟩
    show Calls _ _ _ _ fun e w' => e = .returned (dgV x) ∧ PthAt w0 gb ⟨l0, s⟩ w' ∧ Grew [gb] w w'
    have hm : l0.length = m := by simp at hl; omega
    obtain ⟨ad, rfl, -⟩ := hr.elem (i := 0) (by simp)
    have HE : Hid (∀ W, Below w0.heap.size w0 W → ∀ j u, (bv (dg x))[j]? = some u → W.cell? ((ad.add 0).add j) = some u) := Lib.hid (fun W hb => by
      obtain ⟨ad2, e2, hc⟩ := (hr.below hb).elem (i := 0) (by simp)
      obtain rfl := Option.some.inj e2
      rw [Nat.zero_mul] at hc
      simpa using hc)
    obtain ⟨A1, hA1⟩ : ∃ A1, A1 = (if c = 1 then some ad else (some ad).map (·.add 16)) := ⟨_, rfl⟩
    have HT : Hid (RdD w0 A1 m l0) := Lib.hid (by have := hr.drop (k := 1) (by omega) hnc; rw [show n - 1 = m by omega, Nat.one_mul, ← hA1] at this; exact this)
    have HB := Lib.hid hb
    have HO := Lib.hid hold
    have e0 : ((n : Int) == 0) = false := by simp; omega
    have e1 : n - 1 = m := by omega
    have e4 : (c = 1) = False ∨ (c = 1) = True := by by_cases h : c = 1 <;> simp [h]
    have e2 : (0 : Int) ≤ 0 ∧ (0 : Int) < (n : Int) := by omega
    have e3 : (1 : Int) ≤ (n : Int) ∧ (1 : Int) ≤ (c : Int) := by omega
    have HA := Lib.hid hA1
    clear hA1
    have HNM := Lib.hid hnm
    clear hr hb hold hl hnm h0
    rcases e4 with e4 | e4
    all_goals
      go_enter Tryd.func49, Tryd.ntmps49
      go_upto_region 1 with ((with_reducible show wpList _ _ _ (⟨some 2, _, _, _, _, _⟩ :: _) _ _); refine wpList_new (cs := dgC 0) rfl rfl zeroDg ?_; intro w1 g1 hg1 q1 hb1 lt1; have HG1 := Lib.hid hg1; clear hg1)
      have b1 := HB.out.below hb1
      have c0 := b1.cell 0
      simp only [List.getElem?_toArray, List.getElem?_cons_zero] at c0
      have hcx := HE.out _ (bstep HO.out hb1)
      go_upto_region 4 with (fail)
      go_upto_region 5 with (first
        | ((with_reducible show wpList _ _ _ (⟨some 19, _, _, _, _, _⟩ :: _) _ _); refine wpList_loadK (us := bv (dg x)) rfl rfl rfl aggDg (by rw [sizeDg, bv_dg_len]) hcx ?_)
        | ((with_reducible show wpList _ _ _ (⟨some 3, _, _, _, _, _⟩ :: _) _ _); refine wpList_new (cs := dgC 0) rfl rfl zeroDg ?_; intro w2 g4 hg4 q4 hb2 lt4; have HG4 := Lib.hid hg4; clear hg4)
        | ((with_reducible show wpList _ _ _ (⟨none, _, _, _, _, _⟩ :: _) _ _); refine wpList_put (vs := dgC x) rfl rfl rfl rfl q4 (by rw [dgC_size, dgC_size]) (by rw [sizeDg, dgC_size]) (one_dgC _) ?_; intro w3 ht3 b4))
      have b3 := ht3.blk (b1.below hb2) (by have := HG4.out; have := b1.lt; omega)
      have q3 := ht3.blk (q1.below hb2) (by have := HG4.out; omega)
      have hgr : Grew [gb] w w3 := ((Grew.of_below hb1).later hb2).turned ht3 (.inr (by have := HG4.out; have := hb1.size; omega))
      have c3 := b3.cell 0
      simp only [List.getElem?_toArray, List.getElem?_cons_zero] at c3
      clear b1 q1 q4 c0 ht3 hcx HE
      go_upto_region 6 with ((with_reducible show wpList _ _ _ (⟨none, _, _, _, _, _⟩ :: _) _ _); refine wpList_set (g := gb) (j := 0) (v := .slice A1 m (c - 1)) (cs' := #[.slice A1 m (c - 1), .bool s]) rfl rfl (by kernel_rfl) rfl (by rw [HA.out]; simp only [e4, if_true, if_false]; rfl) rfl b3 (by simp) (by simp) ?_; intro w5 ht5 b5)
      have q5 := ht5.blk q3 (by have h1 := HB.out.lt; have h2 := HG1.out; omega)
      have b6 := ht5.blk b4 (by have h1 := HB.out.lt; have h2 := HG4.out; have := hb1.size; omega)
      replace hgr := hgr.turned ht5 (.inl (by simp))
      clear b3 q3 b4 ht5 c3
      go_wp2_with (first
        | ((with_reducible show wpList _ _ _ (⟨some 28, _, _, _, _, _⟩ :: _) _ _); refine wpList_loadRow rfl rfl rfl b6 aggDg (by rw [sizeDg, dgC_size]) ?_)
        | ((with_reducible show wpList _ _ _ (⟨none, _, _, _, _, _⟩ :: _) _ _); refine wpList_put (vs := dgC x) rfl rfl rfl rfl q5 (by rw [dgC_size, dgC_size]) (by rw [sizeDg, dgC_size]) (one_dgC _) ?_; intro w9 ht9 b9))
      have hne : g1 ≠ gb := by have h1 := HB.out.lt; have h2 := HG1.out; omega
      have hgr9 := hgr.turned ht9 (.inr (by have := HG1.out; omega))
      exact ret_blk rfl rfl rfl b9 aggDg (by rw [sizeDg, dgC_size]) ⟨rfl, ⟨HO.out.trans (hgr9.below HO.out.size (by simp; exact hge)), hge, A1, m, c - 1, HT.out, by have := HNM.out; omega, by have := HNM.out; omega, by omega, ht9.blk b5 (fun e => hne e.symm)⟩, hgr9⟩
/-- What settle makes of a result. -/
def settled (b : Bool) (p : Pth) : Bool := b && (!p.short && decide (p.l = []))
def SetIs (b : Bool) (p : Pth) (go : Nat) (u : FrameMode) (w : World) (e : Ending) (u' : FrameMode) (w' : World) : Prop := u' = u ∧ e = .returned (.tuple #[]) ∧ Blk w' go 4 #[.bool (settled b p)] ∧ Below go w w' ∧ Grew [go] w w'
set_option maxRecDepth 20000 in
set_option maxHeartbeats 1000000 in
theorem settle_any (b : Bool) (p : Pth) (w0 : World) (gb go : Nat) (u : FrameMode) (w : World) (h : PthAt w0 gb p w) (hb : Blk w go 4 #[.bool b]) :
    CallsD Tryd.prog 47 #[.pointer (some ⟨gb, 0, none⟩), .pointer (some ⟨go, 0, none⟩)] u w (SetIs b p go u w) := by
  obtain ⟨l, s⟩ := p
  obtain ⟨hold, hge, A, n, c, hr, hn, hnc, hcm, hp⟩ := h
  have hl := hr.len
  simp only at hl hr hp
  have c0 := hp.cell 0
  have c1 := hp.cell 1
  have o0 := hb.cell 0
  simp only [List.getElem?_toArray, List.getElem?_cons_zero, List.getElem?_cons_succ] at c0 c1 o0
  have hz : ((n : Int) == 0) = decide (l = []) := by
    by_cases h : n = 0
    · have : l = [] := List.eq_nil_of_length_eq_zero (by omega)
      simp [h, this]
    · have : l ≠ [] := by intro e; subst e; simp at hl; omega
      simp [this]; omega
  unfold SetIs settled
  show CallsD _ _ _ _ _ fun e u' w' => u' = u ∧ e = .returned (.tuple #[]) ∧ Blk w' go 4 #[.bool (b && (!s && decide (l = [])))] ∧ Below go w w' ∧ Grew [go] w w'
  have hfin : ∀ (x : Bool) (w9 : World), Turned go w w9 → Blk w9 go 4 #[.bool x] → Below go w w9 ∧ Grew [go] w w9 := fun x w9 ht hb9 => ⟨ht.below _ (Nat.le_refl _), (Grew.refl _ w).turned ht (.inl (by simp))⟩
  have HF := Lib.hid hfin
  clear hfin hr hp hold hge hl
  generalize decide (l = []) = z at *
  cases b with
  | false =>
    go_enter_d Tryd.func47, Tryd.ntmps47
    go_wp2_with ((with_reducible show wpList _ _ _ (⟨none, _, _, _, _, _⟩ :: _) _ _); refine wpList_set (g := go) (j := 0) (v := .bool false) (cs' := #[.bool false]) rfl rfl (by kernel_rfl) rfl rfl rfl hb (by simp) (by simp) ?_; intro w9 ht9 b9)
    refine bodyPost_end (results_none rfl _ _ _) rfl ?_
    exact ⟨rfl, b9, HF.out _ _ ht9 b9⟩
  | true =>
    cases s with
    | true =>
      go_enter_d Tryd.func47, Tryd.ntmps47
      go_wp2_with ((with_reducible show wpList _ _ _ (⟨none, _, _, _, _, _⟩ :: _) _ _); refine wpList_set (g := go) (j := 0) (v := .bool false) (cs' := #[.bool false]) rfl rfl (by kernel_rfl) rfl rfl rfl hb (by simp) (by simp) ?_; intro w9 ht9 b9)
      refine bodyPost_end (results_none rfl _ _ _) rfl ?_
      exact ⟨rfl, b9, HF.out _ _ ht9 b9⟩
    | false =>
      go_enter_d Tryd.func47, Tryd.ntmps47
      go_wp2_with ((with_reducible show wpList _ _ _ (⟨none, _, _, _, _, _⟩ :: _) _ _); refine wpList_set (g := go) (j := 0) (v := .bool z) (cs' := #[.bool z]) rfl rfl (by kernel_rfl) rfl rfl rfl hb (by simp) (by simp) ?_; intro w9 ht9 b9)
      refine bodyPost_end (results_none rfl _ _ _) rfl ?_
      exact ⟨rfl, b9, HF.out _ _ ht9 b9⟩
end Go.Proofs.YtgggpnjnhhkmgaaDoor
namespace Go.Proofs.YtgggpnjnhhkmgaaDoor
set_option linter.unusedSimpArgs false
set_option linter.unusedVariables false
open Go.RowKit Exch Merk
theorem climbI_one (nd : Nat → Nat → Nat) (leaf i n : Nat) (p : Pth) (h : ¬ 2 ≤ n) : climbI nd leaf i n p = (leaf, p) := by rw [climbI, dif_neg h]
theorem climbI_left (nd : Nat → Nat → Nat) (leaf i n : Nat) (p : Pth) (h : 2 ≤ n) (hi : i < Merk.split n) : climbI nd leaf i n p = (nd (climbI nd leaf i (Merk.split n) p.last.2).1 p.last.1, (climbI nd leaf i (Merk.split n) p.last.2).2) := by rw [climbI, dif_pos h, if_pos hi]
theorem climbI_right (nd : Nat → Nat → Nat) (leaf i n : Nat) (p : Pth) (h : 2 ≤ n) (hi : ¬ i < Merk.split n) : climbI nd leaf i n p = (nd p.last.1 (climbI nd leaf (i - Merk.split n) (n - Merk.split n) p.last.2).1, (climbI nd leaf (i - Merk.split n) (n - Merk.split n) p.last.2).2) := by rw [climbI, dif_pos h, if_neg hi]
theorem wp_new {P : Program} {w : World} {o : Oper} {a : Act} {K : Act → World → Prop} {Q : Exit → Act → World → Prop} {t : TypeId} (ho : o.op = .alloc t) {cs : Array Value} (hz : ∀ w, (zeroValue t).run P w = .ok (.agg cs) w)
    (h : ∀ w' g, g = w.heap.size → Blk w' g t cs → Below w.heap.size w w' → g < w'.heap.size → K (a.put o.dst (.pointer (some ⟨g, 0, none⟩))) w') : o.wp P a w K Q :=
  wp_alloc (z := .agg cs) ho (hz w) (h _ _ rfl (Blk.new _ _ _) ((Below.refl _ _).alloc (Nat.le_refl _) _) (Blk.new _ _ _).lt)
theorem yields_blkS {P : Program} {ops : Array Oper} {S : World → Prop} {o : Oper} {a : Act} {t : TypeId} {x : Operand} {g : Nat} {T : TypeId} {cs : Array Value} (ho : o.op = .load t x) (hg : o.guard = none) (ha : a.eval x = .pointer (some ⟨g, 0, none⟩))
    (hu : (P.underlying t).map isAggDesc = some true) (hi : (P.info? t).map (·.size) = some cs.size) (hc : ∀ W, S W → Blk W g T cs) : YieldsIf P ops S o (.agg cs) a := by
  refine .inl ⟨by simp [Region.wanted, hg], fun w hS => ?_⟩
  unfold execOp
  simp only [ho, ha, Instr.loadAt, Instr.sureAddr, Sem.run_bind, Sem.run_pure, Result.andThen_ok, run_loadVar_blk w g T t cs (hc w hS) hu hi]
/-- What a check's function value finds: a digest, the path, itself. -/
structure CkS (w0 : World) (gl gv gb gf : Nat) (leaf : Nat) (tf : TypeId) (F : Value) (p : Pth) (W : World) : Prop where
  path : PthAt w0 gb p W
  leaf : Blk W gl 31 (dgC leaf)
  pv : Blk W gv 79 #[.pointer (some ⟨gb, 0, none⟩)]
  fn : Blk W gf tf #[F]
structure CkPos (w0 : World) (gl gv gb gf : Nat) : Prop where
  lb : gl ≠ gb
  vb : gv ≠ gb
  fb : gf ≠ gb
  l0 : w0.heap.size ≤ gl
  v0 : w0.heap.size ≤ gv
  b0 : w0.heap.size ≤ gb
  f0 : w0.heap.size ≤ gf
section
variable {w0 W W' : World} {gl gv gb gf leaf : Nat} {tf : TypeId} {F : Value} {p p' : Pth}
theorem CkS.below (h : CkS w0 gl gv gb gf leaf tf F p W) (hb : Below W.heap.size W W') : CkS w0 gl gv gb gf leaf tf F p W' :=
  ⟨h.path.below hb, h.leaf.below hb, h.pv.below hb, h.fn.below hb⟩
theorem CkS.went (h : CkS w0 gl gv gb gf leaf tf F p W) (hp : CkPos w0 gl gv gb gf) (hg : Grew [gb] W W') (h2 : PthAt w0 gb p' W') : CkS w0 gl gv gb gf leaf tf F p' W' :=
  ⟨h2, hg.blk h.leaf (by simpa using hp.lb), hg.blk h.pv (by simpa using hp.vb), hg.blk h.fn (by simpa using hp.fb)⟩
theorem CkS.other (h : CkS w0 gl gv gb gf leaf tf F p W) (hp : CkPos w0 gl gv gb gf) {g : Nat} (ht : Turned g W W') (hl : gl ≠ g) (hv : gv ≠ g) (hb : gb ≠ g) (hf : gf ≠ g) (h0 : w0.heap.size ≤ g) : CkS w0 gl gv gb gf leaf tf F p W' :=
  ⟨h.path.grew ((Grew.refl [g] W).turned ht (.inl (by simp))) (by simpa using hb) (by simpa using h0), ht.blk h.leaf hl, ht.blk h.pv hv, ht.blk h.fn hf⟩
theorem CkS.lt (h : CkS w0 gl gv gb gf leaf tf F p W) : gl < W.heap.size ∧ gv < W.heap.size ∧ gb < W.heap.size ∧ gf < W.heap.size := by
  obtain ⟨_, _, _, _, _, _, _, hb⟩ := h.path.blk
  exact ⟨h.leaf.lt, h.pv.lt, hb.lt, h.fn.lt⟩
end
def CkIs (r : Nat × Pth) (w0 : World) (gl gv gb gf leaf : Nat) (tf : TypeId) (F : Value) (w : World) (e : Ending) (w' : World) : Prop := e = .returned (dgV r.1) ∧ CkS w0 gl gv gb gf leaf tf F r.2 w' ∧ Grew [gb] w w'
abbrev F51 (gl gv gf : Nat) : Value := fnV 51 [gl, gv, gf]
set_option maxRecDepth 20000 in
set_option maxHeartbeats 4000000 in
theorem climbI_any {nd : Nat → Nat → Nat} {em : Nat} (N : Nds nd em) (w0 : World) (gl gv gb gf leaf : Nat) (hpos : CkPos w0 gl gv gb gf) (hg : GCon w0) (K : Nat) : ∀ (i n : Nat) (p : Pth) (w : World), n ≤ K → n ≤ 1099511627776 → i < n →
    CkS w0 gl gv gb gf leaf 88 (F51 gl gv gf) p w →
    Calls Tryd.prog 51 #[.int .i64 i, .int .i64 n, .pointer (some ⟨gl, 0, none⟩), .pointer (some ⟨gv, 0, none⟩), .pointer (some ⟨gf, 0, none⟩)] w (CkIs (climbI nd leaf i n p) w0 gl gv gb gf leaf 88 (F51 gl gv gf) w) := by
  induction K with
  | zero => intro i n p w hK hn hi; omega
  | succ K ih =>
    intro i n p w hK hn hi hs
    by_cases h1 : n = 1
    · subst h1
      rw [climbI_one nd leaf i 1 p (by omega)]
      unfold CkIs
      show Calls _ _ _ _ fun e w' => e = .returned (dgV leaf) ∧ CkS w0 gl gv gb gf leaf 88 (F51 gl gv gf) p w' ∧ Grew [gb] w w'
      generalize hF : F51 gl gv gf = F at *
      clear hF
      have HS := Lib.hid hs
      clear hs
      go_enter Tryd.func51, Tryd.ntmps51
      go_upto_region 1 with ((with_reducible show wpList _ _ _ (⟨some 7, _, _, _, _, _⟩ :: _) _ _); refine wpList_new (cs := dgC 0) rfl rfl zeroDg ?_; intro w1 g7 hg7 q7 hb1 lt7; have HG7 := Lib.hid hg7; clear hg7)
      have hs1 := HS.out.below hb1
      have ql := hs1.leaf
      go_wp2_with (first
        | ((with_reducible show wpList _ _ _ (⟨some 12, _, _, _, _, _⟩ :: _) _ _); refine wpList_loadRow rfl rfl rfl ql aggDg (by rw [sizeDg, dgC_size]) ?_)
        | ((with_reducible show wpList _ _ _ (⟨none, _, _, _, _, _⟩ :: _) _ _); refine wpList_put (vs := dgC leaf) rfl rfl rfl rfl q7 (by rw [dgC_size, dgC_size]) (by rw [sizeDg, dgC_size]) (one_dgC _) ?_; intro w9 ht9 b9))
      have hlt := HS.out.lt
      have h7 := HG7.out
      exact ret_blk rfl rfl rfl b9 aggDg (by rw [sizeDg, dgC_size]) ⟨rfl, hs1.other hpos ht9 (by omega) (by omega) (by omega) (by omega) (by have := HS.out.path.old.size; omega), (Grew.of_below hb1).turned ht9 (.inr (by omega))⟩
    · have hk1 := Merk.split_lt (n := n) (by omega)
      have hk0 := Merk.split_pos n
      have HS := Lib.hid (fun W => split_any n W (by omega) hn)
      have HSt := Lib.hid hs
      have HPOS := Lib.hid hpos
      have HG := Lib.hid hg
      have HL := Lib.hid (fun (q : Pth) (W : World) (h : PthAt w0 gb q W) => last_any q w0 gb W h)
      have e1 : ((n : Int) == 1) = false := by simp; omega
      by_cases hik : i < Merk.split n
      ·
        rw [climbI_left nd leaf i n p (by omega) hik]
        have HI := Lib.hid (fun (W : World) (h : CkS w0 gl gv gb gf leaf 88 (F51 gl gv gf) p.last.2 W) => ih i (Merk.split n) p.last.2 W (by omega) (by omega) hik h)
        have HN := Lib.hid (fun (W : World) (h : GCon W) => N.node (climbI nd leaf i (Merk.split n) p.last.2).1 p.last.1 W h)
        have HL1 := Lib.hid (HL.out p)
        unfold CkIs at HI ⊢
        unfold EndIs at HL1
        show Calls _ _ _ _ fun e w' => e = .returned (dgV (nd (climbI nd leaf i (Merk.split n) p.last.2).1 p.last.1)) ∧ CkS w0 gl gv gb gf leaf 88 (F51 gl gv gf) (climbI nd leaf i (Merk.split n) p.last.2).2 w' ∧ Grew [gb] w w'
        clear ih hs hpos hg HL
        generalize nd (climbI nd leaf i (Merk.split n) p.last.2).1 p.last.1 = Z at *
        generalize (climbI nd leaf i (Merk.split n) p.last.2).1 = D at *
        generalize (climbI nd leaf i (Merk.split n) p.last.2).2 = Q at *
        generalize p.last.1 = X at *
        generalize p.last.2 = P1 at *
        generalize Merk.split n = k at *
        generalize hF : F51 gl gv gf = F at *
        have HF := Lib.hid hF.symm
        clear hF
        have hik2 : (i : Int) < (k : Int) := by omega
        go_enter Tryd.func51, Tryd.ntmps51
        go_upto_region 3 with ((with_reducible show wpList _ _ _ (⟨some 7, _, _, _, _, _⟩ :: _) _ _); refine wpList_new (cs := dgC 0) rfl rfl zeroDg ?_; intro w1 g7 hg7 q7 hb1 lt7; have HG7 := Lib.hid hg7; clear hg7)
        go_cut [8, 9] from 13 to 16 (fun v8 v9 W => ∃ g9, v9 = .pointer (some ⟨g9, 0, none⟩) ∧ v8 = .int .i64 k ∧ CkS w0 gl gv gb gf leaf 88 F P1 W ∧ Blk W g7 31 (dgC 0) ∧ Blk W g9 31 (dgC X) ∧ Grew [gb] w W ∧ w.heap.size ≤ g9 ∧ g7 < g9)
        case first =>
          have hst := (HSt.out.below hb1).below (Below.refl w1.heap.size w1).drew
          have HLT := Lib.hid HSt.out.lt
          have hgr : Grew [gb] w w1.drew := (Grew.of_below hb1).later (Below.refl w1.heap.size w1).drew
          replace q7 := q7.below (Below.refl w1.heap.size w1).drew
          have hpv := hst.pv
          refine wp_region_TS (S := fun W => Blk W gv 79 #[.pointer (some ⟨gb, 0, none⟩)]) 6 (by kernel_rfl) ?_
          refine WpT.take (i := 0) rfl (by kernel_rfl) (fun _ _ _ h => h) (.inl ⟨by rfl, fun w hSw => by clear hSw; go_simp; (try go_bits); (try rw [if_pos (by omega)]); (try with_reducible rfl)⟩) (hpv) ?_
          try simp only [nrm]
          refine WpT.take (i := 2) rfl (by kernel_rfl) (fun _ _ _ h => h) (yields_load1S rfl rfl rfl (by kernel_rfl) (fun W h => h.cell 0)) (hpv) ?_
          try simp only [nrm]
          refine WpT.fork (i := 1) (j := 4) rfl rfl (by kernel_rfl) (fun K hK => ?_) (fun K hK => ?_)
          · go_simp; refine (HS.out _).mono ?_; rintro e wS ⟨rfl, rfl⟩
            refine hK _ _ (hpv) ?_; clear hK K; try simp only [nrm]
            refine WpT.fork (i := 3) (j := 4) rfl rfl (by kernel_rfl) (fun K hK => ?_) (fun K hK => ?_)
            · go_simp; refine (HL1.out _ hst.path).mono ?_; rintro e wL ⟨rfl, hpl, hgl⟩; replace hst := hst.went HPOS.out hgl hpl; replace q7 := hgl.blk q7 (by have := HG7.out; have := HLT.out; simp; omega); (try replace q9 := hgl.blk q9 (by have := HG9.out; have := HLT.out; simp; omega)); replace hgr := hgr.trans hgl; replace hpv := hst.pv
              refine hK _ _ (hpv) ?_; clear hK K; try simp only [nrm]
              refine WpT.one (i := 4) rfl (by kernel_rfl) (fun K hK => ?_)
              refine (if_pos (by rfl)).mpr ?_; refine wp_new (cs := dgC 0) rfl zeroDg ?_; intro wN g9 hg9 q9 hbN lt9; have HG9 := Lib.hid (show w.heap.size ≤ g9 ∧ g7 < g9 from ⟨by have := hgr.size; omega, by have := q7.lt; omega⟩); clear hg9; replace hst := hst.below hbN; replace q7 := q7.below hbN; replace hgr := hgr.later hbN; replace hpv := hst.pv
              refine hK _ _ (hpv) ?_; clear hK K; try simp only [nrm]
              refine WpT.one (i := 5) rfl (by kernel_rfl) (fun K hK => ?_)
              go_simp; (try go_bits)
              refine hK _ _ (hpv) ?_; clear hK K; try simp only [nrm]
              refine WpT.tail (i := 6) rfl (by kernel_rfl) (by kernel_rfl) (fun K hK => ?_)
              refine (if_pos (by rfl)).mpr ?_; refine wp_put (vs := dgC X) rfl rfl rfl q9 (by rw [dgC_size, dgC_size]) (by rw [sizeDg, dgC_size]) (one_dgC _) ?_; intro wP htP bP
              refine hK _ _ ?_; clear hK K; try simp only [nrm]
              refine WpT.done (by kernel_rfl) ?_ _
              have h9 := HG9.out; have hlt := HLT.out; have h7 := HG7.out; have hw0 := HPOS.out.l0; replace hst := hst.other HPOS.out htP (by omega) (by omega) (by omega) (by omega) (by have := HSt.out.path.old.size; omega); replace q7 := htP.blk q7 (by omega); replace hgr := hgr.turned htP (.inr (by omega)); clear h7 hlt; go_wp2_with fail; go_meet; exact ⟨g9, rfl, rfl, hst, q7, bP, hgr, h9.1, h9.2⟩
            · refine (if_pos (by rfl)).mpr ?_; refine wp_new (cs := dgC 0) rfl zeroDg ?_; intro wN g9 hg9 q9 hbN lt9; have HG9 := Lib.hid (show w.heap.size ≤ g9 ∧ g7 < g9 from ⟨by have := hgr.size; omega, by have := q7.lt; omega⟩); clear hg9; replace hst := hst.below hbN; replace q7 := q7.below hbN; replace hgr := hgr.later hbN; replace hpv := hst.pv
              refine hK _ _ (hpv) ?_; clear hK K; try simp only [nrm]
              refine WpT.one (i := 3) rfl (by kernel_rfl) (fun K hK => ?_)
              go_simp; refine (HL1.out _ hst.path).mono ?_; rintro e wL ⟨rfl, hpl, hgl⟩; replace hst := hst.went HPOS.out hgl hpl; replace q7 := hgl.blk q7 (by have := HG7.out; have := HLT.out; simp; omega); (try replace q9 := hgl.blk q9 (by have := HG9.out; have := HLT.out; simp; omega)); replace hgr := hgr.trans hgl; replace hpv := hst.pv
              refine hK _ _ (hpv) ?_; clear hK K; try simp only [nrm]
              refine WpT.one (i := 5) rfl (by kernel_rfl) (fun K hK => ?_)
              go_simp; (try go_bits)
              refine hK _ _ (hpv) ?_; clear hK K; try simp only [nrm]
              refine WpT.tail (i := 6) rfl (by kernel_rfl) (by kernel_rfl) (fun K hK => ?_)
              refine (if_pos (by rfl)).mpr ?_; refine wp_put (vs := dgC X) rfl rfl rfl q9 (by rw [dgC_size, dgC_size]) (by rw [sizeDg, dgC_size]) (one_dgC _) ?_; intro wP htP bP
              refine hK _ _ ?_; clear hK K; try simp only [nrm]
              refine WpT.done (by kernel_rfl) ?_ _
              have h9 := HG9.out; have hlt := HLT.out; have h7 := HG7.out; have hw0 := HPOS.out.l0; replace hst := hst.other HPOS.out htP (by omega) (by omega) (by omega) (by omega) (by have := HSt.out.path.old.size; omega); replace q7 := htP.blk q7 (by omega); replace hgr := hgr.turned htP (.inr (by omega)); clear h7 hlt; go_wp2_with fail; go_meet; exact ⟨g9, rfl, rfl, hst, q7, bP, hgr, h9.1, h9.2⟩
          · refine (if_pos (by rfl)).mpr ?_; refine wp_new (cs := dgC 0) rfl zeroDg ?_; intro wN g9 hg9 q9 hbN lt9; have HG9 := Lib.hid (show w.heap.size ≤ g9 ∧ g7 < g9 from ⟨by have := hgr.size; omega, by have := q7.lt; omega⟩); clear hg9; replace hst := hst.below hbN; replace q7 := q7.below hbN; replace hgr := hgr.later hbN; replace hpv := hst.pv
            refine hK _ _ (hpv) ?_; clear hK K; try simp only [nrm]
            refine WpT.one (i := 1) rfl (by kernel_rfl) (fun K hK => ?_)
            go_simp; refine (HS.out _).mono ?_; rintro e wS ⟨rfl, rfl⟩
            refine hK _ _ (hpv) ?_; clear hK K; try simp only [nrm]
            refine WpT.one (i := 3) rfl (by kernel_rfl) (fun K hK => ?_)
            go_simp; refine (HL1.out _ hst.path).mono ?_; rintro e wL ⟨rfl, hpl, hgl⟩; replace hst := hst.went HPOS.out hgl hpl; replace q7 := hgl.blk q7 (by have := HG7.out; have := HLT.out; simp; omega); (try replace q9 := hgl.blk q9 (by have := HG9.out; have := HLT.out; simp; omega)); replace hgr := hgr.trans hgl; replace hpv := hst.pv
            refine hK _ _ (hpv) ?_; clear hK K; try simp only [nrm]
            refine WpT.one (i := 5) rfl (by kernel_rfl) (fun K hK => ?_)
            go_simp; (try go_bits)
            refine hK _ _ (hpv) ?_; clear hK K; try simp only [nrm]
            refine WpT.tail (i := 6) rfl (by kernel_rfl) (by kernel_rfl) (fun K hK => ?_)
            refine (if_pos (by rfl)).mpr ?_; refine wp_put (vs := dgC X) rfl rfl rfl q9 (by rw [dgC_size, dgC_size]) (by rw [sizeDg, dgC_size]) (one_dgC _) ?_; intro wP htP bP
            refine hK _ _ ?_; clear hK K; try simp only [nrm]
            refine WpT.done (by kernel_rfl) ?_ _
            have h9 := HG9.out; have hlt := HLT.out; have h7 := HG7.out; have hw0 := HPOS.out.l0; replace hst := hst.other HPOS.out htP (by omega) (by omega) (by omega) (by omega) (by have := HSt.out.path.old.size; omega); replace q7 := htP.blk q7 (by omega); replace hgr := hgr.turned htP (.inr (by omega)); clear h7 hlt; go_wp2_with fail; go_meet; exact ⟨g9, rfl, rfl, hst, q7, bP, hgr, h9.1, h9.2⟩
        case rest =>
          obtain ⟨g9, rfl, rfl, hst, q7, q9, hgr, h90, h97⟩ := hcut
          have HH := Lib.hid (And.intro h90 h97)
          have HLT := Lib.hid HSt.out.lt
          clear h90 h97
          go_upto_region 5 with (fail)
          replace hst := hst.below (Below.refl _ _).drew
          replace q7 := q7.below (Below.refl _ _).drew
          replace q9 := q9.below (Below.refl _ _).drew
          replace hgr := hgr.later (Below.refl _ _).drew
          have hS : Blk _ gf 88 #[F] ∧ Blk _ g9 31 (dgC X) := ⟨hst.fn, q9⟩
          rw [HF.out] at hS
          refine wp_region_TS (S := fun W => Blk W gf 88 #[F51 gl gv gf] ∧ Blk W g9 31 (dgC X)) 6 (by kernel_rfl) ?_
          refine WpT.take (i := 0) rfl (by kernel_rfl) (fun _ _ _ h => h) (yields_load1S rfl rfl rfl (by kernel_rfl) (fun W h => h.1.cell 0)) (hS) ?_
          try simp only [nrm]
          refine WpT.take (i := 1) rfl (by kernel_rfl) (fun _ _ _ h => h) (.inl ⟨by rfl, fun w hSw => by clear hSw; go_simp; (try go_bits); (try rw [if_pos (by omega)]); (try with_reducible rfl)⟩) (hS) ?_
          try simp only [nrm]
          refine WpT.take (i := 2) rfl (by kernel_rfl) (fun _ _ _ h => h) (.inl ⟨by rfl, fun w hSw => by clear hSw; go_simp; (try go_bits); (try rw [if_pos (by omega)]); (try with_reducible rfl)⟩) (hS) ?_
          try simp only [nrm]
          refine WpT.take (i := 4) rfl (by kernel_rfl) (fun _ _ _ h => h) (yields_blkS rfl rfl rfl aggDg (by rw [sizeDg, dgC_size]) (fun W h => h.2)) (hS) ?_
          try simp only [nrm]
          refine WpT.one (i := 3) rfl (by kernel_rfl) (fun K hK => ?_)
          go_simp; refine (HI.out _ hst).mono ?_; rintro e wC ⟨rfl, hst2, hgC⟩; replace q7 := hgC.blk q7 (by have := HG7.out; have := HLT.out; simp; omega); replace q9 := hgC.blk q9 (by have := HH.out; have := HLT.out; simp; omega); replace hgr := hgr.trans hgC; replace hst := hst2; clear hst2; replace hS := And.intro hst.fn q9; rw [HF.out] at hS
          refine hK _ _ (hS) ?_; clear hK K; try simp only [nrm]
          refine WpT.one (i := 5) rfl (by kernel_rfl) (fun K hK => ?_)
          go_simp; refine (HN.out _ (HG.out.below hst.path.old)).mono ?_; rintro e wM ⟨rfl, hbM⟩; replace hst := hst.below hbM; replace q7 := q7.below hbM; replace q9 := q9.below hbM; replace hgr := hgr.later hbM; replace hS := And.intro hst.fn q9; rw [HF.out] at hS
          refine hK _ _ (hS) ?_; clear hK K; try simp only [nrm]
          refine WpT.tail (i := 6) rfl (by kernel_rfl) (by kernel_rfl) (fun K hK => ?_)
          refine (if_pos (by rfl)).mpr ?_; refine wp_put (vs := dgC Z) rfl rfl rfl q7 (by rw [dgC_size, dgC_size]) (by rw [sizeDg, dgC_size]) (one_dgC _) ?_; intro w9 ht9 b9
          refine hK _ _ ?_; clear hK K; try simp only [nrm]
          refine WpT.done (by kernel_rfl) ?_ _
          skip
          have hlt := HLT.out
          have h7 := HG7.out
          have hfin := hst.other HPOS.out ht9 (by omega) (by omega) (by omega) (by omega) (by have := HSt.out.path.old.size; omega)
          replace hgr := hgr.turned ht9 (.inr (by omega))
          clear hS q9 q7 hst h7 hlt
          go_wp2_with fail
          exact ret_blk rfl rfl rfl b9 aggDg (by rw [sizeDg, dgC_size]) ⟨rfl, hfin, hgr⟩
      ·
        rw [climbI_right nd leaf i n p (by omega) hik]
        have HI := Lib.hid (fun (W : World) (h : CkS w0 gl gv gb gf leaf 88 (F51 gl gv gf) p.last.2 W) => ih (i - Merk.split n) (n - Merk.split n) p.last.2 W (by omega) (by omega) (by omega) h)
        have HN := Lib.hid (fun (W : World) (h : GCon W) => N.node p.last.1 (climbI nd leaf (i - Merk.split n) (n - Merk.split n) p.last.2).1 W h)
        have HL1 := Lib.hid (HL.out p)
        unfold CkIs at HI ⊢
        unfold EndIs at HL1
        show Calls _ _ _ _ fun e w' => e = .returned (dgV (nd p.last.1 (climbI nd leaf (i - Merk.split n) (n - Merk.split n) p.last.2).1)) ∧ CkS w0 gl gv gb gf leaf 88 (F51 gl gv gf) (climbI nd leaf (i - Merk.split n) (n - Merk.split n) p.last.2).2 w' ∧ Grew [gb] w w'
        have hc1 : ((i - Merk.split n : Nat) : Int) = (i : Int) - (Merk.split n : Int) := by omega
        have hc2 : ((n - Merk.split n : Nat) : Int) = (n : Int) - (Merk.split n : Int) := by omega
        rw [hc1, hc2] at HI
        clear hc1 hc2
        clear ih hs hpos hg HL
        generalize nd p.last.1 (climbI nd leaf (i - Merk.split n) (n - Merk.split n) p.last.2).1 = Z at *
        generalize (climbI nd leaf (i - Merk.split n) (n - Merk.split n) p.last.2).1 = D at *
        generalize (climbI nd leaf (i - Merk.split n) (n - Merk.split n) p.last.2).2 = Q at *
        generalize p.last.1 = X at *
        generalize p.last.2 = P1 at *
        generalize Merk.split n = k at *
        generalize hF : F51 gl gv gf = F at *
        have HF := Lib.hid hF.symm
        clear hF
        have hik2 : ¬ (i : Int) < (k : Int) := by omega
        have hsub : 0 ≤ (i : Int) - (k : Int) ∧ (i : Int) - (k : Int) ≤ 1099511627776 := by omega
        have hsub2 : 0 ≤ (n : Int) - (k : Int) ∧ (n : Int) - (k : Int) ≤ 1099511627776 := by omega
        have HW : Hid ((wrap64 ((i : Int) - (k : Int)) = (i : Int) - (k : Int) ∧ IntKind.i64.wrap ((i : Int) - (k : Int)) = (i : Int) - (k : Int)) ∧ (wrap64 ((n : Int) - (k : Int)) = (n : Int) - (k : Int) ∧ IntKind.i64.wrap ((n : Int) - (k : Int)) = (n : Int) - (k : Int))) := Lib.hid ⟨⟨by unfold wrap64; omega, wrap_small _ (by omega) (by omega)⟩, by unfold wrap64; omega, wrap_small _ (by omega) (by omega)⟩
        go_enter Tryd.func51, Tryd.ntmps51
        go_upto_region 3 with ((with_reducible show wpList _ _ _ (⟨some 7, _, _, _, _, _⟩ :: _) _ _); refine wpList_new (cs := dgC 0) rfl rfl zeroDg ?_; intro w1 g7 hg7 q7 hb1 lt7; have HG7 := Lib.hid hg7; clear hg7)
        go_cut [8, 9] from 13 to 16 (fun v8 v9 W => ∃ g9, v9 = .pointer (some ⟨g9, 0, none⟩) ∧ v8 = .int .i64 k ∧ CkS w0 gl gv gb gf leaf 88 F P1 W ∧ Blk W g7 31 (dgC 0) ∧ Blk W g9 31 (dgC X) ∧ Grew [gb] w W ∧ w.heap.size ≤ g9 ∧ g7 < g9)
        case first =>
          have hst := (HSt.out.below hb1).below (Below.refl w1.heap.size w1).drew
          have HLT := Lib.hid HSt.out.lt
          have hgr : Grew [gb] w w1.drew := (Grew.of_below hb1).later (Below.refl w1.heap.size w1).drew
          replace q7 := q7.below (Below.refl w1.heap.size w1).drew
          have hpv := hst.pv
          refine wp_region_TS (S := fun W => Blk W gv 79 #[.pointer (some ⟨gb, 0, none⟩)]) 6 (by kernel_rfl) ?_
          refine WpT.take (i := 0) rfl (by kernel_rfl) (fun _ _ _ h => h) (.inl ⟨by rfl, fun w hSw => by clear hSw; go_simp; (try go_bits); (try rw [if_pos (by omega)]); (try with_reducible rfl)⟩) (hpv) ?_
          try simp only [nrm]
          refine WpT.take (i := 2) rfl (by kernel_rfl) (fun _ _ _ h => h) (yields_load1S rfl rfl rfl (by kernel_rfl) (fun W h => h.cell 0)) (hpv) ?_
          try simp only [nrm]
          refine WpT.fork (i := 1) (j := 4) rfl rfl (by kernel_rfl) (fun K hK => ?_) (fun K hK => ?_)
          · go_simp; refine (HS.out _).mono ?_; rintro e wS ⟨rfl, rfl⟩
            refine hK _ _ (hpv) ?_; clear hK K; try simp only [nrm]
            refine WpT.fork (i := 3) (j := 4) rfl rfl (by kernel_rfl) (fun K hK => ?_) (fun K hK => ?_)
            · go_simp; refine (HL1.out _ hst.path).mono ?_; rintro e wL ⟨rfl, hpl, hgl⟩; replace hst := hst.went HPOS.out hgl hpl; replace q7 := hgl.blk q7 (by have := HG7.out; have := HLT.out; simp; omega); (try replace q9 := hgl.blk q9 (by have := HG9.out; have := HLT.out; simp; omega)); replace hgr := hgr.trans hgl; replace hpv := hst.pv
              refine hK _ _ (hpv) ?_; clear hK K; try simp only [nrm]
              refine WpT.one (i := 4) rfl (by kernel_rfl) (fun K hK => ?_)
              refine (if_pos (by rfl)).mpr ?_; refine wp_new (cs := dgC 0) rfl zeroDg ?_; intro wN g9 hg9 q9 hbN lt9; have HG9 := Lib.hid (show w.heap.size ≤ g9 ∧ g7 < g9 from ⟨by have := hgr.size; omega, by have := q7.lt; omega⟩); clear hg9; replace hst := hst.below hbN; replace q7 := q7.below hbN; replace hgr := hgr.later hbN; replace hpv := hst.pv
              refine hK _ _ (hpv) ?_; clear hK K; try simp only [nrm]
              refine WpT.one (i := 5) rfl (by kernel_rfl) (fun K hK => ?_)
              go_simp; (try go_bits)
              refine hK _ _ (hpv) ?_; clear hK K; try simp only [nrm]
              refine WpT.tail (i := 6) rfl (by kernel_rfl) (by kernel_rfl) (fun K hK => ?_)
              refine (if_pos (by rfl)).mpr ?_; refine wp_put (vs := dgC X) rfl rfl rfl q9 (by rw [dgC_size, dgC_size]) (by rw [sizeDg, dgC_size]) (one_dgC _) ?_; intro wP htP bP
              refine hK _ _ ?_; clear hK K; try simp only [nrm]
              refine WpT.done (by kernel_rfl) ?_ _
              have h9 := HG9.out; have hlt := HLT.out; have h7 := HG7.out; have hw0 := HPOS.out.l0; replace hst := hst.other HPOS.out htP (by omega) (by omega) (by omega) (by omega) (by have := HSt.out.path.old.size; omega); replace q7 := htP.blk q7 (by omega); replace hgr := hgr.turned htP (.inr (by omega)); clear h7 hlt; go_wp2_with fail; go_meet; exact ⟨g9, rfl, rfl, hst, q7, bP, hgr, h9.1, h9.2⟩
            · refine (if_pos (by rfl)).mpr ?_; refine wp_new (cs := dgC 0) rfl zeroDg ?_; intro wN g9 hg9 q9 hbN lt9; have HG9 := Lib.hid (show w.heap.size ≤ g9 ∧ g7 < g9 from ⟨by have := hgr.size; omega, by have := q7.lt; omega⟩); clear hg9; replace hst := hst.below hbN; replace q7 := q7.below hbN; replace hgr := hgr.later hbN; replace hpv := hst.pv
              refine hK _ _ (hpv) ?_; clear hK K; try simp only [nrm]
              refine WpT.one (i := 3) rfl (by kernel_rfl) (fun K hK => ?_)
              go_simp; refine (HL1.out _ hst.path).mono ?_; rintro e wL ⟨rfl, hpl, hgl⟩; replace hst := hst.went HPOS.out hgl hpl; replace q7 := hgl.blk q7 (by have := HG7.out; have := HLT.out; simp; omega); (try replace q9 := hgl.blk q9 (by have := HG9.out; have := HLT.out; simp; omega)); replace hgr := hgr.trans hgl; replace hpv := hst.pv
              refine hK _ _ (hpv) ?_; clear hK K; try simp only [nrm]
              refine WpT.one (i := 5) rfl (by kernel_rfl) (fun K hK => ?_)
              go_simp; (try go_bits)
              refine hK _ _ (hpv) ?_; clear hK K; try simp only [nrm]
              refine WpT.tail (i := 6) rfl (by kernel_rfl) (by kernel_rfl) (fun K hK => ?_)
              refine (if_pos (by rfl)).mpr ?_; refine wp_put (vs := dgC X) rfl rfl rfl q9 (by rw [dgC_size, dgC_size]) (by rw [sizeDg, dgC_size]) (one_dgC _) ?_; intro wP htP bP
              refine hK _ _ ?_; clear hK K; try simp only [nrm]
              refine WpT.done (by kernel_rfl) ?_ _
              have h9 := HG9.out; have hlt := HLT.out; have h7 := HG7.out; have hw0 := HPOS.out.l0; replace hst := hst.other HPOS.out htP (by omega) (by omega) (by omega) (by omega) (by have := HSt.out.path.old.size; omega); replace q7 := htP.blk q7 (by omega); replace hgr := hgr.turned htP (.inr (by omega)); clear h7 hlt; go_wp2_with fail; go_meet; exact ⟨g9, rfl, rfl, hst, q7, bP, hgr, h9.1, h9.2⟩
          · refine (if_pos (by rfl)).mpr ?_; refine wp_new (cs := dgC 0) rfl zeroDg ?_; intro wN g9 hg9 q9 hbN lt9; have HG9 := Lib.hid (show w.heap.size ≤ g9 ∧ g7 < g9 from ⟨by have := hgr.size; omega, by have := q7.lt; omega⟩); clear hg9; replace hst := hst.below hbN; replace q7 := q7.below hbN; replace hgr := hgr.later hbN; replace hpv := hst.pv
            refine hK _ _ (hpv) ?_; clear hK K; try simp only [nrm]
            refine WpT.one (i := 1) rfl (by kernel_rfl) (fun K hK => ?_)
            go_simp; refine (HS.out _).mono ?_; rintro e wS ⟨rfl, rfl⟩
            refine hK _ _ (hpv) ?_; clear hK K; try simp only [nrm]
            refine WpT.one (i := 3) rfl (by kernel_rfl) (fun K hK => ?_)
            go_simp; refine (HL1.out _ hst.path).mono ?_; rintro e wL ⟨rfl, hpl, hgl⟩; replace hst := hst.went HPOS.out hgl hpl; replace q7 := hgl.blk q7 (by have := HG7.out; have := HLT.out; simp; omega); (try replace q9 := hgl.blk q9 (by have := HG9.out; have := HLT.out; simp; omega)); replace hgr := hgr.trans hgl; replace hpv := hst.pv
            refine hK _ _ (hpv) ?_; clear hK K; try simp only [nrm]
            refine WpT.one (i := 5) rfl (by kernel_rfl) (fun K hK => ?_)
            go_simp; (try go_bits)
            refine hK _ _ (hpv) ?_; clear hK K; try simp only [nrm]
            refine WpT.tail (i := 6) rfl (by kernel_rfl) (by kernel_rfl) (fun K hK => ?_)
            refine (if_pos (by rfl)).mpr ?_; refine wp_put (vs := dgC X) rfl rfl rfl q9 (by rw [dgC_size, dgC_size]) (by rw [sizeDg, dgC_size]) (one_dgC _) ?_; intro wP htP bP
            refine hK _ _ ?_; clear hK K; try simp only [nrm]
            refine WpT.done (by kernel_rfl) ?_ _
            have h9 := HG9.out; have hlt := HLT.out; have h7 := HG7.out; have hw0 := HPOS.out.l0; replace hst := hst.other HPOS.out htP (by omega) (by omega) (by omega) (by omega) (by have := HSt.out.path.old.size; omega); replace q7 := htP.blk q7 (by omega); replace hgr := hgr.turned htP (.inr (by omega)); clear h7 hlt; go_wp2_with fail; go_meet; exact ⟨g9, rfl, rfl, hst, q7, bP, hgr, h9.1, h9.2⟩
        case rest =>
          obtain ⟨g9, rfl, rfl, hst, q7, q9, hgr, h90, h97⟩ := hcut
          have HH := Lib.hid (And.intro h90 h97)
          have HLT := Lib.hid HSt.out.lt
          clear h90 h97
          go_upto_region 6 with (fail)
          replace hst := hst.below (Below.refl _ _).drew
          replace q7 := q7.below (Below.refl _ _).drew
          replace q9 := q9.below (Below.refl _ _).drew
          replace hgr := hgr.later (Below.refl _ _).drew
          have hS : Blk _ gf 88 #[F] ∧ Blk _ g9 31 (dgC X) := ⟨hst.fn, q9⟩
          rw [HF.out] at hS
          refine wp_region_TS (S := fun W => Blk W gf 88 #[F51 gl gv gf] ∧ Blk W g9 31 (dgC X)) 10 (by kernel_rfl) ?_
          refine WpT.take (i := 0) rfl (by kernel_rfl) (fun _ _ _ h => h) (yields_blkS rfl rfl rfl aggDg (by rw [sizeDg, dgC_size]) (fun W h => h.2)) (hS) ?_
          try simp only [nrm]
          refine WpT.take (i := 1) rfl (by kernel_rfl) (fun _ _ _ h => h) (yields_load1S rfl rfl rfl (by kernel_rfl) (fun W h => h.1.cell 0)) (hS) ?_
          try simp only [nrm]
          refine WpT.take (i := 2) rfl (by kernel_rfl) (fun _ _ _ h => h) (.inl ⟨by rfl, fun w hSw => by clear hSw; go_simp; (try go_bits); (try rw [if_pos (by omega)]); (try with_reducible rfl)⟩) (hS) ?_
          try simp only [nrm]
          refine WpT.take (i := 3) rfl (by kernel_rfl) (fun _ _ _ h => h) (.inl ⟨by rfl, fun w hSw => by clear hSw; go_simp; (try go_bits); (try rw [if_pos (by omega)]); (try with_reducible rfl)⟩) (hS) ?_
          try simp only [nrm]
          refine WpT.take (i := 4) rfl (by kernel_rfl) (fun _ _ _ h => h) (.inl ⟨by rfl, fun w hSw => by clear hSw; go_simp; (try go_bits); (try rw [if_pos (by omega)]); (try with_reducible rfl)⟩) (hS) ?_
          try simp only [nrm]
          refine WpT.take (i := 5) rfl (by kernel_rfl) (fun _ _ _ h => h) (.inl ⟨by rfl, fun w hSw => by clear hSw; go_simp; (try go_bits); (try rw [if_pos (by omega)]); (try with_reducible rfl)⟩) (hS) ?_
          try simp only [nrm]
          refine WpT.take (i := 6) rfl (by kernel_rfl) (fun _ _ _ h => h) (.inl ⟨by rfl, fun w hSw => by clear hSw; go_simp; (try go_bits); (try rw [if_pos (by omega)]); (try with_reducible rfl)⟩) (hS) ?_
          try simp only [nrm]
          refine WpT.take (i := 7) rfl (by kernel_rfl) (fun _ _ _ h => h) (.inl ⟨by rfl, fun w hSw => by clear hSw; go_simp; (try go_bits); (try rw [if_pos (by omega)]); (try with_reducible rfl)⟩) (hS) ?_
          try simp only [nrm]
          refine WpT.one (i := 8) rfl (by kernel_rfl) (fun K hK => ?_)
          go_simp; (try simp only [HW.out.1.1, HW.out.1.2, HW.out.2.1, HW.out.2.2]); refine (HI.out _ hst).mono ?_; rintro e wC ⟨rfl, hst2, hgC⟩; replace q7 := hgC.blk q7 (by have := HG7.out; have := HLT.out; simp; omega); replace q9 := hgC.blk q9 (by have := HH.out; have := HLT.out; simp; omega); replace hgr := hgr.trans hgC; replace hst := hst2; clear hst2; replace hS := And.intro hst.fn q9; rw [HF.out] at hS
          refine hK _ _ (hS) ?_; clear hK K; try simp only [nrm]
          refine WpT.one (i := 9) rfl (by kernel_rfl) (fun K hK => ?_)
          go_simp; refine (HN.out _ (HG.out.below hst.path.old)).mono ?_; rintro e wM ⟨rfl, hbM⟩; replace hst := hst.below hbM; replace q7 := q7.below hbM; replace q9 := q9.below hbM; replace hgr := hgr.later hbM; replace hS := And.intro hst.fn q9; rw [HF.out] at hS
          refine hK _ _ (hS) ?_; clear hK K; try simp only [nrm]
          refine WpT.tail (i := 10) rfl (by kernel_rfl) (by kernel_rfl) (fun K hK => ?_)
          refine (if_pos (by rfl)).mpr ?_; refine wp_put (vs := dgC Z) rfl rfl rfl q7 (by rw [dgC_size, dgC_size]) (by rw [sizeDg, dgC_size]) (one_dgC _) ?_; intro w9 ht9 b9
          refine hK _ _ ?_; clear hK K; try simp only [nrm]
          refine WpT.done (by kernel_rfl) ?_ _
          skip
          have hlt := HLT.out
          have h7 := HG7.out
          have hfin := hst.other HPOS.out ht9 (by omega) (by omega) (by omega) (by omega) (by have := HSt.out.path.old.size; omega)
          replace hgr := hgr.turned ht9 (.inr (by omega))
          clear hS q9 q7 hst h7 hlt
          go_wp2_with fail
          exact ret_blk rfl rfl rfl b9 aggDg (by rw [sizeDg, dgC_size]) ⟨rfl, hfin, hgr⟩
end Go.Proofs.YtgggpnjnhhkmgaaDoor
