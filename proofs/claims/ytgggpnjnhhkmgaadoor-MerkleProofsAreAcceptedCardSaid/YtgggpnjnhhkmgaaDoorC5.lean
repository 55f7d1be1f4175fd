/-
  These texts, joined.
  What the checks answer on the proofs, plainly (for MerkleProofsAreAccepted). Conditions: none.
  The walk of MerkleProofsAreAccepted. Conditions: the tables of constants stand.
  The law MerkleProofsAreAccepted: it returns true for every input, and its arguments read behind the call as before; the row and its tied card. Conditions: the tables start as the program's text lays them.
-/
import Derived.Test.YtgggpnjnhhkmgaaDoorB9
import Derived.Test.YtgggpnjnhhkmgaaDoorB10
namespace Go.Proofs.YtgggpnjnhhkmgaaDoor
set_option linter.unusedSimpArgs false
set_option linter.unusedVariables false
open Go.RowKit Exch Merk Go.Shelf
section
variable (nd : Nat → Nat → Nat) (em : Nat)
theorem acc_incl (l : List Nat) (i : Nat) (hi : i < l.length) (hn : l.length ≤ 40) : inclR nd em l (i : Int) = (Merk.incl nd em l i, 0) ∧ checkI nd l[i] (i : Int) (l.length : Int) (Merk.incl nd em l i) (Merk.root nd em l) = true := by
  refine ⟨?_, ?_⟩
  · unfold inclR; rw [if_pos (by omega)]; rfl
  · unfold checkI
    rw [if_pos (by omega)]
    have h := climbI_incl nd em l.length l i [] false (Nat.le_refl _) hi
    rw [List.nil_append] at h
    rw [Int.toNat_natCast, Int.toNat_natCast, h]
    simp [settled]
/-- The old proof, for m of l's elements. -/
def oldP (l : List Nat) (m : Nat) : List Nat := if m = 0 ∨ m = l.length then [] else Merk.csy nd em l m true
theorem acc_csyR (l : List Nat) (m : Nat) (hm : m ≤ l.length) : csyR nd em l (m : Int) = (oldP nd em l m, 0) := by
  unfold csyR oldP
  rw [if_pos (by omega)]
  by_cases h : m = 0 ∨ m = l.length
  · rw [if_pos h, if_pos (by omega)]
  · rw [if_neg h, if_neg (by omega)]; rfl
theorem checkC_old (l : List Nat) (m : Nat) (hm : m ≤ l.length) (hn : l.length ≤ 40) (h1 : 1 ≤ l.length) (x : Nat) (hx : m = 0 ∨ m = l.length ∨ x = Merk.root nd em (l.take m) ∨ ∀ j, m ≠ 2 ^ j) :
    checkC nd em (m : Int) (l.length : Int) x (Merk.root nd em l) (oldP nd em l m) = decide (x = Merk.root nd em (l.take m)) := by
  unfold checkC oldP
  rw [if_pos (by omega)]
  by_cases h0 : m = 0
  · subst h0
    rw [if_pos (by simp), if_pos (by simp), List.take_zero, root_nil]
    simp [settled]
  · rw [if_neg (by omega)]
    by_cases he : m = l.length
    · rw [if_pos (.inr he)]
      subst he
      rw [Int.toNat_natCast, climbC_old, List.take_of_length_le (Nat.le_refl _)]
      simp [settled]
    · rw [if_neg (by omega), Int.toNat_natCast, Int.toNat_natCast]
      have h := climbC_csy nd em l.length l m true [] false (Merk.root nd em (l.take m)) (Nat.le_refl _) (by omega) hm (fun _ => rfl)
      rw [List.nil_append] at h
      have hc : climbC nd x m l.length true ⟨Merk.csy nd em l m true, false⟩ = (Merk.root nd em (l.take m), Merk.root nd em l, ⟨[], false⟩) := by
        rcases hx with h2 | h2 | h2 | h2
        · omega
        · omega
        · rw [h2]; exact h
        · rw [climbC_free nd l.length m l.length _ x (Merk.root nd em (l.take m)) (Nat.le_refl _) (by omega) (by omega) h2]; exact h
      rw [hc]
      simp [settled, eq_comm]
theorem checkC_new (l : List Nat) (m : Nat) (hm : m ≤ l.length) (hn : l.length ≤ 40) (h1 : 1 ≤ m) (x : Nat) :
    checkC nd em (m : Int) (l.length : Int) (Merk.root nd em (l.take m)) x (oldP nd em l m) = decide (x = Merk.root nd em l) := by
  unfold checkC oldP
  rw [if_pos (by omega), if_neg (by omega)]
  by_cases he : m = l.length
  · rw [if_pos (.inr he)]
    subst he
    rw [Int.toNat_natCast, climbC_old, List.take_of_length_le (Nat.le_refl _)]
    simp [settled, eq_comm]
  · rw [if_neg (by omega), Int.toNat_natCast, Int.toNat_natCast]
    have h := climbC_csy nd em l.length l m true [] false (Merk.root nd em (l.take m)) (Nat.le_refl _) (by omega) hm (fun _ => rfl)
    rw [List.nil_append] at h
    rw [h]
    simp [settled, eq_comm]
/-- The places that are chosen. -/
def chosenL (ch n : Nat) : List Nat := (List.range n).filter fun k => ch / 2 ^ k % 2 == 1
theorem chosen_succ (ch n : Nat) : chosenL ch (n + 1) = chosenL ch n ++ (if ch / 2 ^ n % 2 == 1 then [n] else []) := by
  unfold chosenL
  rw [List.range_succ, List.filter_append]
  congr 1
  by_cases h : (ch / 2 ^ n % 2 == 1) = true <;> simp [h]
theorem chosen_len (ch n : Nat) : (chosenL ch n).length ≤ n := by
  unfold chosenL
  exact Nat.le_trans (List.length_filter_le _ _) (by simp)
theorem chosen_asc (ch n : Nat) : (chosenL ch n).Pairwise (· < ·) := List.Pairwise.filter _ List.pairwise_lt_range
theorem chosen_lt (ch n : Nat) : ∀ x ∈ chosenL ch n, x < n := fun x hx => by simpa using (List.mem_filter.1 hx).1
theorem ascGo_of (n : Int) : ∀ (ps : List Nat) (la : Int), ps.Pairwise (· < ·) → (∀ x ∈ ps, la < (x : Int) ∧ (x : Int) < n) → ascGo n la (ps.map fun (p : Nat) => (p : Int)) = true
  | [], la, _, _ => rfl
  | x :: ps, la, hp, h => by
    have h0 := h x (by simp)
    rw [List.pairwise_cons] at hp
    simp only [List.map_cons, ascGo]
    rw [if_neg (by omega)]
    exact ascGo_of n ps x hp.2 fun y hy => ⟨by have := hp.1 y hy; omega, (h y (by simp [hy])).2⟩
theorem asc_chosen (ch n : Nat) : ascB ((chosenL ch n).map fun (p : Nat) => (p : Int)) n = true :=
  ascGo_of n _ _ (chosen_asc ch n) fun x hx => ⟨by omega, by have := chosen_lt ch n x hx; omega⟩
theorem acc_many (l : List Nat) (ch : Nat) (hn : l.length ≤ 40) (h1 : 1 ≤ l.length) :
    manyR nd em l ((chosenL ch l.length).map fun (p : Nat) => (p : Int)) = (Merk.many nd em l 0 (chosenL ch l.length), 0) ∧
    checkM nd em (l.length : Int) ((chosenL ch l.length).map fun (p : Nat) => (p : Int)) (fnd l 0 (chosenL ch l.length)) (Merk.many nd em l 0 (chosenL ch l.length)) (Merk.root nd em l) = true := by
  have ha := asc_chosen ch l.length
  refine ⟨?_, ?_⟩
  · unfold manyR
    rw [if_pos ha, if_neg (by intro h; rw [h] at h1; simp at h1), toNat_cast]
  · unfold checkM
    rw [if_pos ⟨by omega, by omega, ha, by simp [fnd]⟩, if_neg (by omega), toNat_cast, Int.toNat_natCast]
    have h := climbM_many nd em l.length l 0 (chosenL ch l.length) [] [] false false (Nat.le_refl _) h1 (chosen_asc _ _) (fun x hx => ⟨by omega, by have := chosen_lt ch l.length x hx; omega⟩)
    rw [List.append_nil, List.append_nil] at h
    rw [h]
    simp [settled]
end
theorem many_ltL {nd : Nat → Nat → Nat} {em : Nat} (N : Nds nd em) : ∀ (k : Nat) (l : List Nat) (fr : Nat) (ps : List Nat), l.length ≤ k → (∀ x ∈ l, x < 2 ^ 128) → ∀ x ∈ Merk.many nd em l fr ps, x < 2 ^ 128
  | 0, l, fr, ps, h, hl => by
    obtain rfl := List.eq_nil_of_length_eq_zero (Nat.le_zero.1 h)
    rw [Merk.many]
    split
    · intro x hx; rw [List.mem_singleton.1 hx, root_nil]; exact N.lt0
    · rw [dif_neg (by simp)]; intro x hx; simp at hx
  | k + 1, l, fr, ps, h, hl => by
    rw [Merk.many]
    split
    · intro x hx; rw [List.mem_singleton.1 hx]; exact root_lt N _ _ (Nat.le_refl _) hl
    · by_cases h2 : 2 ≤ l.length
      · have h3 := split_lt h2
        have h4 := split_pos l.length
        rw [dif_pos h2]
        intro x hx
        rcases List.mem_append.1 hx with hx | hx
        · exact many_ltL N k _ _ _ (by simp; omega) (fun x hx => hl x (List.mem_of_mem_take hx)) x hx
        · exact many_ltL N k _ _ _ (by simp; omega) (fun x hx => hl x (List.mem_of_mem_drop hx)) x hx
      · rw [dif_neg h2]; intro x hx; simp at hx
end Go.Proofs.YtgggpnjnhhkmgaaDoor
namespace Go.Proofs.YtgggpnjnhhkmgaaDoor
set_option linter.unusedSimpArgs false
set_option linter.unusedVariables false
open Go.RowKit Exch Merk Go.Shelf
theorem elemInts : ElemOk Tryd.prog 37 3 := by
  obtain ⟨i, h1, h2, h3, h4⟩ := info_parts (show (Tryd.prog.info? 3).map (fun i => (i.zero, i.size, i.bytes)) = some (some (.int .i64 0), 1, 8) by kernel_rfl)
  exact ⟨by kernel_rfl, i, .int .i64 0, h1, h2, h3, by omega, rfl⟩
theorem own_two {w : World} {B1 B2 : Nat} {e1 e2 : TypeId} {k1 k2 : Nat} {v1 v2 : Value} {n1 n2 : Nat} {xs1 xs2 : List Value} (h1 : w.ownsRow B1 e1 k1 v1 n1 xs1) (h2 : w.ownsRow B2 e2 k2 v2 n2 xs2) (he : e1 ≠ e2) : v1.ownBlock = none ∨ v1.ownBlock ≠ v2.ownBlock := by
  rcases h1.2 with ⟨rfl, _⟩ | ⟨g, cap, cur, rfl, _, hh, _⟩
  · exact .inl rfl
  · refine .inr fun e => ?_
    rcases h2.2 with ⟨rfl, _⟩ | ⟨g2, cap2, cur2, rfl, _, hh2, _⟩
    · cases e
    · injection e with e
      subst e
      rw [hh] at hh2
      injection hh2 with h
      injection h with _ h _
      exact he h
theorem yields_eqDgW {ops : Array Oper} {S : World → Prop} {o : Oper} {a : Act} {x y : Operand} {p q : Nat} {u : TypeId} {b : Bool} (hw : Region.wanted o (yielded ops a.tmps) = true) (ho : o.op = .binOp .eql 31 x y u) (hx : a.eval x = dgV p) (hy : a.eval y = dgV q) (hp : p < 2 ^ 128) (hq : q < 2 ^ 128) (hb : b = decide (p = q))
    (hg : ∀ W, (eqGuard .eql 31 x y (dgV p) (dgV q)).run Tryd.prog W = .ok () W) : YieldsIf Tryd.prog ops S o (.bool b) a := by
  refine .inl ⟨hw, fun w hS => ?_⟩
  unfold execOp
  simp only [ho, hx, hy, Sem.run_bind, hg, eql_Dg hp hq, Result.andThen_ok, Sem.run_pure, hb]
theorem neqB (b : Bool) (w : World) : (binOp .neq 4 (.bool b) (.bool b)).run Tryd.prog w = .ok (.bool false) w := by cases b <;> kernel_rfl
theorem eqlB (b : Bool) (w : World) : (binOp .eql 4 (.bool b) (.bool b)).run Tryd.prog w = .ok (.bool true) w := by cases b <;> kernel_rfl
theorem yields_neqB {ops : Array Oper} {S : World → Prop} {o : Oper} {a : Act} {x y : Operand} {u : TypeId} {b : Bool} (hw : Region.wanted o (yielded ops a.tmps) = true) (ho : o.op = .binOp .neq 4 x y u) (hx : a.eval x = .bool b) (hy : a.eval y = .bool b)
    (hg : ∀ W, (eqGuard .neq 4 x y (.bool b) (.bool b)).run Tryd.prog W = .ok () W) : YieldsIf Tryd.prog ops S o (.bool false) a := by
  refine .inl ⟨hw, fun w hS => ?_⟩
  unfold execOp
  simp only [ho, hx, hy, Sem.run_bind, hg, neqB, Result.andThen_ok, Sem.run_pure]
theorem yields_eqlB {ops : Array Oper} {S : World → Prop} {o : Oper} {a : Act} {x y : Operand} {u : TypeId} {b : Bool} (hw : Region.wanted o (yielded ops a.tmps) = true) (ho : o.op = .binOp .eql 4 x y u) (hx : a.eval x = .bool b) (hy : a.eval y = .bool b)
    (hg : ∀ W, (eqGuard .eql 4 x y (.bool b) (.bool b)).run Tryd.prog W = .ok () W) : YieldsIf Tryd.prog ops S o (.bool true) a := by
  refine .inl ⟨hw, fun w hS => ?_⟩
  unfold execOp
  simp only [ho, hx, hy, Sem.run_bind, hg, eqlB, Result.andThen_ok, Sem.run_pure]
set_option maxRecDepth 100000 in
set_option maxHeartbeats 8000000 in
theorem walkMerkleProofsAreAccepted (A : Option Addr) (n c : Nat) (l : List Nat) (i m ch : Int) (other : Nat) (w : World) (hnc : n ≤ c) (hcm : c ≤ maxLen) (hr : RdD w A n l) (hl : ∀ x ∈ l, x < 2 ^ 128) (hi : (Lit.int .u8 i).wf = true) (hm : (Lit.int .u8 m).wf = true) (hch : (Lit.int .u64 ch).wf = true) (hot : other < 2 ^ 128) (hg : GCon w) (hrc : RCon w) (hgb : GBru w) :
    Calls Tryd.prog 5 #[.slice A n c, .int .u8 i, .int .u8 m, .int .u64 ch, dgV other] w fun e w' => e = .returned (.bool true) ∧ Below w.heap.size w w' := by
  have hi' : 0 ≤ i ∧ i < 256 := by simp [Lit.wf, IntKind.min, IntKind.max, IntKind.bits, IntKind.signed] at hi; omega
  have hm' : 0 ≤ m ∧ m < 256 := by simp [Lit.wf, IntKind.min, IntKind.max, IntKind.bits, IntKind.signed] at hm; omega
  have hch' : 0 ≤ ch ∧ ch < 18446744073709551616 := by simp [Lit.wf, IntKind.min, IntKind.max, IntKind.bits, IntKind.signed] at hch; omega
  obtain ⟨i, rfl⟩ := Int.eq_ofNat_of_zero_le hi'.1
  obtain ⟨m, rfl⟩ := Int.eq_ofNat_of_zero_le hm'.1
  obtain ⟨ch, rfl⟩ := Int.eq_ofNat_of_zero_le hch'.1
  clear hi hm hch
  have HS := Lib.hid (fun (W : World) (h : Below w.heap.size w W) => sanity_any nds W (hg.below h) (hrc.below h) (hgb.below h))
  obtain ⟨wa, hwa, hb0, b9⟩ : ∃ wa : World, wa = w.alloc (.cells (dgC other) 31) ∧ Below w.heap.size w wa ∧ Blk wa w.heap.size 31 (dgC other) := ⟨_, rfl, (Below.refl w.heap.size w).alloc (Nat.le_refl _) _, Blk.new _ _ _⟩
  have HWA := Lib.hid hwa
  clear hwa
  by_cases hn : n = 0 ∨ 40 < n
  · by_cases h0 : n = 0
    · have d1 : ((n : Int) == 0) = true := by simp [h0]
      clear hr hl hg hrc hgb h0 hn b9
      go_enter Tryd.func5, Tryd.ntmps5
      go_upto_region 1 with fail
      change Code.wp _ _ _ _ (w.alloc (.cells (dgC other) 31))
      rw [← HWA.out]
      go_wp2_with fail
      refine (HS.out _ hb0).mono ?_
      rintro e w1 ⟨rfl, hb1⟩
      go_wp2_with fail
      go_ret
      exact ⟨rfl, bstep hb0 hb1⟩
    · have d1 : ((n : Int) == 0) = false := by simp [h0]
      have d2 : decide ((n : Int) > 40) = true := by simp; omega
      clear hr hl hg hrc hgb h0 hn b9
      go_enter Tryd.func5, Tryd.ntmps5
      go_upto_region 1 with fail
      change Code.wp _ _ _ _ (w.alloc (.cells (dgC other) 31))
      rw [← HWA.out]
      go_wp2_with fail
      refine (HS.out _ hb0).mono ?_
      rintro e w1 ⟨rfl, hb1⟩
      go_wp2_with fail
      go_ret
      exact ⟨rfl, bstep hb0 hb1⟩
  · have d1 : ((n : Int) == 0) = false := by simp; omega
    have d2 : decide ((n : Int) > 40) = false := by simp; omega
    have hn1 : 1 ≤ n ∧ n ≤ 40 := by omega
    have dn0 : (n : Int) ≠ 0 := by omega
    have dn1 : (n : Int) + 1 ≠ 0 := by omega
    clear hn
    have hln := hr.len
    obtain ⟨p, hp, hpn⟩ : ∃ p : Nat, (i : Int) % (n : Int) = (p : Int) ∧ p < n := ⟨i % n, by push_cast; rfl, Nat.mod_lt _ (by omega)⟩
    obtain ⟨q, hq, hqn⟩ : ∃ q : Nat, (m : Int) % ((n : Int) + 1) = (q : Int) ∧ q ≤ n := ⟨m % (n + 1), by push_cast; rfl, by have := Nat.mod_lt m (show 0 < n + 1 by omega); omega⟩
    have hqc : 0 ≤ (q : Int) ∧ (q : Int) ≤ (c : Int) := by omega
    obtain ⟨nd, em, N⟩ : ∃ nd em, Nds nd em := ⟨_, _, nds⟩
    have HLN := Lib.hid hln
    have HR := Lib.hid (fun (W : World) (h : Below w.heap.size w W) => hr.below h)
    have HT := Lib.hid (fun (W : World) (h : Below w.heap.size w W) => root_any N n l A n c W (Nat.le_refl _) (by omega) (hr.below h) hnc hcm (hg.below h))
    have HTO := Lib.hid (fun (W : World) (h : Below w.heap.size w W) => root_any N q (l.take q) A q c W (Nat.le_refl _) (by omega) ((hr.below h).take hqn) (by omega) hcm (hg.below h))
    have HI := Lib.hid (fun (W : World) (h : Below w.heap.size w W) => inclusion_all N l (p : Int) A n c W (by omega) (hr.below h) hnc hcm (hg.below h))
    have HC := Lib.hid (fun (W : World) (h : Below w.heap.size w W) => consistency_all N l (q : Int) A n c W (by omega) (hr.below h) hnc hcm (hg.below h))
    have hpl : p < l.length := by omega
    have a1 : inclR nd em l (p : Int) = (Merk.incl nd em l p, 0) ∧ checkI nd (l[p]'hpl) (p : Int) (n : Int) (Merk.incl nd em l p) (Merk.root nd em l) = true := by
      have h := acc_incl nd em l p hpl (by omega)
      subst hln
      exact h
    rw [a1.1] at HI
    have a2 := acc_csyR nd em l q (by omega)
    rw [a2] at HC
    have n1 : (Merk.incl nd em l p).length ≤ 1000 := by have := Merk.incl_len nd em _ l p (Nat.le_refl _); omega
    have n2 : (oldP nd em l q).length ≤ 1000 := by
      unfold oldP
      split
      · simp
      · have := Merk.csy_len nd em _ l q true (Nat.le_refl _) (by omega) (by omega)
        omega
    have l2 : ∀ x ∈ oldP nd em l q, x < 2 ^ 128 := by
      unfold oldP
      split
      · intro x hx; simp at hx
      · exact csy_ltL N _ _ _ _ (Nat.le_refl _) hl
    have lrt := root_lt N _ l (Nat.le_refl _) hl
    have lold := root_lt N _ (l.take q) (Nat.le_refl _) (fun x hx => hl x (List.mem_of_mem_take hx))
    have HKI := Lib.hid (fun (B : Option Addr) (cc : Nat) (W : World) (h : RdD W B (Merk.incl nd em l p).length (Merk.incl nd em l p)) (h1 : (Merk.incl nd em l p).length ≤ cc) (h2 : cc ≤ maxLen) (hb : Below w.heap.size w W) => by
      have hx := checkI_any N (l[p]'hpl) (Merk.root nd em l) (p : Int) (n : Int) (Merk.incl nd em l p) B (Merk.incl nd em l p).length cc W (hl _ (List.getElem_mem hpl)) lrt (by omega) h h1 h2 (hg.below hb)
      rw [a1.2] at hx
      exact hx)
    have HKC := Lib.hid (fun (x y : Nat) (hx : x < 2 ^ 128) (hy : y < 2 ^ 128) (B : Option Addr) (cc : Nat) (W : World) (h : RdD W B (oldP nd em l q).length (oldP nd em l q)) (h1 : (oldP nd em l q).length ≤ cc) (h2 : cc ≤ maxLen) (hb : Below w.heap.size w W) =>
      checkC_any N x y (q : Int) (n : Int) (oldP nd em l q) B (oldP nd em l q).length cc W hx hy (by omega) h l2 h1 h2 (hg.below hb))
    clear a2
    have hnl : 1 ≤ l.length := by omega
    have am := acc_many nd em l ch (by omega) hnl
    have nM := many_len nd em _ l 0 (chosenL ch l.length) (Nat.le_refl _) hnl
    have lM := many_ltL N _ l 0 (chosenL ch l.length) (Nat.le_refl _) hl
    have lF : ∀ x ∈ fnd l 0 (chosenL ch l.length), x < 2 ^ 128 := by
      intro x hx
      unfold fnd at hx
      obtain ⟨j, -, rfl⟩ := List.mem_map.1 hx
      rw [List.getD_eq_getElem?_getD]
      cases hj : l[j - 0]? with
      | none => simp
      | some y => simpa using hl y (List.mem_of_getElem? hj)
    rw [hln] at am nM lM lF
    have HPS : Hid (∃ ps, (chosenL ch n).map (fun (p : Nat) => (p : Int)) = ps) := Lib.hid ⟨_, rfl⟩
    obtain ⟨PS, hPS⟩ := HPS.out
    clear HPS
    rw [hPS] at am
    have HPS := Lib.hid hPS
    have HPN : Hid (PS.length ≤ n) := Lib.hid (by rw [← hPS, List.length_map]; exact chosen_len ch n)
    clear hPS
    obtain ⟨FL, hFL⟩ : ∃ x, fnd l 0 (chosenL ch n) = x := ⟨_, rfl⟩
    obtain ⟨MP, hMP⟩ : ∃ x, Merk.many nd em l 0 (chosenL ch n) = x := ⟨_, rfl⟩
    rw [hFL] at am lF
    rw [hMP] at am nM lM
    have HFL := Lib.hid hFL
    have HFN : Hid (FL.length ≤ n) := Lib.hid (by rw [← hFL]; unfold fnd; rw [List.length_map]; exact chosen_len ch n)
    clear hFL hMP
    have HM := Lib.hid (fun (B : Option Addr) (np cc : Nat) (hnp : np ≤ 40) (hpl : PS.length = np) (W : World) (h : Rd W B np (iv PS)) (h1 : np ≤ cc) (h2 : cc ≤ maxLen) (hb : Below w.heap.size w W) => by
      have hx := many_all N l PS A n c B np cc W (by omega) (hr.below hb) hnc hcm (by omega) hpl h h1 h2 (hg.below hb)
      rw [am.1] at hx
      exact hx)
    have HKM := Lib.hid (fun (B : Option Addr) (np cc : Nat) (hnp : np ≤ 40) (hpl : PS.length = np) (Bf : Option Addr) (nf cf : Nat) (hnf : nf ≤ 40) (Bm : Option Addr) (cm : Nat) (W : World) (h : Rd W B np (iv PS)) (h1 : np ≤ cc) (h2 : cc ≤ maxLen)
      (hf : RdD W Bf nf FL) (h3 : nf ≤ cf) (h4 : cf ≤ maxLen) (hm : RdD W Bm MP.length MP) (h5 : MP.length ≤ cm) (h6 : cm ≤ maxLen) (hb : Below w.heap.size w W) => by
      have hx := checkM_any N (n : Int) PS (Merk.root nd em l) MP FL Bm MP.length cm Bf nf cf B np cc W lrt (by omega) hm lM h5 h6 (by omega) hf lF h3 h4 (by omega) hpl h h1 h2 (hg.below hb)
      rw [am.2] at hx
      exact hx)
    clear am nM lM lF
    have HC1 := Lib.hid (fun (x : Nat) (hx : q = 0 ∨ q = n ∨ x = Merk.root nd em (l.take q) ∨ ∀ j, q ≠ 2 ^ j) => (by rw [← hln]; exact checkC_old nd em l q (by omega) (by omega) hnl x (by rw [hln]; exact hx) : checkC nd em (q : Int) (n : Int) x (Merk.root nd em l) (oldP nd em l q) = decide (x = Merk.root nd em (l.take q))))
    have HC2 := Lib.hid (fun (x : Nat) (hx : 1 ≤ q) => (by rw [← hln]; exact checkC_new nd em l q (by omega) (by omega) hx x : checkC nd em (q : Int) (n : Int) (Merk.root nd em (l.take q)) x (oldP nd em l q) = decide (x = Merk.root nd em l)))
    obtain ⟨LP, hLP⟩ : ∃ x, l[p]'hpl = x := ⟨_, rfl⟩
    have HLP : Hid (∀ W, Below w.heap.size w W → ∃ ad, A = some ad ∧ ∀ j u, (bv (dg LP))[j]? = some u → W.cell? ((ad.add (p * 16)).add j) = some u) := Lib.hid (fun W h => by rw [← hLP]; exact (hr.below h).elem hpl)
    rw [hLP] at HKI
    clear hLP a1 hr hg hnl
    have Hpl := Lib.hid hpl
    clear hpl
    go_enter Tryd.func5, Tryd.ntmps5
    go_upto_region 1 with fail
    change Code.wp _ _ _ _ (w.alloc (.cells (dgC other) 31))
    rw [← HWA.out]
    go_upto_region 6 with fail
    simp only [hp, hq]
    go_wp2_with fail
    refine (HT.out _ hb0).mono ?_
    unfold DgIs
    rintro e w1 ⟨rfl, hb1⟩
    replace hb0 := bstep hb0 hb1
    replace b9 := b9.below hb1
    clear hb1
    generalize hRT : Merk.root nd em l = RT at *
    generalize hOLD : Merk.root nd em (l.take q) = OLD at *
    generalize hIN : Merk.incl nd em l p = IN at *
    generalize hCP : oldP nd em l q = CP at *
    go_wp2_with ((with_reducible show wpList _ _ _ (⟨some 14, _, _, _, _, _⟩ :: _) _ _); refine wpList_newDg (n := RT) rfl rfl rfl rfl (fun _ => rfl) (fun _ => rfl) ?_; intro w2 g14 hg14 b14 hb2; replace hb0 := bstep hb0 hb2; replace b9 := b9.below hb2; clear hb2 hg14)
    refine (HTO.out _ hb0).mono ?_
    unfold DgIs
    rintro e w3 ⟨rfl, hb3⟩
    replace hb0 := bstep hb0 hb3
    replace b9 := b9.below hb3
    replace b14 := b14.below hb3
    clear hb3
    go_wp2_with ((with_reducible show wpList _ _ _ (⟨some 15, _, _, _, _, _⟩ :: _) _ _); refine wpList_newDg (n := OLD) rfl rfl rfl rfl (fun _ => rfl) (fun _ => rfl) ?_; intro w4 g15 hg15 b15 hb4; replace hb0 := bstep hb0 hb4; replace b9 := b9.below hb4; replace b14 := b14.below hb4; clear hb4 hg15)
    refine (HI.out _ hb0).mono ?_
    unfold ErIs
    rintro e w5 ⟨v5, rfl, own5, hb5⟩
    obtain ⟨A1, c1, rfl, h11, h12, r1⟩ := own5.form
    replace hb0 := bstep hb0 hb5
    replace b9 := b9.below hb5
    replace b14 := b14.below hb5
    replace b15 := b15.below hb5
    clear hb5 own5
    go_wp2_with fail
    refine (HC.out _ hb0).mono ?_
    unfold ErIs
    rintro e w6 ⟨v6, rfl, own6, hb6⟩
    obtain ⟨A2, c2, rfl, h21, h22, r2⟩ := own6.form
    replace hb0 := bstep hb0 hb6
    replace b9 := b9.below hb6
    replace b14 := b14.below hb6
    replace b15 := b15.below hb6
    replace r1 := r1.below hb6
    clear hb6 own6
    obtain ⟨wK, hwK⟩ : ∃ W, w6 = W := ⟨_, rfl⟩
    rw [hwK] at hb0 b9 b14 b15 r1 r2 ⊢
    clear hwK
    have Hb9 := Lib.hid (fun W (h : Below wK.heap.size wK W) => b9.below h)
    have Hb14 := Lib.hid (fun W (h : Below wK.heap.size wK W) => b14.below h)
    have Hb15 := Lib.hid (fun W (h : Below wK.heap.size wK W) => b15.below h)
    have Hr1 := Lib.hid (fun W (h : Below wK.heap.size wK W) => r1.below h)
    have Hr2 := Lib.hid (fun W (h : Below wK.heap.size wK W) => r2.below h)
    have HBX := Lib.hid (fun W (h : Below wK.heap.size wK W) => bstep hb0 h)
    clear hb0 b9 b14 b15 r1 r2
    go_wp2_with fail
    go_loopw [20, 21, 22] (fun v20 v21 v22 wr => ∃ k : Nat, v22 = .int .i64 k ∧ k ≤ n ∧ Own wr wK.heap.size 3 v20 (iv ((chosenL ch k).map fun (x : Nat) => (x : Int))) ∧ OwnDs wr wK.heap.size v21 (fnd l 0 (chosenL ch k)) ∧ Below wK.heap.size wK wr) (fun _ _ v22 _ => n - (intOf v22).toNat)
    case atStart => exact ⟨0, rfl, Nat.zero_le _, Own.nil _ _ _, OwnDs.nil _ _, Below.refl _ _⟩
    case round =>
      obtain ⟨k, rfl, hk, o20, o21, hbl⟩ := hrel
      by_cases hkn : k < n
      · have dj : decide ((k : Int) < n) = true := by rw [decide_eq_true_eq]; omega
        have hbit : (bits .and .u64 ((ch : Int) / 2 ^ k) 1 == 1) = (ch / 2 ^ k % 2 == 1) := by
          have e : ((ch : Int) / 2 ^ k) = ((ch / 2 ^ k : Nat) : Int) := by push_cast; rfl
          have h := u64_and_nat (ch / 2 ^ k) 1 (Nat.lt_of_le_of_lt (Nat.div_le_self _ _) (by omega)) (by omega)
          rw [Nat.and_one_is_mod] at h
          rw [e]
          have e1 : (1 : Int) = ((1 : Nat) : Int) := rfl
          rw [e1, h]
          rw [Bool.eq_iff_iff]
          simp only [beq_iff_eq]
          omega
        cases hb : (ch / 2 ^ k % 2 == 1) with
        | false =>
          rw [hb] at hbit
          have hcs : chosenL ch (k + 1) = chosenL ch k := by rw [chosen_succ, hb]; simp
          go_wp2_with fail
          exact ⟨⟨k + 1, by go_num, by omega, by rw [hcs]; exact o20, by rw [hcs]; exact o21, hbl⟩, by simp [intOf]; omega⟩
        | true =>
          rw [hb] at hbit
          have hcs : chosenL ch (k + 1) = chosenL ch k ++ [k] := by rw [chosen_succ, hb]; simp
          have hcl := chosen_len ch k
          have hix : 0 ≤ (k : Int) ∧ (k : Int) < (n : Int) := by omega
          obtain ⟨ad, hA, hce⟩ := (HR.out _ (HBX.out _ hbl)).elem (i := k) (by rw [HLN.out]; exact hkn)
          have HCE : Hid (∀ W, Below wK.heap.size wK W → ∀ j u, (bv (dg (l[k]'(by rw [HLN.out]; exact hkn))))[j]? = some u → W.cell? ((ad.add (k * 16)).add j) = some u) := Lib.hid (fun W h => by
            obtain ⟨ad2, hA2, hce2⟩ := (HR.out _ (HBX.out _ h)).elem (i := k) (by rw [HLN.out]; exact hkn)
            rw [hA] at hA2
            injection hA2 with hA2
            subst hA2
            exact hce2)
          clear hce
          have hz := hbl.size
          have HX : Hid (fnd l 0 (chosenL ch (k + 1)) = fnd l 0 (chosenL ch k) ++ [l[k]'(by rw [HLN.out]; exact hkn)]) := Lib.hid (by
            rw [hcs]; unfold fnd; rw [List.map_append]
            simp [List.getD_eq_getElem?_getD, List.getElem?_eq_getElem (show k < l.length by rw [HLN.out]; exact hkn)])
          generalize l[k]'(by rw [HLN.out]; exact hkn) = x at *
          clear hb
          go_upto_region 17 with ((with_reducible show wpList _ _ _ (⟨some 75, _, _, _, _, _⟩ :: _) _ _); refine wpList_app rfl rfl elemInts rfl (o20.alloc _) rfl (Rd.new1 _ _ _) (one1 rfl) (by rw [length_iv, List.length_map]; omega) (by simp; omega) ?_; intro v' w' o20' hg' hb' _)
          have hg2 : (wr.alloc (.cells #[.int .i64 (k : Int)] 3)).grownBy w' u20.ownBlock := hg'
          have o21' : OwnDs w' wK.heap.size u21 (fnd l 0 (chosenL ch k)) := World.ownsRow.kept (World.ownsRow.alloc o21 _) hg2 (own_two o21 o20 (by decide))
          have hbl' : Below wK.heap.size wK w' := (hbl.alloc hz _).trans hb'
          have hcx := HCE.out _ hbl'
          clear hb' hg' hg2 o20 o21 hbl
          subst hA
          have hz' := hbl'.size
          have hlf : (fnd l 0 (chosenL ch k)).length ≤ 40 := by unfold fnd; rw [List.length_map]; omega
          go_wp2_with (first
            | ((with_reducible show wpList _ _ _ (⟨some 80, _, _, _, _, _⟩ :: _) _ _); refine wpList_loadKW (us := bv (dg x)) (by rfl) rfl rfl aggDg (by rw [sizeDg, bv_dg_len]) hcx ?_)
            | ((with_reducible show wpList _ _ _ (⟨some 81, _, _, _, _, _⟩ :: _) _ _); refine wpList_lit1DW (p := x) (by rfl) rfl rfl ?_; intro wx gx hgx rx hbx; have o20x := o20'.below hbx; have o21x := o21'.below hbx; have hblx := bstep hbl' hbx; clear o20' o21' hbl' hcx)
            | ((with_reducible show wpList _ _ _ (⟨some 82, _, _, _, _, _⟩ :: _) _ _); refine wpList_appK rfl rfl elemDg rfl o21x rfl (m := 1) rx.rd (one_dgsL _) (by omega) hblx.size ?_; intro v2 w2 o2 hg2 hb2))
          have o20y : Own w2 wK.heap.size 3 v' (iv (List.map (fun (x : Nat) => (x : Int)) (chosenL ch k)) ++ [Value.int IntKind.i64 k]) := World.ownsRow.kept o20x hg2 (own_two o20x o21x (by decide))
          refine ⟨⟨k + 1, by go_num, by omega, ?_, ?_, hblx.trans hb2⟩, by simp [intOf]; omega⟩
          · rw [hcs, List.map_append]; unfold iv at o20y ⊢; rw [List.map_append]; exact o20y
          · rw [HX.out]; exact OwnDs.app (a := fnd l 0 (chosenL ch k)) (b := [x]) o2
      · have dj : decide ((k : Int) < n) = false := by rw [decide_eq_false_iff_not]; omega
        obtain rfl : n = k := by omega
        rw [HPS.out] at o20
        rw [HFL.out] at o21
        obtain ⟨A3, np, c3, rfl, hnp, h31, h32, r3⟩ := o20.formN
        obtain ⟨A4, nf, c4, rfl, hnf, h41, h42, r4⟩ : ∃ A4 nf c4, u21 = .slice A4 nf c4 ∧ Hid (nf = FL.length) ∧ nf ≤ c4 ∧ c4 ≤ maxLen ∧ RdD wr A4 nf FL := by
          obtain ⟨A4, c4, e, h41, h42, r4⟩ := o21.form
          exact ⟨A4, _, c4, e, Lib.hid rfl, h41, h42, r4⟩
        have HNP : Hid (PS.length = np) := Lib.hid (by have := hnp.out; rw [length_iv] at this; omega)
        have hn40 : np ≤ 40 := by have := HNP.out; have := HPN.out; omega
        have hf40 : nf ≤ 40 := by have := hnf.out; have := HFN.out; omega
        clear o20 o21 hnp hnf
        go_wp2_with fail
        refine (HM.out A3 np c3 hn40 HNP.out wr r3 h31 h32 (HBX.out _ hbl)).mono ?_
        unfold ErIs
        rintro e w8 ⟨v8, rfl, own8, hb8⟩
        obtain ⟨A5, c5, rfl, h51, h52, r5⟩ := own8.form
        replace hbl := bstep hbl hb8
        replace r3 := r3.below hb8
        replace r4 := r4.below hb8
        clear hb8 own8
        have b14 := Hb14.out _ hbl
        have b15 := Hb15.out _ hbl
        obtain ⟨ad, hA, hce⟩ := HLP.out _ (HBX.out _ hbl)
        subst hA
        have hix : 0 ≤ (p : Int) ∧ (p : Int) < (n : Int) := by omega
        have HK1 := Lib.hid (fun W (h : Below wK.heap.size wK W) => HKI.out A1 c1 W (Hr1.out _ h) h11 h12 (HBX.out _ h))
        have HK2 : Hid (∀ W, Below wK.heap.size wK W → Calls Tryd.prog 26 #[.int .i64 q, .int .i64 n, dgV OLD, dgV RT, .slice A2 CP.length c2] W (BIs true W)) := Lib.hid (fun W h => by
          have hx := HKC.out OLD RT lold lrt A2 c2 W (Hr2.out _ h) h21 h22 (HBX.out _ h)
          rw [HC1.out OLD (.inr (.inr (.inl rfl))), decide_eq_true rfl] at hx
          exact hx)
        have HK3 := Lib.hid (fun W (h : Below w8.heap.size w8 W) => HKM.out A3 np c3 hn40 HNP.out A4 nf c4 hf40 A5 c5 W (r3.below h) h31 h32 (r4.below h) h41 h42 (r5.below h) h51 h52 (HBX.out _ (bstep hbl h)))
        clear r3 r4 r5
        have hS : Below w8.heap.size w8 w8.drew := (Below.refl _ _).drew
        go_upto_region 19 with fail
        refine wp_region_TB (S := Below (w8).heap.size (w8)) 40 (by kernel_rfl) ?_
        refine WpT.take (i := 0) rfl (by kernel_rfl) (fun _ _ _ h => h) (.inl ⟨by rfl, fun w hSw => by clear hSw; go_simp; (try go_bits); (try rw [if_pos (by omega)]); (try with_reducible rfl)⟩) (hS) ?_
        try simp only [nrm]
        refine WpT.take (i := 1) rfl (by kernel_rfl) (fun _ _ _ h => h) (.inl ⟨by rfl, fun w hSw => by clear hSw; go_simp; (try go_bits); (try rw [if_pos (by omega)]); (try with_reducible rfl)⟩) (hS) ?_
        try simp only [nrm]
        refine WpT.take (i := 2) rfl (by kernel_rfl) (fun _ _ _ h => h) (.inl ⟨by rfl, fun w hSw => by clear hSw; go_simp; (try go_bits); (try rw [if_pos (by omega)]); (try with_reducible rfl)⟩) (hS) ?_
        try simp only [nrm]
        refine WpT.take (i := 3) rfl (by kernel_rfl) (fun _ _ _ h => h) (.inl ⟨by rfl, fun w hSw => by clear hSw; go_simp; (try go_bits); (try rw [if_pos (by omega)]); (try with_reducible rfl)⟩) (hS) ?_
        try simp only [nrm]
        refine WpT.take (i := 4) rfl (by kernel_rfl) (fun _ _ _ h => h) (.inl ⟨by rfl, fun w hSw => by clear hSw; go_simp; (try go_bits); (try rw [if_pos (by omega)]); (try with_reducible rfl)⟩) (hS) ?_
        try simp only [nrm]
        refine WpT.take (i := 5) rfl (by kernel_rfl) (fun _ _ _ h => h) (.inl ⟨by rfl, fun w hSw => by clear hSw; go_simp; (try go_bits); (try rw [if_pos (by omega)]); (try with_reducible rfl)⟩) (hS) ?_
        try simp only [nrm]
        refine WpT.take (i := 6) rfl (by kernel_rfl) (fun _ _ _ h => h) (.inl ⟨by rfl, fun w hSw => by clear hSw; go_simp; (try go_bits); (try rw [if_pos (by omega)]); (try with_reducible rfl)⟩) (hS) ?_
        try simp only [nrm]
        refine WpT.take (i := 7) rfl (by kernel_rfl) (fun _ _ _ h => h) (.inl ⟨by rfl, fun w hSw => by clear hSw; go_simp; (try go_bits); (try rw [if_pos (by omega)]); (try with_reducible rfl)⟩) (hS) ?_
        try simp only [nrm]
        refine WpT.take (i := 8) rfl (by kernel_rfl) (fun _ _ _ h => h) (.inl ⟨by rfl, fun w hSw => by clear hSw; go_simp; (try go_bits); (try rw [if_pos (by omega)]); (try with_reducible rfl)⟩) (hS) ?_
        try simp only [nrm]
        refine WpT.take (i := 9) rfl (by kernel_rfl) (fun _ _ _ h => h) (.inl ⟨by rfl, fun w hSw => by clear hSw; go_simp; (try go_bits); (try rw [if_pos (by omega)]); (try with_reducible rfl)⟩) (hS) ?_
        try simp only [nrm]
        refine WpT.take (i := 10) rfl (by kernel_rfl) (fun _ _ _ h => h) (.inl ⟨by rfl, fun w hSw => by clear hSw; go_simp; (try go_bits); (try rw [if_pos (by omega)]); (try with_reducible rfl)⟩) (hS) ?_
        try simp only [nrm]
        refine WpT.take (i := 11) rfl (by kernel_rfl) (fun _ _ _ h => h) (.inl ⟨by rfl, fun w hSw => by clear hSw; go_simp; (try go_bits); (try rw [if_pos (by omega)]); (try with_reducible rfl)⟩) (hS) ?_
        try simp only [nrm]
        refine WpT.take (i := 12) rfl (by kernel_rfl) (fun _ _ _ h => h) (.inl ⟨by rfl, fun w hSw => by clear hSw; go_simp; (try go_bits); (try rw [if_pos (by omega)]); (try with_reducible rfl)⟩) (hS) ?_
        try simp only [nrm]
        refine WpT.take (i := 13) rfl (by kernel_rfl) (fun _ _ _ h => h) (.inl ⟨by rfl, fun w hSw => by clear hSw; go_simp; (try go_bits); (try rw [if_pos (by omega)]); (try with_reducible rfl)⟩) (hS) ?_
        try simp only [nrm]
        refine WpT.take (i := 14) rfl (by kernel_rfl) (fun _ _ _ h => h) (yields_loadKW (us := bv (dg LP)) (by rfl) rfl rfl aggDg (by rw [sizeDg, bv_dg_len]) hce) (hS) ?_
        try simp only [nrm]
        refine WpT.take (i := 15) rfl (by kernel_rfl) (fun _ _ _ h => h) (.inl ⟨by rfl, fun w hSw => by clear hSw; go_simp; (try go_bits); (try rw [if_pos (by omega)]); (try with_reducible rfl)⟩) (hS) ?_
        try simp only [nrm]
        refine WpT.take (i := 16) rfl (by kernel_rfl) (fun _ _ _ h => h) (.inl ⟨by rfl, fun w hSw => by clear hSw; go_simp; (try go_bits); (try rw [if_pos (by omega)]); (try with_reducible rfl)⟩) (hS) ?_
        try simp only [nrm]
        refine WpT.take (i := 17) rfl (by kernel_rfl) (fun _ _ _ h => h) (.inl ⟨by rfl, fun w hSw => by clear hSw; go_simp; (try go_bits); (try rw [if_pos (by omega)]); (try with_reducible rfl)⟩) (hS) ?_
        try simp only [nrm]
        refine WpT.take (i := 18) rfl (by kernel_rfl) (fun _ _ _ h => h) (yields_blkW (by rfl) rfl rfl aggDg (by rw [sizeDg, dgC_size]) b14) (hS) ?_
        try simp only [nrm]
        refine WpT.one (i := 19) rfl (by kernel_rfl) (fun K hK => ?_)
        refine (if_pos (by rfl)).mpr ?_; go_simp; refine (HK1.out _ (bstep hbl hS)).mono ?_; unfold BIs; rintro e w9 ⟨rfl, hb9⟩; replace hS := bstep hS hb9
        refine hK _ _ (hS) ?_; clear hK K; try simp only [nrm]
        refine WpT.take (i := 20) rfl (by kernel_rfl) (fun _ _ _ h => h) (.inl ⟨by rfl, fun w hSw => by clear hSw; go_simp; (try go_bits); (try rw [if_pos (by omega)]); (try with_reducible rfl)⟩) (hS) ?_
        try simp only [nrm]
        refine WpT.take (i := 21) rfl (by kernel_rfl) (fun _ _ _ h => h) (.inl ⟨by rfl, fun w hSw => by clear hSw; go_simp; (try go_bits); (try rw [if_pos (by omega)]); (try with_reducible rfl)⟩) (hS) ?_
        try simp only [nrm]
        refine WpT.take (i := 22) rfl (by kernel_rfl) (fun _ _ _ h => h) (.inl ⟨by rfl, fun w hSw => by clear hSw; go_simp; (try go_bits); (try rw [if_pos (by omega)]); (try with_reducible rfl)⟩) (hS) ?_
        try simp only [nrm]
        refine WpT.take (i := 23) rfl (by kernel_rfl) (fun _ _ _ h => h) (.inl ⟨by rfl, fun w hSw => by clear hSw; go_simp; (try go_bits); (try rw [if_pos (by omega)]); (try with_reducible rfl)⟩) (hS) ?_
        try simp only [nrm]
        refine WpT.take (i := 24) rfl (by kernel_rfl) (fun _ _ _ h => h) (.inl ⟨by rfl, fun w hSw => by clear hSw; go_simp; (try go_bits); (try rw [if_pos (by omega)]); (try with_reducible rfl)⟩) (hS) ?_
        try simp only [nrm]
        refine WpT.take (i := 25) rfl (by kernel_rfl) (fun _ _ _ h => h) (yields_blkW (by rfl) rfl rfl aggDg (by rw [sizeDg, dgC_size]) b15) (hS) ?_
        try simp only [nrm]
        refine WpT.take (i := 26) rfl (by kernel_rfl) (fun _ _ _ h => h) (yields_blkW (by rfl) rfl rfl aggDg (by rw [sizeDg, dgC_size]) b14) (hS) ?_
        try simp only [nrm]
        refine WpT.take (i := 27) rfl (by kernel_rfl) (fun _ _ _ h => h) (.inl ⟨by rfl, fun w hSw => by clear hSw; go_simp; (try go_bits); (try rw [if_pos (by omega)]); (try with_reducible rfl)⟩) (hS) ?_
        try simp only [nrm]
        refine WpT.one (i := 28) rfl (by kernel_rfl) (fun K hK => ?_)
        refine (if_pos (by rfl)).mpr ?_; go_simp; refine (HK2.out _ (bstep hbl hS)).mono ?_; unfold BIs; rintro e w10 ⟨rfl, hb10⟩; replace hS := bstep hS hb10
        refine hK _ _ (hS) ?_; clear hK K; try simp only [nrm]
        refine WpT.take (i := 29) rfl (by kernel_rfl) (fun _ _ _ h => h) (.inl ⟨by rfl, fun w hSw => by clear hSw; go_simp; (try go_bits); (try rw [if_pos (by omega)]); (try with_reducible rfl)⟩) (hS) ?_
        try simp only [nrm]
        refine WpT.take (i := 30) rfl (by kernel_rfl) (fun _ _ _ h => h) (.inl ⟨by rfl, fun w hSw => by clear hSw; go_simp; (try go_bits); (try rw [if_pos (by omega)]); (try with_reducible rfl)⟩) (hS) ?_
        try simp only [nrm]
        refine WpT.take (i := 31) rfl (by kernel_rfl) (fun _ _ _ h => h) (.inl ⟨by rfl, fun w hSw => by clear hSw; go_simp; (try go_bits); (try rw [if_pos (by omega)]); (try with_reducible rfl)⟩) (hS) ?_
        try simp only [nrm]
        refine WpT.take (i := 32) rfl (by kernel_rfl) (fun _ _ _ h => h) (.inl ⟨by rfl, fun w hSw => by clear hSw; go_simp; (try go_bits); (try rw [if_pos (by omega)]); (try with_reducible rfl)⟩) (hS) ?_
        try simp only [nrm]
        refine WpT.take (i := 33) rfl (by kernel_rfl) (fun _ _ _ h => h) (.inl ⟨by rfl, fun w hSw => by clear hSw; go_simp; (try go_bits); (try rw [if_pos (by omega)]); (try with_reducible rfl)⟩) (hS) ?_
        try simp only [nrm]
        refine WpT.take (i := 34) rfl (by kernel_rfl) (fun _ _ _ h => h) (.inl ⟨by rfl, fun w hSw => by clear hSw; go_simp; (try go_bits); (try rw [if_pos (by omega)]); (try with_reducible rfl)⟩) (hS) ?_
        try simp only [nrm]
        refine WpT.take (i := 35) rfl (by kernel_rfl) (fun _ _ _ h => h) (.inl ⟨by rfl, fun w hSw => by clear hSw; go_simp; (try go_bits); (try rw [if_pos (by omega)]); (try with_reducible rfl)⟩) (hS) ?_
        try simp only [nrm]
        refine WpT.take (i := 36) rfl (by kernel_rfl) (fun _ _ _ h => h) (yields_blkW (by rfl) rfl rfl aggDg (by rw [sizeDg, dgC_size]) b14) (hS) ?_
        try simp only [nrm]
        refine WpT.one (i := 37) rfl (by kernel_rfl) (fun K hK => ?_)
        refine (if_pos (by rfl)).mpr ?_; go_simp; refine (HK3.out _ hS).mono ?_; unfold BIs; rintro e w11 ⟨rfl, hb11⟩; replace hS := bstep hS hb11
        refine hK _ _ (hS) ?_; clear hK K; try simp only [nrm]
        refine WpT.take (i := 38) rfl (by kernel_rfl) (fun _ _ _ h => h) (.inl ⟨by rfl, fun w hSw => by clear hSw; go_simp; (try go_bits); (try rw [if_pos (by omega)]); (try with_reducible rfl)⟩) (hS) ?_
        try simp only [nrm]
        refine WpT.take (i := 39) rfl (by kernel_rfl) (fun _ _ _ h => h) (.inl ⟨by rfl, fun w hSw => by clear hSw; go_simp; (try go_bits); (try rw [if_pos (by omega)]); (try with_reducible rfl)⟩) (hS) ?_
        try simp only [nrm]
        refine WpT.done (by kernel_rfl) ?_ _
        skip
        replace hbl := bstep hbl hS
        clear hS hb9 hb10 hb11 b14 b15 hce HK1 HK2 HK3
        go_wp2_with fail
        go_loopw [25] (fun v25 wr => ∃ v : Nat, v25 = .int .i64 v ∧ 1 ≤ v ∧ v ≤ 80 ∧ Hid (∃ j, v = 2 ^ j ∧ ∀ i, i < j → 2 ^ i < q) ∧ Below wK.heap.size wK wr) (fun v25 _ => q - (intOf v25).toNat)
        case atStart => exact ⟨1, rfl, by omega, by omega, Lib.hid ⟨0, rfl, fun i hi => absurd hi (Nat.not_lt_zero i)⟩, hbl⟩
        case round =>
          clear hbl
          obtain ⟨v, rfl, hv1, hv2, hvj, hbl⟩ := hrel
          by_cases hvq : v < q
          · have dv : decide ((v : Int) < q) = true := by rw [decide_eq_true_eq]; omega
            go_wp2_with fail
            refine ⟨⟨2 * v, by go_num, by omega, by omega, Lib.hid ?_, hbl⟩, by simp [intOf]; omega⟩
            obtain ⟨j, hj, hji⟩ := hvj.out
            refine ⟨j + 1, by rw [Nat.pow_succ]; omega, fun i hi => ?_⟩
            rcases Nat.lt_or_ge i j with h | h
            · exact hji i h
            · obtain rfl : i = j := by omega
              omega
          · have dv : decide ((v : Int) < q) = false := by rw [decide_eq_false_iff_not]; omega
            have HNJ : Hid (v ≠ q → ∀ j, q ≠ 2 ^ j) := Lib.hid (fun hne i hi => by
              obtain ⟨j, hj, hji⟩ := hvj.out
              rcases Nat.lt_or_ge i j with h | h
              · have := hji i h; omega
              · have := Nat.pow_le_pow_right (n := 2) (by omega) h
                omega)
            have HK4 : Hid (v ≠ q ∨ q = n → ∀ W, Below wK.heap.size wK W → Calls Tryd.prog 26 #[.int .i64 q, .int .i64 n, dgV other, dgV RT, .slice A2 CP.length c2] W (BIs (decide (other = OLD)) W)) := Lib.hid (fun hor W h => by
              have hx := HKC.out other RT hot lrt A2 c2 W (Hr2.out _ h) h21 h22 (HBX.out _ h)
              rw [HC1.out other (by rcases hor with h1 | h1; exact .inr (.inr (.inr (HNJ.out h1))); exact .inr (.inl h1))] at hx
              exact hx)
            have HK5 : Hid (1 ≤ q → ∀ W, Below wK.heap.size wK W → Calls Tryd.prog 26 #[.int .i64 q, .int .i64 n, dgV OLD, dgV other, .slice A2 CP.length c2] W (BIs (decide (other = RT)) W)) := Lib.hid (fun h1 W h => by
              have hx := HKC.out OLD other lold hot A2 c2 W (Hr2.out _ h) h21 h22 (HBX.out _ h)
              rw [HC2.out other h1] at hx
              exact hx)
            obtain ⟨D1, HD1⟩ : ∃ D1, Hid (D1 = decide (other = OLD)) := ⟨_, Lib.hid rfl⟩
            obtain ⟨D2, HD2⟩ : ∃ D2, Hid (D2 = decide (other = RT)) := ⟨_, Lib.hid rfl⟩
            rw [← HD1.out] at HK4
            rw [← HD2.out] at HK5
            clear hvj HNJ
            have b9 := Hb9.out _ hbl
            have b14 := Hb14.out _ hbl
            have b15 := Hb15.out _ hbl
            go_upto_region 24 with fail
            have hS : Below wr.heap.size wr wr.drew := (Below.refl _ _).drew
            go_cut [153] (fun v153 wx => v153 = .bool false ∧ Below wr.heap.size wr wx)
            case first =>
              by_cases hc1 : v = q
              · have d3 : ((v : Int) != (q : Int)) = false := by simp [hc1]
                by_cases hc2 : q = n
                · have d4 : ((q : Int) == (n : Int)) = true := by simp [hc2]
                  have HK6 := Lib.hid (HK4.out (.inr hc2))
                  clear hc1 hc2
                  refine wp_region_TB (S := Below (wr).heap.size (wr)) 20 (by kernel_rfl) ?_
                  refine WpT.take (i := 0) rfl (by kernel_rfl) (fun _ _ _ h => h) (.inl ⟨by rfl, fun w hSw => by clear hSw; go_simp; (try go_bits); (try rw [if_pos (by omega)]); (try with_reducible rfl)⟩) (hS) ?_
                  try simp only [nrm]
                  refine WpT.take (i := 1) rfl (by kernel_rfl) (fun _ _ _ h => h) (.inl ⟨by rfl, fun w hSw => by clear hSw; go_simp; (try go_bits); (try rw [if_pos (by omega)]); (try with_reducible rfl)⟩) (hS) ?_
                  try simp only [nrm]
                  refine WpT.take (i := 2) rfl (by kernel_rfl) (fun _ _ _ h => h) (.inl ⟨by rfl, fun w hSw => by clear hSw; go_simp; (try go_bits); (try rw [if_pos (by omega)]); (try with_reducible rfl)⟩) (hS) ?_
                  try simp only [nrm]
                  refine WpT.take (i := 3) rfl (by kernel_rfl) (fun _ _ _ h => h) (.inl ⟨by rfl, fun w hSw => by clear hSw; go_simp; (try go_bits); (try rw [if_pos (by omega)]); (try with_reducible rfl)⟩) (hS) ?_
                  try simp only [nrm]
                  refine WpT.take (i := 4) rfl (by kernel_rfl) (fun _ _ _ h => h) (.inl ⟨by rfl, fun w hSw => by clear hSw; go_simp; (try go_bits); (try rw [if_pos (by omega)]); (try with_reducible rfl)⟩) (hS) ?_
                  try simp only [nrm]
                  refine WpT.take (i := 5) rfl (by kernel_rfl) (fun _ _ _ h => h) (.inl ⟨by rfl, fun w hSw => by clear hSw; go_simp; (try go_bits); (try rw [if_pos (by omega)]); (try with_reducible rfl)⟩) (hS) ?_
                  try simp only [nrm]
                  refine WpT.take (i := 6) rfl (by kernel_rfl) (fun _ _ _ h => h) (.inl ⟨by rfl, fun w hSw => by clear hSw; go_simp; (try go_bits); (try rw [if_pos (by omega)]); (try with_reducible rfl)⟩) (hS) ?_
                  try simp only [nrm]
                  refine WpT.take (i := 7) rfl (by kernel_rfl) (fun _ _ _ h => h) (.inl ⟨by rfl, fun w hSw => by clear hSw; go_simp; (try go_bits); (try rw [if_pos (by omega)]); (try with_reducible rfl)⟩) (hS) ?_
                  try simp only [nrm]
                  refine WpT.take (i := 8) rfl (by kernel_rfl) (fun _ _ _ h => h) (.inl ⟨by rfl, fun w hSw => by clear hSw; go_simp; (try go_bits); (try rw [if_pos (by omega)]); (try with_reducible rfl)⟩) (hS) ?_
                  try simp only [nrm]
                  refine WpT.take (i := 9) rfl (by kernel_rfl) (fun _ _ _ h => h) (.inl ⟨by rfl, fun w hSw => by clear hSw; go_simp; (try go_bits); (try rw [if_pos (by omega)]); (try with_reducible rfl)⟩) (hS) ?_
                  try simp only [nrm]
                  refine WpT.take (i := 10) rfl (by kernel_rfl) (fun _ _ _ h => h) (.inl ⟨by rfl, fun w hSw => by clear hSw; go_simp; (try go_bits); (try rw [if_pos (by omega)]); (try with_reducible rfl)⟩) (hS) ?_
                  try simp only [nrm]
                  refine WpT.take (i := 11) rfl (by kernel_rfl) (fun _ _ _ h => h) (yields_blkW (by rfl) rfl rfl aggDg (by rw [sizeDg, dgC_size]) b9) (hS) ?_
                  try simp only [nrm]
                  refine WpT.take (i := 12) rfl (by kernel_rfl) (fun _ _ _ h => h) (yields_blkW (by rfl) rfl rfl aggDg (by rw [sizeDg, dgC_size]) b14) (hS) ?_
                  try simp only [nrm]
                  refine WpT.take (i := 13) rfl (by kernel_rfl) (fun _ _ _ h => h) (.inl ⟨by rfl, fun w hSw => by clear hSw; go_simp; (try go_bits); (try rw [if_pos (by omega)]); (try with_reducible rfl)⟩) (hS) ?_
                  try simp only [nrm]
                  refine WpT.take (i := 15) rfl (by kernel_rfl) (fun _ _ _ h => h) (yields_blkW (by rfl) rfl rfl aggDg (by rw [sizeDg, dgC_size]) b9) (hS) ?_
                  try simp only [nrm]
                  refine WpT.take (i := 16) rfl (by kernel_rfl) (fun _ _ _ h => h) (yields_blkW (by rfl) rfl rfl aggDg (by rw [sizeDg, dgC_size]) b15) (hS) ?_
                  try simp only [nrm]
                  refine WpT.take (i := 17) rfl (by kernel_rfl) (fun _ _ _ h => h) (yields_eqDgW (b := D1) (p := other) (q := OLD) (by rfl) rfl (by rfl) (by rfl) hot lold HD1.out (fun W => by rfl)) (hS) ?_
                  try simp only [nrm]
                  refine WpT.one (i := 14) rfl (by kernel_rfl) (fun K hK => ?_)
                  refine (if_pos (by rfl)).mpr ?_; go_simp; refine (HK6.out _ (bstep hbl hS)).mono ?_; unfold BIs; rintro e w9 ⟨rfl, hb9⟩; replace hS := bstep hS hb9
                  refine hK _ _ (hS) ?_; clear hK K; try simp only [nrm]
                  refine WpT.take (i := 18) rfl (by kernel_rfl) (fun _ _ _ h => h) (yields_neqB (b := D1) (by rfl) rfl (by rfl) (by rfl) (fun W => by rfl)) (hS) ?_
                  try simp only [nrm]
                  refine WpT.take (i := 19) rfl (by kernel_rfl) (fun _ _ _ h => h) (.inl ⟨by rfl, fun w hSw => by clear hSw; go_simp; (try go_bits); (try rw [if_pos (by omega)]); (try with_reducible rfl)⟩) (hS) ?_
                  try simp only [nrm]
                  refine WpT.done (by kernel_rfl) ?_ _
                  go_wp2_with fail; go_meet; exact ⟨rfl, hS⟩
                · have d4 : ((q : Int) == (n : Int)) = false := by simp; omega
                  clear hc1 hc2
                  refine wp_region_TB (S := Below (wr).heap.size (wr)) 20 (by kernel_rfl) ?_
                  refine WpT.take (i := 0) rfl (by kernel_rfl) (fun _ _ _ h => h) (.inl ⟨by rfl, fun w hSw => by clear hSw; go_simp; (try go_bits); (try rw [if_pos (by omega)]); (try with_reducible rfl)⟩) (hS) ?_
                  try simp only [nrm]
                  refine WpT.take (i := 1) rfl (by kernel_rfl) (fun _ _ _ h => h) (.inl ⟨by rfl, fun w hSw => by clear hSw; go_simp; (try go_bits); (try rw [if_pos (by omega)]); (try with_reducible rfl)⟩) (hS) ?_
                  try simp only [nrm]
                  refine WpT.take (i := 2) rfl (by kernel_rfl) (fun _ _ _ h => h) (.inl ⟨by rfl, fun w hSw => by clear hSw; go_simp; (try go_bits); (try rw [if_pos (by omega)]); (try with_reducible rfl)⟩) (hS) ?_
                  try simp only [nrm]
                  refine WpT.take (i := 3) rfl (by kernel_rfl) (fun _ _ _ h => h) (.inl ⟨by rfl, fun w hSw => by clear hSw; go_simp; (try go_bits); (try rw [if_pos (by omega)]); (try with_reducible rfl)⟩) (hS) ?_
                  try simp only [nrm]
                  refine WpT.take (i := 4) rfl (by kernel_rfl) (fun _ _ _ h => h) (.inl ⟨by rfl, fun w hSw => by clear hSw; go_simp; (try go_bits); (try rw [if_pos (by omega)]); (try with_reducible rfl)⟩) (hS) ?_
                  try simp only [nrm]
                  refine WpT.take (i := 5) rfl (by kernel_rfl) (fun _ _ _ h => h) (.inl ⟨by rfl, fun w hSw => by clear hSw; go_simp; (try go_bits); (try rw [if_pos (by omega)]); (try with_reducible rfl)⟩) (hS) ?_
                  try simp only [nrm]
                  refine WpT.take (i := 6) rfl (by kernel_rfl) (fun _ _ _ h => h) (.inl ⟨by rfl, fun w hSw => by clear hSw; go_simp; (try go_bits); (try rw [if_pos (by omega)]); (try with_reducible rfl)⟩) (hS) ?_
                  try simp only [nrm]
                  refine WpT.take (i := 7) rfl (by kernel_rfl) (fun _ _ _ h => h) (.inl ⟨by rfl, fun w hSw => by clear hSw; go_simp; (try go_bits); (try rw [if_pos (by omega)]); (try with_reducible rfl)⟩) (hS) ?_
                  try simp only [nrm]
                  refine WpT.take (i := 8) rfl (by kernel_rfl) (fun _ _ _ h => h) (.inl ⟨by rfl, fun w hSw => by clear hSw; go_simp; (try go_bits); (try rw [if_pos (by omega)]); (try with_reducible rfl)⟩) (hS) ?_
                  try simp only [nrm]
                  refine WpT.take (i := 9) rfl (by kernel_rfl) (fun _ _ _ h => h) (.inr ⟨by rfl, rfl⟩) (hS) ?_
                  try simp only [nrm]
                  refine WpT.take (i := 10) rfl (by kernel_rfl) (fun _ _ _ h => h) (.inr ⟨by rfl, rfl⟩) (hS) ?_
                  try simp only [nrm]
                  refine WpT.take (i := 11) rfl (by kernel_rfl) (fun _ _ _ h => h) (.inr ⟨by rfl, rfl⟩) (hS) ?_
                  try simp only [nrm]
                  refine WpT.take (i := 12) rfl (by kernel_rfl) (fun _ _ _ h => h) (.inr ⟨by rfl, rfl⟩) (hS) ?_
                  try simp only [nrm]
                  refine WpT.take (i := 13) rfl (by kernel_rfl) (fun _ _ _ h => h) (.inr ⟨by rfl, rfl⟩) (hS) ?_
                  try simp only [nrm]
                  refine WpT.take (i := 14) rfl (by kernel_rfl) (fun _ _ _ h => h) (.inr ⟨by rfl, rfl⟩) (hS) ?_
                  try simp only [nrm]
                  refine WpT.take (i := 15) rfl (by kernel_rfl) (fun _ _ _ h => h) (.inr ⟨by rfl, rfl⟩) (hS) ?_
                  try simp only [nrm]
                  refine WpT.take (i := 16) rfl (by kernel_rfl) (fun _ _ _ h => h) (.inr ⟨by rfl, rfl⟩) (hS) ?_
                  try simp only [nrm]
                  refine WpT.take (i := 17) rfl (by kernel_rfl) (fun _ _ _ h => h) (.inr ⟨by rfl, rfl⟩) (hS) ?_
                  try simp only [nrm]
                  refine WpT.take (i := 18) rfl (by kernel_rfl) (fun _ _ _ h => h) (.inr ⟨by rfl, rfl⟩) (hS) ?_
                  try simp only [nrm]
                  refine WpT.take (i := 19) rfl (by kernel_rfl) (fun _ _ _ h => h) (.inl ⟨by rfl, fun w hSw => by clear hSw; go_simp; (try go_bits); (try rw [if_pos (by omega)]); (try with_reducible rfl)⟩) (hS) ?_
                  try simp only [nrm]
                  refine WpT.done (by kernel_rfl) ?_ _
                  go_wp2_with fail; go_meet; exact ⟨rfl, hS⟩
              · have d3 : ((v : Int) != (q : Int)) = true := by simp; omega
                have HK6 := Lib.hid (HK4.out (.inl hc1))
                clear hc1
                refine wp_region_TB (S := Below (wr).heap.size (wr)) 20 (by kernel_rfl) ?_
                refine WpT.take (i := 0) rfl (by kernel_rfl) (fun _ _ _ h => h) (.inl ⟨by rfl, fun w hSw => by clear hSw; go_simp; (try go_bits); (try rw [if_pos (by omega)]); (try with_reducible rfl)⟩) (hS) ?_
                try simp only [nrm]
                refine WpT.take (i := 1) rfl (by kernel_rfl) (fun _ _ _ h => h) (.inl ⟨by rfl, fun w hSw => by clear hSw; go_simp; (try go_bits); (try rw [if_pos (by omega)]); (try with_reducible rfl)⟩) (hS) ?_
                try simp only [nrm]
                refine WpT.take (i := 2) rfl (by kernel_rfl) (fun _ _ _ h => h) (.inl ⟨by rfl, fun w hSw => by clear hSw; go_simp; (try go_bits); (try rw [if_pos (by omega)]); (try with_reducible rfl)⟩) (hS) ?_
                try simp only [nrm]
                refine WpT.take (i := 3) rfl (by kernel_rfl) (fun _ _ _ h => h) (.inl ⟨by rfl, fun w hSw => by clear hSw; go_simp; (try go_bits); (try rw [if_pos (by omega)]); (try with_reducible rfl)⟩) (hS) ?_
                try simp only [nrm]
                refine WpT.take (i := 4) rfl (by kernel_rfl) (fun _ _ _ h => h) (.inr ⟨by rfl, rfl⟩) (hS) ?_
                try simp only [nrm]
                refine WpT.take (i := 5) rfl (by kernel_rfl) (fun _ _ _ h => h) (.inr ⟨by rfl, rfl⟩) (hS) ?_
                try simp only [nrm]
                refine WpT.take (i := 6) rfl (by kernel_rfl) (fun _ _ _ h => h) (.inr ⟨by rfl, rfl⟩) (hS) ?_
                try simp only [nrm]
                refine WpT.take (i := 7) rfl (by kernel_rfl) (fun _ _ _ h => h) (.inl ⟨by rfl, fun w hSw => by clear hSw; go_simp; (try go_bits); (try rw [if_pos (by omega)]); (try with_reducible rfl)⟩) (hS) ?_
                try simp only [nrm]
                refine WpT.take (i := 8) rfl (by kernel_rfl) (fun _ _ _ h => h) (.inl ⟨by rfl, fun w hSw => by clear hSw; go_simp; (try go_bits); (try rw [if_pos (by omega)]); (try with_reducible rfl)⟩) (hS) ?_
                try simp only [nrm]
                refine WpT.take (i := 9) rfl (by kernel_rfl) (fun _ _ _ h => h) (.inl ⟨by rfl, fun w hSw => by clear hSw; go_simp; (try go_bits); (try rw [if_pos (by omega)]); (try with_reducible rfl)⟩) (hS) ?_
                try simp only [nrm]
                refine WpT.take (i := 10) rfl (by kernel_rfl) (fun _ _ _ h => h) (.inl ⟨by rfl, fun w hSw => by clear hSw; go_simp; (try go_bits); (try rw [if_pos (by omega)]); (try with_reducible rfl)⟩) (hS) ?_
                try simp only [nrm]
                refine WpT.take (i := 11) rfl (by kernel_rfl) (fun _ _ _ h => h) (yields_blkW (by rfl) rfl rfl aggDg (by rw [sizeDg, dgC_size]) b9) (hS) ?_
                try simp only [nrm]
                refine WpT.take (i := 12) rfl (by kernel_rfl) (fun _ _ _ h => h) (yields_blkW (by rfl) rfl rfl aggDg (by rw [sizeDg, dgC_size]) b14) (hS) ?_
                try simp only [nrm]
                refine WpT.take (i := 13) rfl (by kernel_rfl) (fun _ _ _ h => h) (.inl ⟨by rfl, fun w hSw => by clear hSw; go_simp; (try go_bits); (try rw [if_pos (by omega)]); (try with_reducible rfl)⟩) (hS) ?_
                try simp only [nrm]
                refine WpT.take (i := 15) rfl (by kernel_rfl) (fun _ _ _ h => h) (yields_blkW (by rfl) rfl rfl aggDg (by rw [sizeDg, dgC_size]) b9) (hS) ?_
                try simp only [nrm]
                refine WpT.take (i := 16) rfl (by kernel_rfl) (fun _ _ _ h => h) (yields_blkW (by rfl) rfl rfl aggDg (by rw [sizeDg, dgC_size]) b15) (hS) ?_
                try simp only [nrm]
                refine WpT.take (i := 17) rfl (by kernel_rfl) (fun _ _ _ h => h) (yields_eqDgW (b := D1) (p := other) (q := OLD) (by rfl) rfl (by rfl) (by rfl) hot lold HD1.out (fun W => by rfl)) (hS) ?_
                try simp only [nrm]
                refine WpT.one (i := 14) rfl (by kernel_rfl) (fun K hK => ?_)
                refine (if_pos (by rfl)).mpr ?_; go_simp; refine (HK6.out _ (bstep hbl hS)).mono ?_; unfold BIs; rintro e w9 ⟨rfl, hb9⟩; replace hS := bstep hS hb9
                refine hK _ _ (hS) ?_; clear hK K; try simp only [nrm]
                refine WpT.take (i := 18) rfl (by kernel_rfl) (fun _ _ _ h => h) (yields_neqB (b := D1) (by rfl) rfl (by rfl) (by rfl) (fun W => by rfl)) (hS) ?_
                try simp only [nrm]
                refine WpT.take (i := 19) rfl (by kernel_rfl) (fun _ _ _ h => h) (.inl ⟨by rfl, fun w hSw => by clear hSw; go_simp; (try go_bits); (try rw [if_pos (by omega)]); (try with_reducible rfl)⟩) (hS) ?_
                try simp only [nrm]
                refine WpT.done (by kernel_rfl) ?_ _
                go_wp2_with fail; go_meet; exact ⟨rfl, hS⟩
            case rest =>
              obtain ⟨rfl, hbx⟩ := hcut
              replace hbl := bstep hbl hbx
              replace b9 := b9.below hbx
              replace b14 := b14.below hbx
              replace b15 := b15.below hbx
              clear hS hbx HK4
              go_upto_region 26 with fail
              have hS : Below wc.heap.size wc wc.drew := (Below.refl _ _).drew
              by_cases hc1 : q = 0
              · have d3 : ((q : Int) == 0) = true := by simp [hc1]
                clear hc1
                refine wp_region_TB (S := Below (wc).heap.size (wc)) 17 (by kernel_rfl) ?_
                refine WpT.one (i := 0) rfl (by kernel_rfl) (fun K hK => ?_)
                go_simp; refine (HS.out _ (HBX.out _ (bstep hbl hS))).mono ?_; rintro e w11 ⟨rfl, hb11⟩; replace hS := bstep hS hb11
                refine hK _ _ (hS) ?_; clear hK K; try simp only [nrm]
                refine WpT.take (i := 1) rfl (by kernel_rfl) (fun _ _ _ h => h) (.inl ⟨by rfl, fun w hSw => by clear hSw; go_simp; (try go_bits); (try rw [if_pos (by omega)]); (try with_reducible rfl)⟩) (hS) ?_
                try simp only [nrm]
                refine WpT.take (i := 2) rfl (by kernel_rfl) (fun _ _ _ h => h) (.inl ⟨by rfl, fun w hSw => by clear hSw; go_simp; (try go_bits); (try rw [if_pos (by omega)]); (try with_reducible rfl)⟩) (hS) ?_
                try simp only [nrm]
                refine WpT.take (i := 3) rfl (by kernel_rfl) (fun _ _ _ h => h) (.inl ⟨by rfl, fun w hSw => by clear hSw; go_simp; (try go_bits); (try rw [if_pos (by omega)]); (try with_reducible rfl)⟩) (hS) ?_
                try simp only [nrm]
                refine WpT.take (i := 4) rfl (by kernel_rfl) (fun _ _ _ h => h) (.inl ⟨by rfl, fun w hSw => by clear hSw; go_simp; (try go_bits); (try rw [if_pos (by omega)]); (try with_reducible rfl)⟩) (hS) ?_
                try simp only [nrm]
                refine WpT.take (i := 5) rfl (by kernel_rfl) (fun _ _ _ h => h) (.inr ⟨by rfl, rfl⟩) (hS) ?_
                try simp only [nrm]
                refine WpT.take (i := 6) rfl (by kernel_rfl) (fun _ _ _ h => h) (.inr ⟨by rfl, rfl⟩) (hS) ?_
                try simp only [nrm]
                refine WpT.take (i := 7) rfl (by kernel_rfl) (fun _ _ _ h => h) (.inr ⟨by rfl, rfl⟩) (hS) ?_
                try simp only [nrm]
                refine WpT.take (i := 8) rfl (by kernel_rfl) (fun _ _ _ h => h) (.inr ⟨by rfl, rfl⟩) (hS) ?_
                try simp only [nrm]
                refine WpT.take (i := 9) rfl (by kernel_rfl) (fun _ _ _ h => h) (.inr ⟨by rfl, rfl⟩) (hS) ?_
                try simp only [nrm]
                refine WpT.take (i := 10) rfl (by kernel_rfl) (fun _ _ _ h => h) (.inr ⟨by rfl, rfl⟩) (hS) ?_
                try simp only [nrm]
                refine WpT.take (i := 11) rfl (by kernel_rfl) (fun _ _ _ h => h) (.inr ⟨by rfl, rfl⟩) (hS) ?_
                try simp only [nrm]
                refine WpT.take (i := 12) rfl (by kernel_rfl) (fun _ _ _ h => h) (.inr ⟨by rfl, rfl⟩) (hS) ?_
                try simp only [nrm]
                refine WpT.take (i := 13) rfl (by kernel_rfl) (fun _ _ _ h => h) (.inr ⟨by rfl, rfl⟩) (hS) ?_
                try simp only [nrm]
                refine WpT.take (i := 14) rfl (by kernel_rfl) (fun _ _ _ h => h) (.inr ⟨by rfl, rfl⟩) (hS) ?_
                try simp only [nrm]
                refine WpT.take (i := 15) rfl (by kernel_rfl) (fun _ _ _ h => h) (.inl ⟨by rfl, fun w hSw => by clear hSw; go_simp; (try go_bits); (try rw [if_pos (by omega)]); (try with_reducible rfl)⟩) (hS) ?_
                try simp only [nrm]
                refine WpT.take (i := 16) rfl (by kernel_rfl) (fun _ _ _ h => h) (.inl ⟨by rfl, fun w hSw => by clear hSw; go_simp; (try go_bits); (try rw [if_pos (by omega)]); (try with_reducible rfl)⟩) (hS) ?_
                try simp only [nrm]
                refine WpT.tail (i := 17) rfl (by kernel_rfl) (by kernel_rfl) (fun K hK => ?_)
                go_simp; (try go_bits)
                refine hK _ _ ?_; clear hK K; try simp only [nrm]
                refine WpT.done (by kernel_rfl) ?_ _
                go_wp2_with fail; go_ret; exact ⟨rfl, HBX.out _ (bstep hbl hS)⟩
              · have d3 : ((q : Int) == 0) = false := by simp; omega
                have HK6 := Lib.hid (HK5.out (by omega))
                clear hc1
                refine wp_region_TB (S := Below (wc).heap.size (wc)) 17 (by kernel_rfl) ?_
                refine WpT.one (i := 0) rfl (by kernel_rfl) (fun K hK => ?_)
                go_simp; refine (HS.out _ (HBX.out _ (bstep hbl hS))).mono ?_; rintro e w11 ⟨rfl, hb11⟩; replace hS := bstep hS hb11
                refine hK _ _ (hS) ?_; clear hK K; try simp only [nrm]
                refine WpT.take (i := 1) rfl (by kernel_rfl) (fun _ _ _ h => h) (.inl ⟨by rfl, fun w hSw => by clear hSw; go_simp; (try go_bits); (try rw [if_pos (by omega)]); (try with_reducible rfl)⟩) (hS) ?_
                try simp only [nrm]
                refine WpT.take (i := 2) rfl (by kernel_rfl) (fun _ _ _ h => h) (.inl ⟨by rfl, fun w hSw => by clear hSw; go_simp; (try go_bits); (try rw [if_pos (by omega)]); (try with_reducible rfl)⟩) (hS) ?_
                try simp only [nrm]
                refine WpT.take (i := 3) rfl (by kernel_rfl) (fun _ _ _ h => h) (.inl ⟨by rfl, fun w hSw => by clear hSw; go_simp; (try go_bits); (try rw [if_pos (by omega)]); (try with_reducible rfl)⟩) (hS) ?_
                try simp only [nrm]
                refine WpT.take (i := 4) rfl (by kernel_rfl) (fun _ _ _ h => h) (.inl ⟨by rfl, fun w hSw => by clear hSw; go_simp; (try go_bits); (try rw [if_pos (by omega)]); (try with_reducible rfl)⟩) (hS) ?_
                try simp only [nrm]
                refine WpT.take (i := 5) rfl (by kernel_rfl) (fun _ _ _ h => h) (.inl ⟨by rfl, fun w hSw => by clear hSw; go_simp; (try go_bits); (try rw [if_pos (by omega)]); (try with_reducible rfl)⟩) (hS) ?_
                try simp only [nrm]
                refine WpT.take (i := 6) rfl (by kernel_rfl) (fun _ _ _ h => h) (.inl ⟨by rfl, fun w hSw => by clear hSw; go_simp; (try go_bits); (try rw [if_pos (by omega)]); (try with_reducible rfl)⟩) (hS) ?_
                try simp only [nrm]
                refine WpT.take (i := 7) rfl (by kernel_rfl) (fun _ _ _ h => h) (yields_blkW (by rfl) rfl rfl aggDg (by rw [sizeDg, dgC_size]) b15) (hS) ?_
                try simp only [nrm]
                refine WpT.take (i := 8) rfl (by kernel_rfl) (fun _ _ _ h => h) (yields_blkW (by rfl) rfl rfl aggDg (by rw [sizeDg, dgC_size]) b9) (hS) ?_
                try simp only [nrm]
                refine WpT.take (i := 9) rfl (by kernel_rfl) (fun _ _ _ h => h) (.inl ⟨by rfl, fun w hSw => by clear hSw; go_simp; (try go_bits); (try rw [if_pos (by omega)]); (try with_reducible rfl)⟩) (hS) ?_
                try simp only [nrm]
                refine WpT.take (i := 11) rfl (by kernel_rfl) (fun _ _ _ h => h) (yields_blkW (by rfl) rfl rfl aggDg (by rw [sizeDg, dgC_size]) b9) (hS) ?_
                try simp only [nrm]
                refine WpT.take (i := 12) rfl (by kernel_rfl) (fun _ _ _ h => h) (yields_blkW (by rfl) rfl rfl aggDg (by rw [sizeDg, dgC_size]) b14) (hS) ?_
                try simp only [nrm]
                refine WpT.take (i := 13) rfl (by kernel_rfl) (fun _ _ _ h => h) (yields_eqDgW (b := D2) (p := other) (q := RT) (by rfl) rfl (by rfl) (by rfl) hot lrt HD2.out (fun W => by rfl)) (hS) ?_
                try simp only [nrm]
                refine WpT.one (i := 10) rfl (by kernel_rfl) (fun K hK => ?_)
                refine (if_pos (by rfl)).mpr ?_; go_simp; refine (HK6.out _ (bstep hbl hS)).mono ?_; unfold BIs; rintro e w12 ⟨rfl, hb12⟩; replace hS := bstep hS hb12
                refine hK _ _ (hS) ?_; clear hK K; try simp only [nrm]
                refine WpT.take (i := 14) rfl (by kernel_rfl) (fun _ _ _ h => h) (yields_eqlB (b := D2) (by rfl) rfl (by rfl) (by rfl) (fun W => by rfl)) (hS) ?_
                try simp only [nrm]
                refine WpT.take (i := 15) rfl (by kernel_rfl) (fun _ _ _ h => h) (.inl ⟨by rfl, fun w hSw => by clear hSw; go_simp; (try go_bits); (try rw [if_pos (by omega)]); (try with_reducible rfl)⟩) (hS) ?_
                try simp only [nrm]
                refine WpT.take (i := 16) rfl (by kernel_rfl) (fun _ _ _ h => h) (.inl ⟨by rfl, fun w hSw => by clear hSw; go_simp; (try go_bits); (try rw [if_pos (by omega)]); (try with_reducible rfl)⟩) (hS) ?_
                try simp only [nrm]
                refine WpT.tail (i := 17) rfl (by kernel_rfl) (by kernel_rfl) (fun K hK => ?_)
                go_simp; (try go_bits)
                refine hK _ _ ?_; clear hK K; try simp only [nrm]
                refine WpT.done (by kernel_rfl) ?_ _
                go_wp2_with fail; go_ret; exact ⟨rfl, HBX.out _ (bstep hbl hS)⟩
end Go.Proofs.YtgggpnjnhhkmgaaDoor
namespace Go.Proofs.YtgggpnjnhhkmgaaDoor.merkleProofsAreAccepted
set_option linter.unusedSimpArgs false
set_option linter.unusedVariables false
open Go.ChangeShapes Go.WideShapes Go.ChangeAt Go.RowKit Go.Proofs.YtgggpnjnhhkmgaaDoor
open Go.ChangeMaps (open_string shut_string)

set_option maxRecDepth 20000 in
set_option maxHeartbeats 1000000 in
theorem contract (H : Type) (enc : TypeId × Value → H) (W : World) (base : Nat) (args : Array Value) (ds gs : List (DataW H)) (before : List MemPlace)
    (hval : ∀ (j : Nat) t v, Tryd.f5.params[j]? = some t → args[j]? = some v → Value.okWide Tryd.prog W .any base t v)
    (hW : DataW.Whole enc Tryd.prog Tryd.f5.params.toList Rows.merkleProofsAreAcceptedSpec.vars false W args.toList ds gs before) (hL : laidMetH Tryd.prog Rows.merkleProofsAreAcceptedRow.laid W) :
    Calls Tryd.prog 5 args W fun e W' => ∃ v, e = .returned v ∧ Rows.merkleProofsAreAcceptedSpec.post enc Tryd.prog Tryd.f5 false true false false W args v W' := by
  have hW' := hW
  have hRef : RCon W := rcon_of hL
  have hBru : GBru W := bru_of hL.tail.tail
  have hCon : GCon W := con_of hL.tail.tail.tail
  obtain ⟨p, q, hA0, hV, rfl, hfz, hnd⟩ := hW
  have hA : DataW.TrodAll enc Tryd.prog W 0 (fun _ => true) true Tryd.f5.params.toList args.toList ds p := hA0
  rw [Tryd.params5] at hA hval
  obtain ⟨v0, vs0, d0, ds0, p0, q0, hargs, rfl, rfl, h0, r0⟩ := trodAll_cons hA
  obtain ⟨v1, vs1, d1, ds1, p1, q1, rfl, rfl, rfl, h1, r1⟩ := trodAll_cons r0
  obtain ⟨v2, vs2, d2, ds2, p2, q2, rfl, rfl, rfl, h2, r2⟩ := trodAll_cons r1
  obtain ⟨v3, vs3, d3, ds3, p3, q3, rfl, rfl, rfl, h3, r3⟩ := trodAll_cons r2
  obtain ⟨v4, vs4, d4, ds4, p4, q4, rfl, rfl, rfl, h4, r4⟩ := trodAll_cons r3
  obtain ⟨rfl, rfl, rfl⟩ := trodAll_nil r4
  obtain rfl : args = #[v0, v1, v2, v3, v4] := by cases args; simp_all
  obtain ⟨rfl, rfl⟩ := trodVars_none hV
  have k0 := h0
  have lt0 : ∀ x ∈ p0, x.block < W.heap.size := by obtain ⟨m, hm⟩ := k0; exact DataW.trod_lt m _ _ _ hm
  obtain ⟨A0, n0, c0, l0, rfl, x0, y0, z0, f0⟩ := open_digests (hval 0 22 v0 rfl rfl) h0
  have k1 := h1
  have lt1 : ∀ x ∈ p1, x.block < W.heap.size := by obtain ⟨m, hm⟩ := k1; exact DataW.trod_lt m _ _ _ hm
  obtain ⟨a1, rfl, rfl, rfl, f1⟩ := open_int (k := .u8) (by kernel_rfl) (hval 1 5 v1 rfl rfl) h1
  have k2 := h2
  have lt2 : ∀ x ∈ p2, x.block < W.heap.size := by obtain ⟨m, hm⟩ := k2; exact DataW.trod_lt m _ _ _ hm
  obtain ⟨a2, rfl, rfl, rfl, f2⟩ := open_int (k := .u8) (by kernel_rfl) (hval 2 5 v2 rfl rfl) h2
  have k3 := h3
  have lt3 : ∀ x ∈ p3, x.block < W.heap.size := by obtain ⟨m, hm⟩ := k3; exact DataW.trod_lt m _ _ _ hm
  obtain ⟨a3, rfl, rfl, rfl, f3⟩ := open_int (k := .u64) (by kernel_rfl) (hval 3 42 v3 rfl rfl) h3
  have k4 := h4
  have lt4 : ∀ x ∈ p4, x.block < W.heap.size := by obtain ⟨m, hm⟩ := k4; exact DataW.trod_lt m _ _ _ hm
  obtain ⟨a4, rfl, x4⟩ := open_digest (hval 4 31 v4 rfl rfl) h4
  clear hA0
  refine (walkMerkleProofsAreAccepted A0 n0 c0 l0 a1 a2 a3 a4 W x0 y0 z0 f0 f1 f2 f3 x4 hCon hRef hBru).mono fun e W' ⟨he, bel⟩ => ?_
  subst he
  exact ⟨_, rfl, _, _, _, [], _, [], hW', trodAll_mk1 (shut_bool (by kernel_rfl) _), (trodAll_cons_mk (Below.trod laidOut (by kernel_rfl) (of_decide_eq_true (by kernel_rfl)) k0 bel lt0) (trodAll_cons_mk (Below.trod laidOut (by kernel_rfl) (of_decide_eq_true (by kernel_rfl)) k1 bel lt1) (trodAll_cons_mk (Below.trod laidOut (by kernel_rfl) (of_decide_eq_true (by kernel_rfl)) k2 bel lt2) (trodAll_cons_mk (Below.trod laidOut (by kernel_rfl) (of_decide_eq_true (by kernel_rfl)) k3 bel lt3) (trodAll_cons_mk (Below.trod laidOut (by kernel_rfl) (of_decide_eq_true (by kernel_rfl)) k4 bel lt4) trodAll_mk0))))), rfl, bel.frame _, fun h => by cases h⟩

theorem laid_met (os : Os) : laidMet Tryd.prog Rows.merkleProofsAreAcceptedRow.laid ((laidWorldR os).forCall (fun _ _ => 0) ⟨#[], #[.slice none 0 0, .int .u8 0, .int .u8 0, .int .u64 0, .agg #[.int .u8 0, .int .u8 0, .int .u8 0, .int .u8 0, .int .u8 0, .int .u8 0, .int .u8 0, .int .u8 0, .int .u8 0, .int .u8 0, .int .u8 0, .int .u8 0, .int .u8 0, .int .u8 0, .int .u8 0, .int .u8 0]], []⟩).memory :=
  laidMet_of_run' 8 (by kernel_rfl) (by kernel_rfl)
theorem reads (os : Os) {H : Type} (enc : TypeId × Value → H) : ∃ places, DataW.whole enc Tryd.prog ((laidWorldR os).forCall (fun _ _ => 0) ⟨#[], #[.slice none 0 0, .int .u8 0, .int .u8 0, .int .u64 0, .agg #[.int .u8 0, .int .u8 0, .int .u8 0, .int .u8 0, .int .u8 0, .int .u8 0, .int .u8 0, .int .u8 0, .int .u8 0, .int .u8 0, .int .u8 0, .int .u8 0, .int .u8 0, .int .u8 0, .int .u8 0, .int .u8 0]], []⟩).memory Tryd.f5.params.toList Rows.merkleProofsAreAcceptedSpec.vars false (#[.slice none 0 0, .int .u8 0, .int .u8 0, .int .u64 0, .agg #[.int .u8 0, .int .u8 0, .int .u8 0, .int .u8 0, .int .u8 0, .int .u8 0, .int .u8 0, .int .u8 0, .int .u8 0, .int .u8 0, .int .u8 0, .int .u8 0, .int .u8 0, .int .u8 0, .int .u8 0, .int .u8 0]] : Array Value).toList 8 = some ([.nil, .lit (.int .u8 0), .lit (.int .u8 0), .lit (.int .u64 0), .agg [.lit (.int .u8 0), .lit (.int .u8 0), .lit (.int .u8 0), .lit (.int .u8 0), .lit (.int .u8 0), .lit (.int .u8 0), .lit (.int .u8 0), .lit (.int .u8 0), .lit (.int .u8 0), .lit (.int .u8 0), .lit (.int .u8 0), .lit (.int .u8 0), .lit (.int .u8 0), .lit (.int .u8 0), .lit (.int .u8 0), .lit (.int .u8 0)]], [], places) :=
  ⟨[], by kernel_rfl⟩
set_option maxRecDepth 100000 in
theorem lifted (os : Os) (started : os.Started) (H : Type) (enc : TypeId × Value → H) (F : Stop.Interp) :
    ReturnsInHanded {} Tryd.checked os 5 .any ((OpenSpec.ofChange Rows.merkleProofsAreAcceptedSpec).preRow enc Tryd.prog Tryd.f5 Rows.merkleProofsAreAcceptedRow.domain false Rows.merkleProofsAreAcceptedRow.laid) (((OpenSpec.ofChange Rows.merkleProofsAreAcceptedSpec).at F).post enc Tryd.prog Tryd.f5 false true false false) := by
  obtain ⟨places, hx⟩ := reads os enc
  refine returnsInHanded_of_row (C := Tryd.checked) (s := OpenSpec.ofChange Rows.merkleProofsAreAcceptedSpec) own started (by kernel_rfl) Tryd.func5
    (witness_row_at (enc := enc) (C := Tryd.checked) false (laidWorldR os) #[.slice none 0 0, .int .u8 0, .int .u8 0, .int .u64 0, .agg #[.int .u8 0, .int .u8 0, .int .u8 0, .int .u8 0, .int .u8 0, .int .u8 0, .int .u8 0, .int .u8 0, .int .u8 0, .int .u8 0, .int .u8 0, .int .u8 0, .int .u8 0, .int .u8 0, .int .u8 0, .int .u8 0]] rfl (by kernel_rfl) (by kernel_rfl) (by kernel_rfl)
      (OpenSpec.preRow_of_cond 8 hx (by kernel_rfl) (fun k hk => by cases hk) (by kernel_rfl) (laid_met os))) ?_
  intro W base args ds gs before hval hW _ _ _ hL _ _
  exact contract H enc W base args ds gs before hval hW hL
theorem said : Rows.MerkleProofsAreAcceptedSaid :=
  OpenClaim.holds_of_cond 5 Tryd.f5 rfl rfl rfl rfl rfl rfl rfl ⟨rfl, rfl, rfl, rfl, rfl⟩ rfl rfl rfl rfl rfl (by kernel_rfl) Tryd.func5 (by kernel_rfl)
    (of_decide_eq_true (by kernel_rfl)) (by unfold Func.isWrapper; first | (rw [if_pos (by decide +kernel)]; kernel_rfl) | (rw [if_neg (by decide +kernel)]; exact ⟨rfl, rfl⟩))
    (fun os started H enc _ F => by rw [OpenClaim.pre_eq_preRow]; exact lifted os started H enc F)
theorem plain (f : FuncId) (fn : Func) (hf : Tryd.pinned.checked.prog.funcNamed "antiquary/antiquarylaw03.MerkleProofsAreAccepted" = some f) (hfn : Tryd.pinned.checked.prog.funcs[f]? = some fn) :
    false = Tryd.pinned.checked.prog.looks [] ∧ ∀ (j : Nat) t, fn.params[j]? = some t → Tryd.pinned.checked.prog.wantsStandIn t = false := by
  obtain rfl : f = 5 := Option.some.inj ((show Tryd.prog.funcNamed "antiquary/antiquarylaw03.MerkleProofsAreAccepted" = some 5 by kernel_rfl).symm.trans hf) |>.symm
  obtain rfl : fn = Tryd.f5 := (Option.some.inj (Tryd.func5.symm.trans hfn)).symm
  refine ⟨by kernel_rfl, fun j t ht => ?_⟩
  rw [Tryd.params5] at ht
  have hm := Array.mem_of_getElem? ht
  have hall : Tryd.f5.params.toList.all (fun t => !Tryd.prog.wantsStandIn t) = true := by kernel_rfl
  rw [Tryd.params5] at hall
  have := List.all_eq_true.1 hall t (by simpa using hm)
  have h2 : Tryd.prog.wantsStandIn t = false := by simpa using this
  exact h2
theorem card_holds : Rows.MerkleProofsAreAcceptedCardSaid :=
  Claim7.holds_tied_plain_at .later [] _ _ _ _ said (fun _ h => by cases h) (by kernel_rfl) (fun _ h => by cases h) merkleProofsAreAccepted_row_tie rfl ⟨rfl, rfl⟩ (by kernel_rfl) rfl plain (by kernel_rfl)
#print axioms card_holds
end Go.Proofs.YtgggpnjnhhkmgaaDoor.merkleProofsAreAccepted
