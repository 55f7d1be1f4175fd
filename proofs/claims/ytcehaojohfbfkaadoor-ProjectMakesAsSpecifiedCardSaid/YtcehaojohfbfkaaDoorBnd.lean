/-
  What the bounds of lines are, in the program and in the reference. Conditions: the numbers are small.
-/
import Derived.Test.YtcehaojohfbfkaaDoorApp
import Derived.Test.YtcehaojohfbfkaaDoorUp
import Derived.Test.YtcehaojohfbfkaaDoorPairs
import Derived.Lib.MinMax
namespace Go.Proofs.YtcehaojohfbfkaaDoor
set_option linter.unusedSimpArgs false
set_option linter.unusedVariables false
open Go.RowKit Proj
section
variable {P : Program} {ops : Array Oper} {S : World → Prop} {o : Oper} {a : Act}
theorem yields_max3 {x y z : Operand} {ts : Array TypeId} {k : IntKind} {X Y Z : Int} (ho : o.op = .call { callee := .builtin .max, args := #[x, y, z], argTypes := ts }) (hg : o.guard = none)
    (hx : a.eval x = .int k X) (hy : a.eval y = .int k Y) (hz : a.eval z = .int k Z) : YieldsIf P ops S o (.int k (max (max X Y) Z)) a := by
  refine .inl ⟨by simp [Region.wanted, hg], fun w _ => ?_⟩
  have e : (if Z > (if Y > X then Y else X) then Z else (if Y > X then Y else X)) = max (max X Y) Z := by omega
  unfold execOp
  simp [ho, resolve, invoke, builtin, hx, hy, hz, Builtin.max_, Builtin.max2, ← e]
theorem yields_max2 {x y : Operand} {ts : Array TypeId} {k : IntKind} {X Y : Int} (ho : o.op = .call { callee := .builtin .max, args := #[x, y], argTypes := ts }) (hg : o.guard = none)
    (hx : a.eval x = .int k X) (hy : a.eval y = .int k Y) : YieldsIf P ops S o (.int k (max X Y)) a := by
  refine .inl ⟨by simp [Region.wanted, hg], fun w _ => ?_⟩
  have e : (if Y > X then Y else X) = max X Y := by omega
  unfold execOp
  simp [ho, resolve, invoke, builtin, hx, hy, Builtin.max_, Builtin.max2, ← e]
theorem yields_min2 {x y : Operand} {ts : Array TypeId} {k : IntKind} {X Y : Int} (ho : o.op = .call { callee := .builtin .min, args := #[x, y], argTypes := ts }) (hg : o.guard = none)
    (hx : a.eval x = .int k X) (hy : a.eval y = .int k Y) : YieldsIf P ops S o (.int k (min X Y)) a := by
  refine .inl ⟨by simp [Region.wanted, hg], fun w _ => ?_⟩
  have e : (if Y < X then Y else X) = min X Y := by omega
  unfold execOp
  simp [ho, resolve, invoke, builtin, hx, hy, Builtin.min_, Builtin.min2, ← e]
end
theorem norm1_eq (l : List Int) : norm 1 l = n1 l := rfl
theorem norm2_eq (l : List Int) : norm 2 l = n2 l := rfl
theorem norm3_eq (l : List Int) : norm 3 l = n3 l := rfl
set_option maxHeartbeats 1000000 in
theorem gapSum_any (g : Int) (A : Option Addr) (n c : Nat) (l : List Int) (w : World) (hr : Rd w A n (iv l)) (hn : n ≤ 64) (hA : ∀ x ∈ l, ab x ≤ 1000) (hs : some0 l) (hg : 0 ≤ g) (hg2 : g ≤ 2147483648) :
    Calls Tryd.prog 52 #[.int .i64 g, .slice A n c] w fun e w' => e = .returned (.int .i64 (up g (n3 l))) ∧ Below w.heap.size w w' := by
  have HA := Lib.hid (show ∀ x ∈ l, ab x ≤ 2000 from fun x hx => Int.le_trans (hA x hx) (by omega))
  have HP := Lib.hid (n3_pos l hs)
  have HL := Lib.hid (show l.length = n by have := hr.len; simpa using this)
  clear hA hs
  generalize hu : up g (n3 l) = u
  have HU0 := Lib.hid hu
  clear hu
  go_enter Tryd.func52, Tryd.ntmps52
  go_wp2_with fail
  refine (norm_any 3 A n c l _ (by omega) hr hn HA.out).mono ?_
  rintro e w1 ⟨rfl, hb1⟩
  have h2 := norm_small 3 l (by have := HL.out; omega) HA.out
  rw [norm3_eq] at h2 ⊢
  have HU := Lib.hid (up_any g (n3 l) w1 hg (by omega) HP.out (by omega))
  rw [HU0.out] at HU
  generalize n3 l = N at *
  clear h2 HU0
  go_wp2_with fail
  refine HU.out.mono ?_
  rintro e w2 ⟨rfl, rfl⟩
  go_wp2_with fail
  go_ret
  exact ⟨rfl, hb1⟩
set_option maxHeartbeats 1000000 in
theorem gapMost_any (g : Int) (A : Option Addr) (n c : Nat) (l : List Int) (w : World) (hr : Rd w A n (iv l)) (hn : n ≤ 64) (hA : ∀ x ∈ l, ab x ≤ 1000) (hs : some0 l) (hg : 0 ≤ g) (hg2 : g ≤ 2147483648) :
    Calls Tryd.prog 54 #[.int .i64 g, .slice A n c] w fun e w' => e = .returned (.int .i64 (up g (n1 l))) ∧ Below w.heap.size w w' := by
  have HA := Lib.hid (show ∀ x ∈ l, ab x ≤ 2000 from fun x hx => Int.le_trans (hA x hx) (by omega))
  have HP := Lib.hid (n1_pos l hs)
  have HL := Lib.hid (show l.length = n by have := hr.len; simpa using this)
  clear hA hs
  generalize hu : up g (n1 l) = u
  have HU0 := Lib.hid hu
  clear hu
  go_enter Tryd.func54, Tryd.ntmps54
  go_wp2_with fail
  refine (norm_any 1 A n c l _ (by omega) hr hn HA.out).mono ?_
  rintro e w1 ⟨rfl, hb1⟩
  have h2 := norm_small 1 l (by have := HL.out; omega) HA.out
  rw [norm1_eq] at h2 ⊢
  have HU := Lib.hid (up_any g (n1 l) w1 hg (by omega) HP.out (by omega))
  rw [HU0.out] at HU
  generalize n1 l = N at *
  clear h2 HU0
  go_wp2_with fail
  refine HU.out.mono ?_
  rintro e w2 ⟨rfl, rfl⟩
  go_wp2_with fail
  go_ret
  exact ⟨rfl, hb1⟩
set_option maxHeartbeats 1000000 in
theorem gapEuclid_any (g : Int) (A : Option Addr) (n c : Nat) (l : List Int) (w : World) (hr : Rd w A n (iv l)) (hn : n ≤ 64) (hA : ∀ x ∈ l, ab x ≤ 1000) (hs : some0 l) (hg : 0 ≤ g) (hg2 : g ≤ 2147483648) :
    Calls Tryd.prog 53 #[.int .i64 g, .slice A n c] w fun e w' => e = .returned (.int .i64 (up (g * g) (n2 l))) ∧ Below w.heap.size w w' := by
  have HA := Lib.hid (show ∀ x ∈ l, ab x ≤ 2000 from fun x hx => Int.le_trans (hA x hx) (by omega))
  have HP := Lib.hid (n2_pos l hs)
  have HL := Lib.hid (show l.length = n by have := hr.len; simpa using this)
  have hgg : 0 ≤ g * g ∧ g * g ≤ 4611686018427387904 := ⟨sq_nonneg g, by have := sq_le hg hg2; omega⟩
  clear hA hs
  generalize hu : up (g * g) (n2 l) = u
  have HU0 := Lib.hid hu
  clear hu
  go_enter Tryd.func53, Tryd.ntmps53
  go_wp2_with fail
  refine (norm_any 2 A n c l _ (by omega) hr hn HA.out).mono ?_
  rintro e w1 ⟨rfl, hb1⟩
  have h2 := norm_small 2 l (by have := HL.out; omega) HA.out
  rw [norm2_eq] at h2 ⊢
  have HU := Lib.hid (up_any (g * g) (n2 l) w1 hgg.1 hgg.2 HP.out (by omega))
  rw [HU0.out] at HU
  generalize n2 l = N at *
  clear h2 HU0
  go_wp2_with fail
  refine HU.out.mono ?_
  rintro e w2 ⟨rfl, rfl⟩
  go_wp2_with fail
  go_ret
  exact ⟨rfl, hb1⟩
/-- Ranges as the walks take them. -/
def PairsOk (rs : List (Int × Int)) : Prop := ∀ r ∈ rs, -1073741824 ≤ r.1 ∧ r.1 ≤ 1073741824 ∧ -1073741824 ≤ r.2 ∧ r.2 ≤ 1073741824
theorem RdP.get {W : World} {A : Option Addr} {n : Nat} {rs : List (Int × Int)} (h : RdP W A n rs) (k : Nat) (hk : k < rs.length) :
    ∃ ad, A = some ad ∧ W.cell? (ad.add (k * 2)) = some (.int .i64 rs[k].1) ∧ W.cell? ⟨(ad.add (k * 2)).block, (ad.add (k * 2)).off + 1, none⟩ = some (.int .i64 rs[k].2) := by
  obtain ⟨ad, h1, h2, h3⟩ := h.cell k hk
  refine ⟨ad, h1, h2, ?_⟩
  rw [← add_of_add] at h3
  exact h3
theorem yields_gap {P : Program} {ops : Array Oper} {S : World → Prop} {o : Oper} {a : Act} {x y z : Operand} {ts : Array TypeId} {k : IntKind} {lo hi n : Int} (ho : o.op = .call { callee := .builtin .max, args := #[x, y, z], argTypes := ts }) (hg : o.guard = none)
    (hx : a.eval x = .int k 0) (hy : a.eval y = .int k (lo - n)) (hz : a.eval z = .int k (n - hi)) : YieldsIf P ops S o (.int k (gap lo hi n)) a := yields_max3 ho hg hx hy hz
theorem bound_snoc (m : Int) (q l : List Int) (r : Int × Int) : ∀ (ls : List (List Int)) (rs : List (Int × Int)), ls.length = rs.length → bound m (ls ++ [l]) (rs ++ [r]) q = max (bound m ls rs q) (one m l r.1 r.2 (dot l q))
  | [], [], _ => by simp only [List.nil_append, bound]; omega
  | [], _ :: _, h => by simp at h
  | _ :: _, [], h => by simp at h
  | x :: ls, y :: rs, h => by
    have := bound_snoc m q l r ls rs (by simpa using h)
    simp only [List.cons_append, bound]
    omega
theorem bound_step (m : Int) (q : List Int) (ls : List (List Int)) (rs : List (Int × Int)) (k : Nat) (h : k < ls.length) (h' : k < rs.length) :
    bound m (ls.take (k + 1)) (rs.take (k + 1)) q = max (bound m (ls.take k) (rs.take k) q) (one m ls[k] rs[k].1 rs[k].2 (dot ls[k] q)) := by
  rw [List.take_succ_eq_append_getElem h, List.take_succ_eq_append_getElem h', bound_snoc _ _ _ _ _ _ (by simp; omega)]
theorem gap_small {lo hi n : Int} (h1 : lo ≤ 1073741824) (h2 : -1073741824 ≤ hi) (h3 : ab n ≤ 64000000) : 0 ≤ gap lo hi n ∧ gap lo hi n ≤ 2147483648 := by unfold gap ab at *; omega
theorem getElem_apply (ls : List (List Int)) (q : List Int) (k : Nat) (h : k < (apply ls q).length) : (apply ls q)[k] = dot (ls[k]'(by simpa [apply] using h)) q := by simp [apply]
set_option maxRecDepth 20000 in
set_option maxHeartbeats 4000000 in
theorem bound1_any (A : Option Addr) (n c : Nat) (ls : List (List Int)) (R : Option Addr) (cr : Nat) (rs : List (Int × Int)) (B : Option Addr) (m d : Nat) (b : List Int) (w : World) (ha : RdR w A n ls) (hr : RdP w R n rs) (hb : Rd w B m (iv b))
    (hn : n ≤ 1000) (hm : m ≤ 64) (hL : LinesOk ls m) (hS : ∀ l ∈ ls, some0 l) (hR : PairsOk rs) (hB : ∀ y ∈ b, ab y ≤ 1000) :
    Calls Tryd.prog 32 #[.int .i64 1, .slice A n c, .slice R n cr, .slice B m d] w fun e w' => e = .returned (.int .i64 (bound 1 ls rs b)) ∧ Below w.heap.size w w' := by
  have HLa := Lib.hid ha.len
  have HLr := Lib.hid hr.len
  have HLb := Lib.hid (show b.length = m by have := hb.len; simpa using this)
  have HL := Lib.hid hL
  have HS0 := Lib.hid hS
  have HR := Lib.hid hR
  have HB := Lib.hid hB
  clear hL hS hR hB
  go_enter Tryd.func32, Tryd.ntmps32
  go_wp2_with fail
  refine (apply_any A n c ls B m d b _ ha hb hn hm HL.out HB.out).mono ?_
  rintro e w1 ⟨v, rfl, hown, hb1⟩
  obtain ⟨A1, n1', c1, rfl, hn1, hn1c, hc1, hrs⟩ := hown.formN
  have hn2 : n1' = n := by have := hn1.out; have := HLa.out; simp [apply] at *; omega
  subst hn2
  clear hn1 hown
  go_wp2_with fail
  go_loopw [10, 11, 12, 22] (fun o _ _ j wr => ∃ k : Nat, k ≤ n1' ∧ j = .int .i64 k ∧ o = .int .i64 (bound 1 (ls.take k) (rs.take k) b) ∧ Below w1.heap.size w1 wr) (fun _ _ _ j _ => n1' - (intOf j).toNat)
  case atStart => exact ⟨0, Nat.zero_le _, rfl, by simp [bound], Below.refl _ _⟩
  case round =>
    obtain ⟨k, hk, rfl, rfl, hbw⟩ := hrel
    have hbw0 := bstep hb1 hbw
    by_cases hlt : k < n1'
    · have HA := Lib.hid (getElem_apply ls b k (by have := HLa.out; simp [apply]; omega))
      obtain ⟨sd, rfl, hsc⟩ := (hrs.below hbw).int hlt (by have := HLa.out; simp [apply]; omega)
      rw [HA.out] at hsc
      obtain ⟨ad, L, c', rfl, hc, hlc, hcm, hrl⟩ := (ha.below hbw0).row k (by have := HLa.out; omega)
      obtain ⟨rd, rfl, hr0, hr1⟩ := (hr.below hbw0).get k (by have := HLr.out; omega)
      have HS := Lib.hid (bound_step 1 b ls rs k (by have := HLa.out; omega) (by have := HLr.out; omega))
      have HM := Lib.hid (List.getElem_mem (show k < ls.length by have := HLa.out; omega))
      have HMr := HR.out _ (List.getElem_mem (show k < rs.length by have := HLr.out; omega))
      generalize ls[k]'(by have := HLa.out; omega) = l at *
      generalize rs[k]'(by have := HLr.out; omega) = r at *
      obtain ⟨lo, hi⟩ := r
      dsimp only at *
      obtain ⟨hlo1, hlo2, hhi1, hhi2⟩ := HMr
      have hd := dot_small l b (by have := HL.out.len l HM.out; omega) (HL.out.le l HM.out) HB.out
      have HG := Lib.hid (gap_small (n := dot l b) hlo2 hhi1 hd)
      have HO := Lib.hid (show one 1 l lo hi (dot l b) = up (gap lo hi (dot l b)) (n3 l) from rfl)
      generalize dot l b = x at *
      have hd2 : -64000000 ≤ x ∧ x ≤ 64000000 := by unfold ab at hd; omega
      obtain ⟨hd3, hd4⟩ := hd2
      clear hd
      have HLL := Lib.hid (show l.length ≤ 64 by have := HL.out.len l HM.out; omega)
      clear HA
      go_wp2_with fail
      have hS0 : Below wr.heap.size wr wr.drew := (Below.refl _ wr).drew
      refine wp_region_T 23 (by kernel_rfl) ?_
      -- region 11: 24 operations, tail from 23
      refine WpT.take (i := 0) rfl (by kernel_rfl) (fun _ _ _ h => h) (.inl ⟨by rfl, fun w hSw => by clear hSw; go_simp; (try go_bits); (try rw [if_pos (by omega)]); (try with_reducible rfl)⟩) ((Below.refl _ _).drew) ?_
      try simp only [Act.put, List.setIfInBounds_toArray, List.set_cons_zero, List.set_cons_succ]
      refine WpT.take (i := 1) rfl (by kernel_rfl) (fun _ _ _ h => h) (.inl ⟨by rfl, fun w hSw => by clear hSw; go_simp; (try go_bits); (try rw [if_pos (by omega)]); (try with_reducible rfl)⟩) ((Below.refl _ _).drew) ?_
      try simp only [Act.put, List.setIfInBounds_toArray, List.set_cons_zero, List.set_cons_succ]
      refine WpT.take (i := 2) rfl (by kernel_rfl) (fun _ _ _ h => h) (.inl ⟨by rfl, fun w hSw => by clear hSw; go_simp; (try go_bits); (try rw [if_pos (by omega)]); (try with_reducible rfl)⟩) ((Below.refl _ _).drew) ?_
      try simp only [Act.put, List.setIfInBounds_toArray, List.set_cons_zero, List.set_cons_succ]
      refine WpT.take (i := 3) rfl (by kernel_rfl) (fun _ _ _ h => h) (.inl ⟨by rfl, fun w hSw => by clear hSw; go_simp; (try go_bits); (try rw [if_pos (by omega)]); (try with_reducible rfl)⟩) ((Below.refl _ _).drew) ?_
      try simp only [Act.put, List.setIfInBounds_toArray, List.set_cons_zero, List.set_cons_succ]
      refine WpT.take (i := 4) rfl (by kernel_rfl) (fun _ _ _ h => h) (.inl ⟨by rfl, fun w hSw => by clear hSw; go_simp; (try go_bits); (try rw [if_pos (by omega)]); (try with_reducible rfl)⟩) ((Below.refl _ _).drew) ?_
      try simp only [Act.put, List.setIfInBounds_toArray, List.set_cons_zero, List.set_cons_succ]
      refine WpT.take (i := 5) rfl (by kernel_rfl) (fun _ _ _ h => h) (.inl ⟨by rfl, fun w hSw => by clear hSw; go_simp; (try go_bits); (try rw [if_pos (by omega)]); (try with_reducible rfl)⟩) ((Below.refl _ _).drew) ?_
      try simp only [Act.put, List.setIfInBounds_toArray, List.set_cons_zero, List.set_cons_succ]
      refine WpT.take (i := 6) rfl (by kernel_rfl) (fun _ _ _ h => h) (yields_load rfl rfl rfl (by kernel_rfl) (by assumption)) ((Below.refl _ _).drew) ?_
      try simp only [Act.put, List.setIfInBounds_toArray, List.set_cons_zero, List.set_cons_succ]
      refine WpT.take (i := 7) rfl (by kernel_rfl) (fun _ _ _ h => h) (.inl ⟨by rfl, fun w hSw => by clear hSw; go_simp; (try go_bits); (try rw [if_pos (by omega)]); (try with_reducible rfl)⟩) ((Below.refl _ _).drew) ?_
      try simp only [Act.put, List.setIfInBounds_toArray, List.set_cons_zero, List.set_cons_succ]
      refine WpT.take (i := 8) rfl (by kernel_rfl) (fun _ _ _ h => h) (.inl ⟨by rfl, fun w hSw => by clear hSw; go_simp; (try go_bits); (try rw [if_pos (by omega)]); (try with_reducible rfl)⟩) ((Below.refl _ _).drew) ?_
      try simp only [Act.put, List.setIfInBounds_toArray, List.set_cons_zero, List.set_cons_succ]
      refine WpT.take (i := 9) rfl (by kernel_rfl) (fun _ _ _ h => h) (.inl ⟨by rfl, fun w hSw => by clear hSw; go_simp; (try go_bits); (try rw [if_pos (by omega)]); (try with_reducible rfl)⟩) ((Below.refl _ _).drew) ?_
      try simp only [Act.put, List.setIfInBounds_toArray, List.set_cons_zero, List.set_cons_succ]
      refine WpT.take (i := 10) rfl (by kernel_rfl) (fun _ _ _ h => h) (.inl ⟨by rfl, fun w hSw => by clear hSw; go_simp; (try go_bits); (try rw [if_pos (by omega)]); (try with_reducible rfl)⟩) ((Below.refl _ _).drew) ?_
      try simp only [Act.put, List.setIfInBounds_toArray, List.set_cons_zero, List.set_cons_succ]
      refine WpT.take (i := 11) rfl (by kernel_rfl) (fun _ _ _ h => h) (.inl ⟨by rfl, fun w hSw => by clear hSw; go_simp; (try go_bits); (try rw [if_pos (by omega)]); (try with_reducible rfl)⟩) ((Below.refl _ _).drew) ?_
      try simp only [Act.put, List.setIfInBounds_toArray, List.set_cons_zero, List.set_cons_succ]
      refine WpT.take (i := 12) rfl (by kernel_rfl) (fun _ _ _ h => h) (.inl ⟨by rfl, fun w hSw => by clear hSw; go_simp; (try go_bits); (try rw [if_pos (by omega)]); (try with_reducible rfl)⟩) ((Below.refl _ _).drew) ?_
      try simp only [Act.put, List.setIfInBounds_toArray, List.set_cons_zero, List.set_cons_succ]
      refine WpT.take (i := 13) rfl (by kernel_rfl) (fun _ _ _ h => h) (.inl ⟨by rfl, fun w hSw => by clear hSw; go_simp; (try go_bits); (try rw [if_pos (by omega)]); (try with_reducible rfl)⟩) ((Below.refl _ _).drew) ?_
      try simp only [Act.put, List.setIfInBounds_toArray, List.set_cons_zero, List.set_cons_succ]
      refine WpT.take (i := 14) rfl (by kernel_rfl) (fun _ _ _ h => h) (yields_load rfl rfl rfl (by kernel_rfl) (by assumption)) ((Below.refl _ _).drew) ?_
      try simp only [Act.put, List.setIfInBounds_toArray, List.set_cons_zero, List.set_cons_succ]
      refine WpT.take (i := 15) rfl (by kernel_rfl) (fun _ _ _ h => h) (.inl ⟨by rfl, fun w hSw => by clear hSw; go_simp; (try go_bits); (try rw [if_pos (by omega)]); (try with_reducible rfl)⟩) ((Below.refl _ _).drew) ?_
      try simp only [Act.put, List.setIfInBounds_toArray, List.set_cons_zero, List.set_cons_succ]
      refine WpT.take (i := 16) rfl (by kernel_rfl) (fun _ _ _ h => h) (yields_gap (lo := lo) (hi := hi) (n := x) rfl rfl rfl rfl rfl) ((Below.refl _ _).drew) ?_
      try simp only [Act.put, List.setIfInBounds_toArray, List.set_cons_zero, List.set_cons_succ]
      refine WpT.take (i := 17) rfl (by kernel_rfl) (fun _ _ _ h => h) (.inl ⟨by rfl, fun w hSw => by clear hSw; go_simp; (try go_bits); (try rw [if_pos (by omega)]); (try with_reducible rfl)⟩) ((Below.refl _ _).drew) ?_
      try simp only [Act.put, List.setIfInBounds_toArray, List.set_cons_zero, List.set_cons_succ]
      refine WpT.take (i := 18) rfl (by kernel_rfl) (fun _ _ _ h => h) (.inl ⟨by rfl, fun w hSw => by clear hSw; go_simp; (try go_bits); (try rw [if_pos (by omega)]); (try with_reducible rfl)⟩) ((Below.refl _ _).drew) ?_
      try simp only [Act.put, List.setIfInBounds_toArray, List.set_cons_zero, List.set_cons_succ]
      refine WpT.take (i := 19) rfl (by kernel_rfl) (fun _ _ _ h => h) (.inl ⟨by rfl, fun w hSw => by clear hSw; go_simp; (try go_bits); (try rw [if_pos (by omega)]); (try with_reducible rfl)⟩) ((Below.refl _ _).drew) ?_
      try simp only [Act.put, List.setIfInBounds_toArray, List.set_cons_zero, List.set_cons_succ]
      refine WpT.take (i := 20) rfl (by kernel_rfl) (fun _ _ _ h => h) (yields_load rfl rfl rfl (by kernel_rfl) (by assumption)) ((Below.refl _ _).drew) ?_
      try simp only [Act.put, List.setIfInBounds_toArray, List.set_cons_zero, List.set_cons_succ]
      refine WpT.one (i := 21) rfl (by kernel_rfl) (fun K hK => ?_)
      go_simp; refine (gapSum_any (gap lo hi x) L l.length c' l _ (by exact hrl.below hS0) HLL.out (HL.out.le l HM.out) (HS0.out l HM.out) HG.out.1 HG.out.2).mono ?_; rintro e w2 ⟨rfl, hb2⟩; have hS2 := bstep hS0 hb2
      refine hK _ _ (hS2) ?_; clear hK K; try simp only [Act.put, List.setIfInBounds_toArray, List.set_cons_zero, List.set_cons_succ]
      refine WpT.take (i := 22) rfl (by kernel_rfl) (fun _ _ _ h => h) (yields_max2 rfl rfl rfl rfl) (hS2) ?_
      try simp only [Act.put, List.setIfInBounds_toArray, List.set_cons_zero, List.set_cons_succ]
      refine WpT.tail (i := 23) rfl (by kernel_rfl) (by kernel_rfl) (fun K hK => ?_)
      go_simp; (try go_bits)
      refine hK _ _ ?_; clear hK K; try simp only [Act.put, List.setIfInBounds_toArray, List.set_cons_zero, List.set_cons_succ]
      refine WpT.done (by kernel_rfl) ?_ _
      go_wp2_with fail
      refine ⟨⟨k + 1, by omega, by go_num, ?_, bstep hbw hS2⟩, by simp [intOf]; omega⟩
      rw [HS.out, HO.out]
    · obtain rfl : k = n1' := by omega
      have HT := Lib.hid (show ls.take k = ls by rw [List.take_of_length_le (by have := HLa.out; omega)])
      have HT2 := Lib.hid (show rs.take k = rs by rw [List.take_of_length_le (by have := HLr.out; omega)])
      rw [HT.out, HT2.out]
      go_wp2
      go_ret
      exact ⟨rfl, hbw0⟩
set_option maxRecDepth 20000 in
set_option maxHeartbeats 4000000 in
theorem bound2_any (A : Option Addr) (n c : Nat) (ls : List (List Int)) (R : Option Addr) (cr : Nat) (rs : List (Int × Int)) (B : Option Addr) (m d : Nat) (b : List Int) (w : World) (ha : RdR w A n ls) (hr : RdP w R n rs) (hb : Rd w B m (iv b))
    (hn : n ≤ 1000) (hm : m ≤ 64) (hL : LinesOk ls m) (hS : ∀ l ∈ ls, some0 l) (hR : PairsOk rs) (hB : ∀ y ∈ b, ab y ≤ 1000) :
    Calls Tryd.prog 32 #[.int .i64 2, .slice A n c, .slice R n cr, .slice B m d] w fun e w' => e = .returned (.int .i64 (bound 2 ls rs b)) ∧ Below w.heap.size w w' := by
  have HLa := Lib.hid ha.len
  have HLr := Lib.hid hr.len
  have HLb := Lib.hid (show b.length = m by have := hb.len; simpa using this)
  have HL := Lib.hid hL
  have HS0 := Lib.hid hS
  have HR := Lib.hid hR
  have HB := Lib.hid hB
  clear hL hS hR hB
  go_enter Tryd.func32, Tryd.ntmps32
  go_wp2_with fail
  refine (apply_any A n c ls B m d b _ ha hb hn hm HL.out HB.out).mono ?_
  rintro e w1 ⟨v, rfl, hown, hb1⟩
  obtain ⟨A1, n1', c1, rfl, hn1, hn1c, hc1, hrs⟩ := hown.formN
  have hn2 : n1' = n := by have := hn1.out; have := HLa.out; simp [apply] at *; omega
  subst hn2
  clear hn1 hown
  go_wp2_with fail
  go_loopw [10, 11, 12, 22] (fun o _ _ j wr => ∃ k : Nat, k ≤ n1' ∧ j = .int .i64 k ∧ o = .int .i64 (bound 2 (ls.take k) (rs.take k) b) ∧ Below w1.heap.size w1 wr) (fun _ _ _ j _ => n1' - (intOf j).toNat)
  case atStart => exact ⟨0, Nat.zero_le _, rfl, by simp [bound], Below.refl _ _⟩
  case round =>
    obtain ⟨k, hk, rfl, rfl, hbw⟩ := hrel
    have hbw0 := bstep hb1 hbw
    by_cases hlt : k < n1'
    · have HA := Lib.hid (getElem_apply ls b k (by have := HLa.out; simp [apply]; omega))
      obtain ⟨sd, rfl, hsc⟩ := (hrs.below hbw).int hlt (by have := HLa.out; simp [apply]; omega)
      rw [HA.out] at hsc
      obtain ⟨ad, L, c', rfl, hc, hlc, hcm, hrl⟩ := (ha.below hbw0).row k (by have := HLa.out; omega)
      obtain ⟨rd, rfl, hr0, hr1⟩ := (hr.below hbw0).get k (by have := HLr.out; omega)
      have HS := Lib.hid (bound_step 2 b ls rs k (by have := HLa.out; omega) (by have := HLr.out; omega))
      have HM := Lib.hid (List.getElem_mem (show k < ls.length by have := HLa.out; omega))
      have HMr := HR.out _ (List.getElem_mem (show k < rs.length by have := HLr.out; omega))
      generalize ls[k]'(by have := HLa.out; omega) = l at *
      generalize rs[k]'(by have := HLr.out; omega) = r at *
      obtain ⟨lo, hi⟩ := r
      dsimp only at *
      obtain ⟨hlo1, hlo2, hhi1, hhi2⟩ := HMr
      have hd := dot_small l b (by have := HL.out.len l HM.out; omega) (HL.out.le l HM.out) HB.out
      have HG := Lib.hid (gap_small (n := dot l b) hlo2 hhi1 hd)
      have HO := Lib.hid (show one 2 l lo hi (dot l b) = up (gap lo hi (dot l b) * gap lo hi (dot l b)) (n2 l) from rfl)
      generalize dot l b = x at *
      have hd2 : -64000000 ≤ x ∧ x ≤ 64000000 := by unfold ab at hd; omega
      obtain ⟨hd3, hd4⟩ := hd2
      clear hd
      have HLL := Lib.hid (show l.length ≤ 64 by have := HL.out.len l HM.out; omega)
      clear HA
      go_wp2_with fail
      have hS0 : Below wr.heap.size wr wr.drew := (Below.refl _ wr).drew
      refine wp_region_T 23 (by kernel_rfl) ?_
      -- region 11: 24 operations, tail from 23
      refine WpT.take (i := 0) rfl (by kernel_rfl) (fun _ _ _ h => h) (.inl ⟨by rfl, fun w hSw => by clear hSw; go_simp; (try go_bits); (try rw [if_pos (by omega)]); (try with_reducible rfl)⟩) ((Below.refl _ _).drew) ?_
      try simp only [Act.put, List.setIfInBounds_toArray, List.set_cons_zero, List.set_cons_succ]
      refine WpT.take (i := 1) rfl (by kernel_rfl) (fun _ _ _ h => h) (.inl ⟨by rfl, fun w hSw => by clear hSw; go_simp; (try go_bits); (try rw [if_pos (by omega)]); (try with_reducible rfl)⟩) ((Below.refl _ _).drew) ?_
      try simp only [Act.put, List.setIfInBounds_toArray, List.set_cons_zero, List.set_cons_succ]
      refine WpT.take (i := 2) rfl (by kernel_rfl) (fun _ _ _ h => h) (.inl ⟨by rfl, fun w hSw => by clear hSw; go_simp; (try go_bits); (try rw [if_pos (by omega)]); (try with_reducible rfl)⟩) ((Below.refl _ _).drew) ?_
      try simp only [Act.put, List.setIfInBounds_toArray, List.set_cons_zero, List.set_cons_succ]
      refine WpT.take (i := 3) rfl (by kernel_rfl) (fun _ _ _ h => h) (.inl ⟨by rfl, fun w hSw => by clear hSw; go_simp; (try go_bits); (try rw [if_pos (by omega)]); (try with_reducible rfl)⟩) ((Below.refl _ _).drew) ?_
      try simp only [Act.put, List.setIfInBounds_toArray, List.set_cons_zero, List.set_cons_succ]
      refine WpT.take (i := 4) rfl (by kernel_rfl) (fun _ _ _ h => h) (.inl ⟨by rfl, fun w hSw => by clear hSw; go_simp; (try go_bits); (try rw [if_pos (by omega)]); (try with_reducible rfl)⟩) ((Below.refl _ _).drew) ?_
      try simp only [Act.put, List.setIfInBounds_toArray, List.set_cons_zero, List.set_cons_succ]
      refine WpT.take (i := 5) rfl (by kernel_rfl) (fun _ _ _ h => h) (.inl ⟨by rfl, fun w hSw => by clear hSw; go_simp; (try go_bits); (try rw [if_pos (by omega)]); (try with_reducible rfl)⟩) ((Below.refl _ _).drew) ?_
      try simp only [Act.put, List.setIfInBounds_toArray, List.set_cons_zero, List.set_cons_succ]
      refine WpT.take (i := 6) rfl (by kernel_rfl) (fun _ _ _ h => h) (yields_load rfl rfl rfl (by kernel_rfl) (by assumption)) ((Below.refl _ _).drew) ?_
      try simp only [Act.put, List.setIfInBounds_toArray, List.set_cons_zero, List.set_cons_succ]
      refine WpT.take (i := 7) rfl (by kernel_rfl) (fun _ _ _ h => h) (.inl ⟨by rfl, fun w hSw => by clear hSw; go_simp; (try go_bits); (try rw [if_pos (by omega)]); (try with_reducible rfl)⟩) ((Below.refl _ _).drew) ?_
      try simp only [Act.put, List.setIfInBounds_toArray, List.set_cons_zero, List.set_cons_succ]
      refine WpT.take (i := 8) rfl (by kernel_rfl) (fun _ _ _ h => h) (.inl ⟨by rfl, fun w hSw => by clear hSw; go_simp; (try go_bits); (try rw [if_pos (by omega)]); (try with_reducible rfl)⟩) ((Below.refl _ _).drew) ?_
      try simp only [Act.put, List.setIfInBounds_toArray, List.set_cons_zero, List.set_cons_succ]
      refine WpT.take (i := 9) rfl (by kernel_rfl) (fun _ _ _ h => h) (.inl ⟨by rfl, fun w hSw => by clear hSw; go_simp; (try go_bits); (try rw [if_pos (by omega)]); (try with_reducible rfl)⟩) ((Below.refl _ _).drew) ?_
      try simp only [Act.put, List.setIfInBounds_toArray, List.set_cons_zero, List.set_cons_succ]
      refine WpT.take (i := 10) rfl (by kernel_rfl) (fun _ _ _ h => h) (.inl ⟨by rfl, fun w hSw => by clear hSw; go_simp; (try go_bits); (try rw [if_pos (by omega)]); (try with_reducible rfl)⟩) ((Below.refl _ _).drew) ?_
      try simp only [Act.put, List.setIfInBounds_toArray, List.set_cons_zero, List.set_cons_succ]
      refine WpT.take (i := 11) rfl (by kernel_rfl) (fun _ _ _ h => h) (.inl ⟨by rfl, fun w hSw => by clear hSw; go_simp; (try go_bits); (try rw [if_pos (by omega)]); (try with_reducible rfl)⟩) ((Below.refl _ _).drew) ?_
      try simp only [Act.put, List.setIfInBounds_toArray, List.set_cons_zero, List.set_cons_succ]
      refine WpT.take (i := 12) rfl (by kernel_rfl) (fun _ _ _ h => h) (.inl ⟨by rfl, fun w hSw => by clear hSw; go_simp; (try go_bits); (try rw [if_pos (by omega)]); (try with_reducible rfl)⟩) ((Below.refl _ _).drew) ?_
      try simp only [Act.put, List.setIfInBounds_toArray, List.set_cons_zero, List.set_cons_succ]
      refine WpT.take (i := 13) rfl (by kernel_rfl) (fun _ _ _ h => h) (.inl ⟨by rfl, fun w hSw => by clear hSw; go_simp; (try go_bits); (try rw [if_pos (by omega)]); (try with_reducible rfl)⟩) ((Below.refl _ _).drew) ?_
      try simp only [Act.put, List.setIfInBounds_toArray, List.set_cons_zero, List.set_cons_succ]
      refine WpT.take (i := 14) rfl (by kernel_rfl) (fun _ _ _ h => h) (yields_load rfl rfl rfl (by kernel_rfl) (by assumption)) ((Below.refl _ _).drew) ?_
      try simp only [Act.put, List.setIfInBounds_toArray, List.set_cons_zero, List.set_cons_succ]
      refine WpT.take (i := 15) rfl (by kernel_rfl) (fun _ _ _ h => h) (.inl ⟨by rfl, fun w hSw => by clear hSw; go_simp; (try go_bits); (try rw [if_pos (by omega)]); (try with_reducible rfl)⟩) ((Below.refl _ _).drew) ?_
      try simp only [Act.put, List.setIfInBounds_toArray, List.set_cons_zero, List.set_cons_succ]
      refine WpT.take (i := 16) rfl (by kernel_rfl) (fun _ _ _ h => h) (yields_gap (lo := lo) (hi := hi) (n := x) rfl rfl rfl rfl rfl) ((Below.refl _ _).drew) ?_
      try simp only [Act.put, List.setIfInBounds_toArray, List.set_cons_zero, List.set_cons_succ]
      refine WpT.take (i := 17) rfl (by kernel_rfl) (fun _ _ _ h => h) (.inl ⟨by rfl, fun w hSw => by clear hSw; go_simp; (try go_bits); (try rw [if_pos (by omega)]); (try with_reducible rfl)⟩) ((Below.refl _ _).drew) ?_
      try simp only [Act.put, List.setIfInBounds_toArray, List.set_cons_zero, List.set_cons_succ]
      refine WpT.take (i := 18) rfl (by kernel_rfl) (fun _ _ _ h => h) (.inl ⟨by rfl, fun w hSw => by clear hSw; go_simp; (try go_bits); (try rw [if_pos (by omega)]); (try with_reducible rfl)⟩) ((Below.refl _ _).drew) ?_
      try simp only [Act.put, List.setIfInBounds_toArray, List.set_cons_zero, List.set_cons_succ]
      refine WpT.take (i := 19) rfl (by kernel_rfl) (fun _ _ _ h => h) (.inl ⟨by rfl, fun w hSw => by clear hSw; go_simp; (try go_bits); (try rw [if_pos (by omega)]); (try with_reducible rfl)⟩) ((Below.refl _ _).drew) ?_
      try simp only [Act.put, List.setIfInBounds_toArray, List.set_cons_zero, List.set_cons_succ]
      refine WpT.take (i := 20) rfl (by kernel_rfl) (fun _ _ _ h => h) (yields_load rfl rfl rfl (by kernel_rfl) (by assumption)) ((Below.refl _ _).drew) ?_
      try simp only [Act.put, List.setIfInBounds_toArray, List.set_cons_zero, List.set_cons_succ]
      refine WpT.one (i := 21) rfl (by kernel_rfl) (fun K hK => ?_)
      go_simp; refine (gapEuclid_any (gap lo hi x) L l.length c' l _ (by exact hrl.below hS0) HLL.out (HL.out.le l HM.out) (HS0.out l HM.out) HG.out.1 HG.out.2).mono ?_; rintro e w2 ⟨rfl, hb2⟩; have hS2 := bstep hS0 hb2
      refine hK _ _ (hS2) ?_; clear hK K; try simp only [Act.put, List.setIfInBounds_toArray, List.set_cons_zero, List.set_cons_succ]
      refine WpT.take (i := 22) rfl (by kernel_rfl) (fun _ _ _ h => h) (yields_max2 rfl rfl rfl rfl) (hS2) ?_
      try simp only [Act.put, List.setIfInBounds_toArray, List.set_cons_zero, List.set_cons_succ]
      refine WpT.tail (i := 23) rfl (by kernel_rfl) (by kernel_rfl) (fun K hK => ?_)
      go_simp; (try go_bits)
      refine hK _ _ ?_; clear hK K; try simp only [Act.put, List.setIfInBounds_toArray, List.set_cons_zero, List.set_cons_succ]
      refine WpT.done (by kernel_rfl) ?_ _
      go_wp2_with fail
      refine ⟨⟨k + 1, by omega, by go_num, ?_, bstep hbw hS2⟩, by simp [intOf]; omega⟩
      rw [HS.out, HO.out]
    · obtain rfl : k = n1' := by omega
      have HT := Lib.hid (show ls.take k = ls by rw [List.take_of_length_le (by have := HLa.out; omega)])
      have HT2 := Lib.hid (show rs.take k = rs by rw [List.take_of_length_le (by have := HLr.out; omega)])
      rw [HT.out, HT2.out]
      go_wp2
      go_ret
      exact ⟨rfl, hbw0⟩
set_option maxRecDepth 20000 in
set_option maxHeartbeats 4000000 in
theorem bound3_any (A : Option Addr) (n c : Nat) (ls : List (List Int)) (R : Option Addr) (cr : Nat) (rs : List (Int × Int)) (B : Option Addr) (m d : Nat) (b : List Int) (w : World) (ha : RdR w A n ls) (hr : RdP w R n rs) (hb : Rd w B m (iv b))
    (hn : n ≤ 1000) (hm : m ≤ 64) (hL : LinesOk ls m) (hS : ∀ l ∈ ls, some0 l) (hR : PairsOk rs) (hB : ∀ y ∈ b, ab y ≤ 1000) :
    Calls Tryd.prog 32 #[.int .i64 3, .slice A n c, .slice R n cr, .slice B m d] w fun e w' => e = .returned (.int .i64 (bound 3 ls rs b)) ∧ Below w.heap.size w w' := by
  have HLa := Lib.hid ha.len
  have HLr := Lib.hid hr.len
  have HLb := Lib.hid (show b.length = m by have := hb.len; simpa using this)
  have HL := Lib.hid hL
  have HS0 := Lib.hid hS
  have HR := Lib.hid hR
  have HB := Lib.hid hB
  clear hL hS hR hB
  go_enter Tryd.func32, Tryd.ntmps32
  go_wp2_with fail
  refine (apply_any A n c ls B m d b _ ha hb hn hm HL.out HB.out).mono ?_
  rintro e w1 ⟨v, rfl, hown, hb1⟩
  obtain ⟨A1, n1', c1, rfl, hn1, hn1c, hc1, hrs⟩ := hown.formN
  have hn2 : n1' = n := by have := hn1.out; have := HLa.out; simp [apply] at *; omega
  subst hn2
  clear hn1 hown
  go_wp2_with fail
  go_loopw [10, 11, 12, 22] (fun o _ _ j wr => ∃ k : Nat, k ≤ n1' ∧ j = .int .i64 k ∧ o = .int .i64 (bound 3 (ls.take k) (rs.take k) b) ∧ Below w1.heap.size w1 wr) (fun _ _ _ j _ => n1' - (intOf j).toNat)
  case atStart => exact ⟨0, Nat.zero_le _, rfl, by simp [bound], Below.refl _ _⟩
  case round =>
    obtain ⟨k, hk, rfl, rfl, hbw⟩ := hrel
    have hbw0 := bstep hb1 hbw
    by_cases hlt : k < n1'
    · have HA := Lib.hid (getElem_apply ls b k (by have := HLa.out; simp [apply]; omega))
      obtain ⟨sd, rfl, hsc⟩ := (hrs.below hbw).int hlt (by have := HLa.out; simp [apply]; omega)
      rw [HA.out] at hsc
      obtain ⟨ad, L, c', rfl, hc, hlc, hcm, hrl⟩ := (ha.below hbw0).row k (by have := HLa.out; omega)
      obtain ⟨rd, rfl, hr0, hr1⟩ := (hr.below hbw0).get k (by have := HLr.out; omega)
      have HS := Lib.hid (bound_step 3 b ls rs k (by have := HLa.out; omega) (by have := HLr.out; omega))
      have HM := Lib.hid (List.getElem_mem (show k < ls.length by have := HLa.out; omega))
      have HMr := HR.out _ (List.getElem_mem (show k < rs.length by have := HLr.out; omega))
      generalize ls[k]'(by have := HLa.out; omega) = l at *
      generalize rs[k]'(by have := HLr.out; omega) = r at *
      obtain ⟨lo, hi⟩ := r
      dsimp only at *
      obtain ⟨hlo1, hlo2, hhi1, hhi2⟩ := HMr
      have hd := dot_small l b (by have := HL.out.len l HM.out; omega) (HL.out.le l HM.out) HB.out
      have HG := Lib.hid (gap_small (n := dot l b) hlo2 hhi1 hd)
      have HO := Lib.hid (show one 3 l lo hi (dot l b) = up (gap lo hi (dot l b)) (n1 l) from rfl)
      generalize dot l b = x at *
      have hd2 : -64000000 ≤ x ∧ x ≤ 64000000 := by unfold ab at hd; omega
      obtain ⟨hd3, hd4⟩ := hd2
      clear hd
      have HLL := Lib.hid (show l.length ≤ 64 by have := HL.out.len l HM.out; omega)
      clear HA
      go_wp2_with fail
      have hS0 : Below wr.heap.size wr wr.drew := (Below.refl _ wr).drew
      refine wp_region_T 23 (by kernel_rfl) ?_
      -- region 11: 24 operations, tail from 23
      refine WpT.take (i := 0) rfl (by kernel_rfl) (fun _ _ _ h => h) (.inl ⟨by rfl, fun w hSw => by clear hSw; go_simp; (try go_bits); (try rw [if_pos (by omega)]); (try with_reducible rfl)⟩) ((Below.refl _ _).drew) ?_
      try simp only [Act.put, List.setIfInBounds_toArray, List.set_cons_zero, List.set_cons_succ]
      refine WpT.take (i := 1) rfl (by kernel_rfl) (fun _ _ _ h => h) (.inl ⟨by rfl, fun w hSw => by clear hSw; go_simp; (try go_bits); (try rw [if_pos (by omega)]); (try with_reducible rfl)⟩) ((Below.refl _ _).drew) ?_
      try simp only [Act.put, List.setIfInBounds_toArray, List.set_cons_zero, List.set_cons_succ]
      refine WpT.take (i := 2) rfl (by kernel_rfl) (fun _ _ _ h => h) (.inl ⟨by rfl, fun w hSw => by clear hSw; go_simp; (try go_bits); (try rw [if_pos (by omega)]); (try with_reducible rfl)⟩) ((Below.refl _ _).drew) ?_
      try simp only [Act.put, List.setIfInBounds_toArray, List.set_cons_zero, List.set_cons_succ]
      refine WpT.take (i := 3) rfl (by kernel_rfl) (fun _ _ _ h => h) (.inl ⟨by rfl, fun w hSw => by clear hSw; go_simp; (try go_bits); (try rw [if_pos (by omega)]); (try with_reducible rfl)⟩) ((Below.refl _ _).drew) ?_
      try simp only [Act.put, List.setIfInBounds_toArray, List.set_cons_zero, List.set_cons_succ]
      refine WpT.take (i := 4) rfl (by kernel_rfl) (fun _ _ _ h => h) (.inl ⟨by rfl, fun w hSw => by clear hSw; go_simp; (try go_bits); (try rw [if_pos (by omega)]); (try with_reducible rfl)⟩) ((Below.refl _ _).drew) ?_
      try simp only [Act.put, List.setIfInBounds_toArray, List.set_cons_zero, List.set_cons_succ]
      refine WpT.take (i := 5) rfl (by kernel_rfl) (fun _ _ _ h => h) (.inl ⟨by rfl, fun w hSw => by clear hSw; go_simp; (try go_bits); (try rw [if_pos (by omega)]); (try with_reducible rfl)⟩) ((Below.refl _ _).drew) ?_
      try simp only [Act.put, List.setIfInBounds_toArray, List.set_cons_zero, List.set_cons_succ]
      refine WpT.take (i := 6) rfl (by kernel_rfl) (fun _ _ _ h => h) (yields_load rfl rfl rfl (by kernel_rfl) (by assumption)) ((Below.refl _ _).drew) ?_
      try simp only [Act.put, List.setIfInBounds_toArray, List.set_cons_zero, List.set_cons_succ]
      refine WpT.take (i := 7) rfl (by kernel_rfl) (fun _ _ _ h => h) (.inl ⟨by rfl, fun w hSw => by clear hSw; go_simp; (try go_bits); (try rw [if_pos (by omega)]); (try with_reducible rfl)⟩) ((Below.refl _ _).drew) ?_
      try simp only [Act.put, List.setIfInBounds_toArray, List.set_cons_zero, List.set_cons_succ]
      refine WpT.take (i := 8) rfl (by kernel_rfl) (fun _ _ _ h => h) (.inl ⟨by rfl, fun w hSw => by clear hSw; go_simp; (try go_bits); (try rw [if_pos (by omega)]); (try with_reducible rfl)⟩) ((Below.refl _ _).drew) ?_
      try simp only [Act.put, List.setIfInBounds_toArray, List.set_cons_zero, List.set_cons_succ]
      refine WpT.take (i := 9) rfl (by kernel_rfl) (fun _ _ _ h => h) (.inl ⟨by rfl, fun w hSw => by clear hSw; go_simp; (try go_bits); (try rw [if_pos (by omega)]); (try with_reducible rfl)⟩) ((Below.refl _ _).drew) ?_
      try simp only [Act.put, List.setIfInBounds_toArray, List.set_cons_zero, List.set_cons_succ]
      refine WpT.take (i := 10) rfl (by kernel_rfl) (fun _ _ _ h => h) (.inl ⟨by rfl, fun w hSw => by clear hSw; go_simp; (try go_bits); (try rw [if_pos (by omega)]); (try with_reducible rfl)⟩) ((Below.refl _ _).drew) ?_
      try simp only [Act.put, List.setIfInBounds_toArray, List.set_cons_zero, List.set_cons_succ]
      refine WpT.take (i := 11) rfl (by kernel_rfl) (fun _ _ _ h => h) (.inl ⟨by rfl, fun w hSw => by clear hSw; go_simp; (try go_bits); (try rw [if_pos (by omega)]); (try with_reducible rfl)⟩) ((Below.refl _ _).drew) ?_
      try simp only [Act.put, List.setIfInBounds_toArray, List.set_cons_zero, List.set_cons_succ]
      refine WpT.take (i := 12) rfl (by kernel_rfl) (fun _ _ _ h => h) (.inl ⟨by rfl, fun w hSw => by clear hSw; go_simp; (try go_bits); (try rw [if_pos (by omega)]); (try with_reducible rfl)⟩) ((Below.refl _ _).drew) ?_
      try simp only [Act.put, List.setIfInBounds_toArray, List.set_cons_zero, List.set_cons_succ]
      refine WpT.take (i := 13) rfl (by kernel_rfl) (fun _ _ _ h => h) (.inl ⟨by rfl, fun w hSw => by clear hSw; go_simp; (try go_bits); (try rw [if_pos (by omega)]); (try with_reducible rfl)⟩) ((Below.refl _ _).drew) ?_
      try simp only [Act.put, List.setIfInBounds_toArray, List.set_cons_zero, List.set_cons_succ]
      refine WpT.take (i := 14) rfl (by kernel_rfl) (fun _ _ _ h => h) (yields_load rfl rfl rfl (by kernel_rfl) (by assumption)) ((Below.refl _ _).drew) ?_
      try simp only [Act.put, List.setIfInBounds_toArray, List.set_cons_zero, List.set_cons_succ]
      refine WpT.take (i := 15) rfl (by kernel_rfl) (fun _ _ _ h => h) (.inl ⟨by rfl, fun w hSw => by clear hSw; go_simp; (try go_bits); (try rw [if_pos (by omega)]); (try with_reducible rfl)⟩) ((Below.refl _ _).drew) ?_
      try simp only [Act.put, List.setIfInBounds_toArray, List.set_cons_zero, List.set_cons_succ]
      refine WpT.take (i := 16) rfl (by kernel_rfl) (fun _ _ _ h => h) (yields_gap (lo := lo) (hi := hi) (n := x) rfl rfl rfl rfl rfl) ((Below.refl _ _).drew) ?_
      try simp only [Act.put, List.setIfInBounds_toArray, List.set_cons_zero, List.set_cons_succ]
      refine WpT.take (i := 17) rfl (by kernel_rfl) (fun _ _ _ h => h) (.inl ⟨by rfl, fun w hSw => by clear hSw; go_simp; (try go_bits); (try rw [if_pos (by omega)]); (try with_reducible rfl)⟩) ((Below.refl _ _).drew) ?_
      try simp only [Act.put, List.setIfInBounds_toArray, List.set_cons_zero, List.set_cons_succ]
      refine WpT.take (i := 18) rfl (by kernel_rfl) (fun _ _ _ h => h) (.inl ⟨by rfl, fun w hSw => by clear hSw; go_simp; (try go_bits); (try rw [if_pos (by omega)]); (try with_reducible rfl)⟩) ((Below.refl _ _).drew) ?_
      try simp only [Act.put, List.setIfInBounds_toArray, List.set_cons_zero, List.set_cons_succ]
      refine WpT.take (i := 19) rfl (by kernel_rfl) (fun _ _ _ h => h) (.inl ⟨by rfl, fun w hSw => by clear hSw; go_simp; (try go_bits); (try rw [if_pos (by omega)]); (try with_reducible rfl)⟩) ((Below.refl _ _).drew) ?_
      try simp only [Act.put, List.setIfInBounds_toArray, List.set_cons_zero, List.set_cons_succ]
      refine WpT.take (i := 20) rfl (by kernel_rfl) (fun _ _ _ h => h) (yields_load rfl rfl rfl (by kernel_rfl) (by assumption)) ((Below.refl _ _).drew) ?_
      try simp only [Act.put, List.setIfInBounds_toArray, List.set_cons_zero, List.set_cons_succ]
      refine WpT.one (i := 21) rfl (by kernel_rfl) (fun K hK => ?_)
      go_simp; refine (gapMost_any (gap lo hi x) L l.length c' l _ (by exact hrl.below hS0) HLL.out (HL.out.le l HM.out) (HS0.out l HM.out) HG.out.1 HG.out.2).mono ?_; rintro e w2 ⟨rfl, hb2⟩; have hS2 := bstep hS0 hb2
      refine hK _ _ (hS2) ?_; clear hK K; try simp only [Act.put, List.setIfInBounds_toArray, List.set_cons_zero, List.set_cons_succ]
      refine WpT.take (i := 22) rfl (by kernel_rfl) (fun _ _ _ h => h) (yields_max2 rfl rfl rfl rfl) (hS2) ?_
      try simp only [Act.put, List.setIfInBounds_toArray, List.set_cons_zero, List.set_cons_succ]
      refine WpT.tail (i := 23) rfl (by kernel_rfl) (by kernel_rfl) (fun K hK => ?_)
      go_simp; (try go_bits)
      refine hK _ _ ?_; clear hK K; try simp only [Act.put, List.setIfInBounds_toArray, List.set_cons_zero, List.set_cons_succ]
      refine WpT.done (by kernel_rfl) ?_ _
      go_wp2_with fail
      refine ⟨⟨k + 1, by omega, by go_num, ?_, bstep hbw hS2⟩, by simp [intOf]; omega⟩
      rw [HS.out, HO.out]
    · obtain rfl : k = n1' := by omega
      have HT := Lib.hid (show ls.take k = ls by rw [List.take_of_length_le (by have := HLa.out; omega)])
      have HT2 := Lib.hid (show rs.take k = rs by rw [List.take_of_length_le (by have := HLr.out; omega)])
      rw [HT.out, HT2.out]
      go_wp2
      go_ret
      exact ⟨rfl, hbw0⟩
end Go.Proofs.YtcehaojohfbfkaaDoor
