/-
  The library's Backward over keys: what it hands a loop's body. Conditions: none.
-/
import Derived.RangeFuncNested
import Derived.RangeFuncBound
import Derived.RangeFuncCalls
import Derived.RangeFuncLeaves
import Derived.Shelf.Abstract
import Derived.Shelf.RegionOpen
import Derived.WalkKit
import Derived.OwnWalkIn
import Derived.TacticsInMore
import Derived.LoopNIn
import Derived.LoopIn
import Derived.Test.YtfnpeclomcnpeaaDoorAd
namespace Go.Proofs.YtfnpeclomcnpeaaDoor
set_option linter.unusedSimpArgs false
set_option linter.unusedVariables false
open Go.RowKit Ring Go.Shelf
attribute [local go_sem] Oper.semAt_some
section
variable {F : Fence} {n : Nat} {P : Program} {w : World} {ops : Array Oper} {rest : List Oper} {o : Oper} {a : Act} {Q : Exit → Act → World → Prop}
theorem wpListIn_loadC (hgd : o.guard = none) {t : TypeId} {x : Operand} (ho : o.op = .load t x) {p : Addr} (ha : a.eval x = .pointer (some p)) {us : List Value}
    (hu : (P.underlying t).map isAggDesc = some true) (hi : (P.info? t).map (·.size) = some us.length) (hc : ∀ j u, us[j]? = some u → w.cell? (p.add j) = some u) (h : wpListIn F n P ops Q rest (a.put o.dst (.agg us.toArray)) w) : wpListIn F n P ops Q (o :: rest) a w := by
  refine wpListIn_plain hgd fun K hK => ?_
  unfold Oper.wpIn
  refine ⟨by simp [Oper.about, ho], ?_⟩
  rw [Oper.semAt_plain F _ _ (by rw [ho]; intro c hc'; cases hc')]
  unfold execOp
  simp only [ho, ha, Instr.loadAt, Instr.sureAddr, Sem.run_bind, Sem.run_pure, Result.andThen_ok, run_loadK (w := w) hu hi hc]
  exact hK _ _ h
theorem wpListIn_loadB (hgd : o.guard = none) {ty : TypeId} {x : Operand} (ho : o.op = .load ty x) {g : Nat} (hx : a.eval x = .pointer (some ⟨g, 0, none⟩)) {T : TypeId} {cs : Array Value} (hb : Blk w g T cs)
    (hu : (P.underlying ty).map isAggDesc = some true) (hi : (P.info? ty).map (·.size) = some cs.size) (h : wpListIn F n P ops Q rest (a.put o.dst (.agg cs)) w) : wpListIn F n P ops Q (o :: rest) a w := by
  refine wpListIn_plain hgd fun K hK => ?_
  unfold Oper.wpIn
  refine ⟨by simp [Oper.about, ho], ?_⟩
  rw [Oper.semAt_plain F _ _ (by rw [ho]; intro c hc'; cases hc')]
  unfold execOp
  simp only [ho, hx, Instr.loadAt, Instr.sureAddr, Sem.run_bind, Sem.run_pure, Result.andThen_ok, run_loadVar_blk w g T ty cs hb hu hi]
  exact hK _ _ h
theorem wpListIn_storeB (hgd : o.guard = none) {ty : TypeId} {x y : Operand} (ho : o.op = .store ty x y) {g : Nat} (hx : a.eval x = .pointer (some ⟨g, 0, none⟩)) {T : TypeId} {cs vs : Array Value} (hy : a.eval y = .agg vs) (hb : Blk w g T cs) (hs : vs.size = cs.size)
    (hi : (P.info? ty).map (·.size) = some vs.size) (h1 : vs.all (·.oneCell') = true)
    (h : ∀ w', w' = w.setCells g 0 vs.toList → Blk w' g T vs → Below g w w' → wpListIn F n P ops Q rest (a.put o.dst undef) w') : wpListIn F n P ops Q (o :: rest) a w := by
  refine wpListIn_plain hgd fun K hK => ?_
  unfold Oper.wpIn
  refine ⟨by simp [Oper.about, ho], ?_⟩
  rw [Oper.semAt_plain F _ _ (by rw [ho]; intro c hc'; cases hc')]
  unfold execOp
  simp only [ho, hx, hy, Instr.storeAt, Instr.sureAddr, Sem.run_bind, Sem.run_pure, Result.andThen_ok, run_storeVar_mid w g 0 ty vs (hb.there (by omega)) hi h1]
  exact hK _ _ (h _ rfl (hb.all vs hs) (below_setCells (Below.refl _ _) (Nat.le_refl _) 0 _))
theorem wpListIn_loadKy {o : Oper} {rest : List Oper} (hgd : o.guard = none) {x : Operand} (ho : o.op = .load 24 x) {p : Addr} (ha : a.eval x = .pointer (some p)) {k : Key}
    (hc : ∀ j u, (kv k)[j]? = some u → w.cell? (p.add j) = some u) (h : wpListIn F n Tryd.prog ops Q rest (a.put o.dst (.agg (keyC k))) w) : wpListIn F n Tryd.prog ops Q (o :: rest) a w :=
  wpListIn_loadC (us := kv k) hgd ho ha aggKy sizeKy hc h
end
/-- What has come when k rounds are over. -/
def upto {α : Type} (f : Nat → α) (k : Nat) : List α := (List.range k).map f
theorem upto_succ {α : Type} (f : Nat → α) (k : Nat) : upto f (k + 1) = upto f k ++ [f k] := by simp [upto, List.range_succ]
theorem upto_length {α : Type} (f : Nat → α) (k : Nat) : (upto f k).length = k := by simp [upto]
/-- A key whose days can be counted. -/
abbrev KeyT := { k : Key // 0 < k.til ∧ k.til ≤ 1048577 }
/-- What Backward hands on: the place, the key. -/
def bwAt (m : Nat) (L : Nat → KeyT) (j : Nat) : Nat × KeyT := (m - 1 - j, L (m - 1 - j))
set_option maxRecDepth 100000 in
set_option maxHeartbeats 2000000 in
theorem backward1_in (F : Fence) (n : Nat) (h7 : F.fn 51) (hro : F.round = none) (hn : 1 ≤ n) (l Bs n₀ : Nat) (A : Option Addr) (m cap : Nat) (hm : m ≤ 1000) (hmc : m ≤ cap) (hcap : cap ≤ 9223372036854775807) (L : Nat → KeyT)
    (J Jx : List (Nat × KeyT) → World → Prop)
    (hY : ∀ pre x W, J pre W → pre.length < m → YieldAt F (n - 1) Tryd.prog l #[.int .i64 (x.1 : Int), keyV x.2.1] W fun e W' =>
      (e = .returned (.bool true) ∧ J (pre ++ [x]) W' ∧ Below n₀ W W') ∨ (e = .returned (.bool false) ∧ Jx (pre ++ [x]) W'))
    (W : World) (hBn : Bs < n₀) (hBs : W.cell? ⟨Bs, 0, none⟩ = some (.slice A m cap)) (hc : ∀ W', Below n₀ W W' → ∀ i, i < m → ∃ ad, A = some ad ∧ ∀ j u, (kv (L i).1)[j]? = some u → W'.cell? ((ad.add (i * 5)).add j) = some u) (h0 : J [] W) :
    CallsIn F n Tryd.prog 51 #[.func (.yield l) #[] #[], .pointer (some ⟨Bs, 0, none⟩)] W fun e W' => (∃ v, e = .returned v) ∧
      ((∃ ys, ys = upto (bwAt m L) m ∧ J ys W') ∨ (∃ pre, (∃ k, k ≤ m ∧ pre = upto (bwAt m L) k) ∧ Jx pre W')) := by
  refine callsIn_of_wp Tryd.func51 rfl h7 ?_ hro
  simp only [Tryd.ntmps51, List.size_toArray, List.length_cons, List.length_nil, Nat.reduceAdd, Nat.reduceSub, Array.replicate_succ, Array.replicate_zero, List.push_toArray, List.append_toArray, List.nil_append, List.cons_append]
  gi_wp2
  gi_loopw [3] (fun i wr => ∃ q : Nat, q ≤ m ∧ i = .int .i64 ((q : Int) - 1) ∧ J (upto (bwAt m L) (m - q)) wr ∧ Below n₀ W wr)
    (fun i _ => (intOf i + 1).toNat)
  case atStart => exact ⟨m, Nat.le_refl _, rfl, by rw [Nat.sub_self]; exact h0, Below.refl _ _⟩
  case round =>
    obtain ⟨q, hq, rfl, hJs, hnx⟩ := hrel
    rcases q with _ | q
    · gi_wp2
      go_end0
      exact ⟨⟨_, rfl⟩, .inl ⟨_, rfl, by simpa using hJs⟩⟩
    · obtain ⟨ad, rfl, hcc⟩ := hc wr hnx q (by omega)
      have hBs' : wr.cell? ⟨Bs, 0, none⟩ = some (.slice (some ad) m cap) := (hnx.cell (p := ⟨Bs, 0, none⟩) hBn).trans hBs
      obtain ⟨fn, tmps, assign, body, hy, hR⟩ := hY _ (q, L q) wr hJs (by rw [upto_length]; omega)
      have hup : upto (bwAt m L) (m - (q + 1)) ++ [(q, L q)] = upto (bwAt m L) (m - q) := by
        rw [show m - q = m - (q + 1) + 1 by omega, upto_succ]
        have e : bwAt m L (m - (q + 1)) = (q, L q) := by unfold bwAt; rw [show m - 1 - (m - (q + 1)) = q by omega]
        rw [e]
      rw [hup] at hR
      dsimp only at hy
      generalize (L q).1 = x at *
      have e1 : (((q + 1 : Nat) : Int) - 1) = q := by omega
      rw [e1]
      clear e1 hup hY hc
      have hqm : q < m := by omega
      gi_wp2_with (refine wpListIn_loadKy (k := x) rfl rfl rfl hcc ?_)
      refine hR.mono ?_
      rintro e W3 (⟨rfl, hJ3, hk3⟩ | ⟨rfl, hJx3⟩)
      · gi_wp2
        go_roundw
        case rel => exact ⟨q, by omega, rfl, hJ3, hnx.trans hk3⟩
        case measure => simp [intOf]
      · gi_wp2
        refine bodyPost_ret (results_none rfl _ _ _) rfl ?_
        exact ⟨⟨_, rfl⟩, .inr ⟨_, ⟨m - q, by omega, rfl⟩, hJx3⟩⟩
end Go.Proofs.YtfnpeclomcnpeaaDoor
