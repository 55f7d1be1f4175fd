/-
  The frames that an outbox has to send: plainly, and as frames hands them on. Conditions: none.
-/
import Derived.RangeFuncNested
import Derived.RangeFuncBound
import Derived.RangeFuncCalls
import Derived.RangeFuncLeaves
import Derived.Shelf.Abstract
import Derived.Shelf.RegionOpen
import Derived.WalkKit
import Derived.OwnWalkIn
import Derived.TacticsInMore
import Derived.LoopNIn
import Derived.LoopIn
import Derived.Test.YtecklplohgfohaaLx
namespace Go.Proofs.Ytecklplohgfohaa
set_option linter.unusedSimpArgs false
set_option linter.unusedVariables false
open Go.RowKit Link Go.Shelf
attribute [local go_sem] Oper.semAt_some
theorem msgs_len : ∀ (l : List ByteArray) (n : Int), (msgs n l).length = l.length
  | [], _ => rfl
  | b :: l, n => by simp [msgs, msgs_len l (n + 1)]
theorem msgs_get : ∀ (l : List ByteArray) (n : Int) (j : Nat) (h : j < l.length), (msgs n l)[j]? = some ⟨false, n + j, l[j]⟩
  | b :: l, n, 0, _ => by simp [msgs]
  | b :: l, n, j + 1, h => by
    have := msgs_get l (n + 1) j (by simpa using h)
    simp only [msgs, List.getElem?_cons_succ, this, List.getElem_cons_succ]
    congr 2
    omega
theorem fa_lt {o : Ob} (h : o.acked < o.base) : framesAll o = ⟨true, o.base, o.summary⟩ :: msgs o.base o.queue := by
  have hm : max o.acked o.base = o.base := by omega
  unfold framesAll
  rw [if_pos h, hm, Int.sub_self]
  rfl
theorem fa_ge {o : Ob} (h : ¬ o.acked < o.base) : framesAll o = msgs o.acked (o.queue.drop (o.acked - o.base).toNat) := by
  have hm : max o.acked o.base = o.acked := by omega
  unfold framesAll
  rw [if_neg h, hm]
  rfl
section
variable {F : Fence} {n : Nat} {P : Program} {w : World} {ops : Array Oper} {rest : List Oper} {o : Oper} {a : Act} {Q : Exit → Act → World → Prop}
theorem wpListIn_loadB (hgd : o.guard = none) {ty : TypeId} {x : Operand} (ho : o.op = .load ty x) {g : Nat} (hx : a.eval x = .pointer (some ⟨g, 0, none⟩)) {T : TypeId} {cs : Array Value} (hb : Blk w g T cs)
    (hu : (P.underlying ty).map isAggDesc = some true) (hi : (P.info? ty).map (·.size) = some cs.size) (h : wpListIn F n P ops Q rest (a.put o.dst (.agg cs)) w) : wpListIn F n P ops Q (o :: rest) a w := by
  refine wpListIn_plain hgd fun K hK => ?_
  unfold Oper.wpIn
  refine ⟨by simp [Oper.about, ho], ?_⟩
  rw [Oper.semAt_plain F _ _ (by rw [ho]; intro c hc'; cases hc')]
  unfold execOp
  simp only [ho, hx, Instr.loadAt, Instr.sureAddr, Sem.run_bind, Sem.run_pure, Result.andThen_ok, run_loadVar_blk w g T ty cs hb hu hi]
  exact hK _ _ h
theorem wpListIn_put (hgd : o.guard = none) {ty : TypeId} {x y : Operand} (ho : o.op = .store ty x y) {g : Nat} (hx : a.eval x = .pointer (some ⟨g, 0, none⟩)) {T : TypeId} {cs vs : Array Value} (hy : a.eval y = .agg vs) (hb : Blk w g T cs) (hs : vs.size = cs.size)
    (hi : (P.info? ty).map (·.size) = some vs.size) (h1 : vs.all (·.oneCell') = true)
    (h : ∀ w', Turned g w w' → Blk w' g T vs → wpListIn F n P ops Q rest (a.put o.dst undef) w') : wpListIn F n P ops Q (o :: rest) a w := by
  refine wpListIn_plain hgd fun K hK => ?_
  unfold Oper.wpIn
  refine ⟨by simp [Oper.about, ho], ?_⟩
  rw [Oper.semAt_plain F _ _ (by rw [ho]; intro c hc'; cases hc')]
  unfold execOp
  simp only [ho, hx, hy, Instr.storeAt, Instr.sureAddr, Sem.run_bind, Sem.run_pure, Result.andThen_ok, run_storeVar_mid w g 0 ty vs (hb.there (by omega)) hi h1]
  exact hK _ _ (h _ (Turned.of_setCells _ _ _ _) (hb.all vs hs))
end
theorem grown_of_below {w w' : World} (h : Below w.heap.size w w') : w.grownBy w' none := ⟨h.os, h.tape, h.output, h.size, fun k hk _ => h.block k hk⟩
/-- What has been handed on when the messages up to place p are. -/
def toP (L : List Fr) (s0 d p : Nat) : List Fr := L.take (s0 + (p - d))
structure ToOk (L : List Fr) (q : List ByteArray) (b : Int) (s0 d n : Nat) : Prop where
  dn : d ≤ n
  step : ∀ p, d ≤ p → (h : p < q.length) → toP L s0 d p ++ [⟨false, b + p, q[p]⟩] = toP L s0 d (p + 1)
  lt : ∀ p, d ≤ p → p < n → (toP L s0 d p).length < L.length
  all : toP L s0 d n = L
theorem toP_take (L : List Fr) (s0 d p : Nat) : ∃ k, k ≤ L.length ∧ toP L s0 d p = L.take k := by
  refine ⟨min (s0 + (p - d)) L.length, by omega, ?_⟩
  unfold toP
  rw [List.take_eq_take_min]
theorem toOk_of {L : List Fr} {q : List ByteArray} {b : Int} {s0 d n : Nat} (hn : q.length = n) (hd : d ≤ n) (hl : L.length = s0 + (n - d)) (hg : ∀ p, d ≤ p → (h : p < q.length) → L[s0 + (p - d)]? = some ⟨false, b + p, q[p]⟩) : ToOk L q b s0 d n := by
  refine ⟨hd, fun p h1 h2 => ?_, fun p h1 hp => ?_, ?_⟩
  · have h3 := hg p h1 h2
    have h4 : s0 + (p - d) < L.length := (List.getElem?_eq_some_iff.1 h3).1
    unfold toP
    rw [show s0 + (p + 1 - d) = s0 + (p - d) + 1 by omega, List.take_add_one, h3]
    rfl
  · unfold toP
    rw [List.length_take]
    omega
  · unfold toP
    exact List.take_of_length_le (by omega)
theorem toOk_lt {o : Ob} (h : o.acked < o.base) {n : Nat} (hn : o.queue.length = n) : ToOk (framesAll o) o.queue o.base 1 0 n := by
  refine toOk_of hn (Nat.zero_le _) (by rw [fa_lt h]; simp [msgs_len, hn]; omega) fun p _ hp => ?_
  rw [fa_lt h, show 1 + (p - 0) = p + 1 by omega, List.getElem?_cons_succ, msgs_get _ _ _ hp]
theorem toOk_ge {o : Ob} (h : ¬ o.acked < o.base) {n : Nat} (hn : o.queue.length = n) {d : Nat} (hd : d ≤ n) (ha : o.acked = o.base + d) : ToOk (framesAll o) o.queue o.base 0 d n := by
  have hd2 : (o.acked - o.base).toNat = d := by omega
  refine toOk_of hn hd (by rw [fa_ge h, msgs_len, hd2, List.length_drop]; omega) fun p h1 hp => ?_
  rw [fa_ge h, hd2, show 0 + (p - d) = p - d by omega, msgs_get _ _ _ (by rw [List.length_drop]; omega)]
  simp only [List.getElem_drop]
  congr 2
  · omega
  · congr 1; omega
set_option maxRecDepth 100000 in
set_option maxHeartbeats 4000000 in
theorem frames1_in (n : Nat) (hn : 1 ≤ n) (l Bs : Nat) (o : Ob) (A : Option Addr) (qn c : Nat) (w0 : World) (hr : RdO w0 o A qn c) (hval : validOut o = true) (Kp : World → World → Prop) (R : World → Prop) (hKp : ∀ W W', Kp W W' → R W → R W')
    (hRb : ∀ W W', R W → Below W.heap.size W W' → R W') (hR : ∀ W, R W → Blk W Bs 24 (obC o A qn c) ∧ Below w0.heap.size w0 W) (J Jx : List Fr → World → Prop) (hJ : ∀ pre W W', J pre W → Below W.heap.size W W' → J pre W')
    (hY : ∀ pre x W, J pre W → pre.length < (framesAll o).length → YieldAt Fence.wide (n - 1) Try.prog l #[frV x] W fun e W' =>
      (e = .returned (.bool true) ∧ J (pre ++ [x]) W' ∧ Kp W W') ∨ (e = .returned (.bool false) ∧ Jx (pre ++ [x]) W'))
    (W : World) (hRW : R W) (h0 : J [] W) :
    CallsIn Fence.wide n Try.prog 48 #[.func (.yield l) #[] #[], .pointer (some ⟨Bs, 0, none⟩)] W fun e W' => (∃ v, e = .returned v) ∧
      ((∃ ys, ys = framesAll o ∧ J ys W') ∨ (∃ pre, (∃ k, k ≤ (framesAll o).length ∧ pre = (framesAll o).take k) ∧ Jx pre W')) := by
  have HE := Lib.hid (fun W => end_any o A qn c W)
  obtain ⟨⟨hB0, hB1⟩, ⟨hA0, hA1, hA2⟩, hQ⟩ := validOut_facts hval
  have HL := Lib.hid hr.len
  rw [HL.out] at hQ
  have hw : wrap64 (o.base + qn) = o.base + qn := by unfold wrap64; omega
  rw [hw] at HE
  have hA3 : o.acked ≤ o.base + qn := by unfold Ob.fin at hA2; rw [HL.out] at hA2; exact hA2
  clear hw hA2
  have HR := Lib.hid hr
  have HRR := Lib.hid hR
  have HRB := Lib.hid hRb
  have HJ := Lib.hid hJ
  have HKP := Lib.hid hKp
  clear hr hR hRb hJ hKp hval
  by_cases hlt : o.acked < o.base
  · have HT := Lib.hid (toOk_lt hlt HL.out)
    have HF1 : Hid ((framesAll o).take 1 = [⟨true, o.base, o.summary⟩]) := Lib.hid (by rw [fa_lt hlt]; rfl)
    have HF2 : Hid (0 < (framesAll o).length) := Lib.hid (by rw [fa_lt hlt]; simp)
    generalize framesAll o = L at *
    obtain ⟨b, k, s, q⟩ := o
    simp only at *
    have d0 : decide (k < b) = true := by simpa using hlt
    obtain ⟨bW, -⟩ := HRR.out _ hRW
    obtain ⟨c0, c1, c2, c3⟩ := bW.ob
    simp only at c0 c1 c2 c3
    obtain ⟨fn, tmps, assign, body, hy, hRd⟩ := hY [] ⟨true, b, s⟩ W h0 HF2.out
    refine callsIn_of_wp Try.func48 rfl trivial ?_ rfl
    simp only [Try.ntmps48, List.size_toArray, List.length_cons, List.length_nil, Nat.reduceAdd, Nat.reduceSub, Array.replicate_succ, Array.replicate_zero, List.push_toArray, List.append_toArray, List.nil_append, List.cons_append]
    gi_wp2_with fail
    refine hRd.mono ?_
    rintro e W3 (⟨rfl, hJ3, hk3⟩ | ⟨rfl, hJx3⟩)
    · have hR3 := HKP.out _ _ hk3 hRW
      have HJ3 : Hid (J (toP L 1 0 0) W3) := Lib.hid (by
        have e : toP L 1 0 0 = [⟨true, b, s⟩] := by unfold toP; exact HF1.out
        rw [e]; exact hJ3)
      clear c0 c1 c2 c3 bW hy hRd hJ3 hk3 h0 hRW
      obtain ⟨bW, -⟩ := HRR.out _ hR3
      obtain ⟨c0, c1, -, -⟩ := bW.ob
      simp only at c0 c1
      gi_wp2_with fail
      gi_loopw [3] (fun i wr => ∃ p : Nat, 0 ≤ p ∧ p ≤ qn ∧ i = .int .i64 (b + p) ∧ J (toP L 1 0 p) wr ∧ R wr) (fun i _ => (b + qn - intOf i).toNat)
      case atStart => exact ⟨0, by omega, by omega, by simp, HJ3.out, hR3⟩
      case round =>
        clear c0 c1 bW hR3 HJ3
        obtain ⟨p, hp0, hp, rfl, hJs, hRs⟩ := hrel
        obtain ⟨bW, -⟩ := HRR.out _ hRs
        gi_wp2_with (refine wpListIn_loadB rfl rfl rfl bW aggOb sizeOb ?_)
        refine ⟨trivial, (callsIn_wide.2 (HE.out _)).mono ?_⟩
        rintro e W4 ⟨rfl, hb4⟩
        have hJ4 := HJ.out _ _ _ hJs hb4
        have hR4 := HRB.out _ _ hRs hb4
        obtain ⟨bW4, hbel4⟩ := HRR.out _ hR4
        obtain ⟨c0, -, -, c3⟩ := bW4.ob
        simp only at c0 c3
        clear bW hJs hRs hb4
        by_cases hlt2 : p < qn
        · have hpl : p < q.length := by have := HL.out; omega
          obtain ⟨ad, rfl, hc⟩ := (HR.out.rd.below hbel4).at_ p (.string q[p]) (by simp [sv, hpl])
          obtain ⟨fn, tmps, assign, body, hy, hRd⟩ := hY _ ⟨false, b + p, q[p]⟩ W4 hJ4 (HT.out.lt p hp0 hlt2)
          rw [HT.out.step p hp0 hpl] at hRd
          generalize q[p] = x at *
          have hdec : decide (b + (p : Int) < b + qn) = true := by simp; omega
          have hsub : b + (p : Int) - b = (p : Int) := by omega
          gi_wp2_with fail
          refine hRd.mono ?_
          rintro e W5 (⟨rfl, hJ5, hk5⟩ | ⟨rfl, hJx5⟩)
          · have hR5 := HKP.out _ _ hk5 hR4
            clear hsub hdec hy hRd hc c0 c3 bW4 hbel4 hR4 hJ4
            gi_wp2
            go_roundw
            case rel => exact ⟨p + 1, by omega, by omega, by first | rfl | (congr 1; omega) | go_num, hJ5, hR5⟩
            case measure => simp [intOf]; omega
          · clear hsub hdec hy hRd hc c0 c3 bW4 hbel4 hR4 hJ4
            gi_wp2
            refine bodyPost_ret (results_none rfl _ _ _) rfl ?_
            exact ⟨⟨_, rfl⟩, .inr ⟨_, toP_take L _ _ _, hJx5⟩⟩
        · obtain rfl : p = qn := by omega
          rw [HT.out.all] at hJ4
          clear bW4 hbel4 hR4
          gi_wp2
          go_end0
          exact ⟨⟨_, rfl⟩, .inl ⟨_, rfl, hJ4⟩⟩
    · clear c0 c1 c2 c3 bW hy hRd
      gi_wp2
      refine bodyPost_ret (results_none rfl _ _ _) rfl ?_
      exact ⟨⟨_, rfl⟩, .inr ⟨_, ⟨1, HF2.out, HF1.out.symm⟩, hJx3⟩⟩
  · obtain ⟨d, hd⟩ : ∃ d : Nat, o.acked = o.base + d := ⟨(o.acked - o.base).toNat, by omega⟩
    have hdq : d ≤ qn := by omega
    have HT := Lib.hid (toOk_ge hlt HL.out hdq hd)
    generalize framesAll o = L at *
    obtain ⟨b, k, s, q⟩ := o
    simp only at *
    have HK := Lib.hid hd
    have d0 : decide (k < b) = false := by simpa using hlt
    clear hd
    obtain ⟨bW, -⟩ := HRR.out _ hRW
    obtain ⟨c0, c1, c2, c3⟩ := bW.ob
    simp only at c0 c1 c2 c3
    have HJ3 : Hid (J (toP L 0 d d) W) := Lib.hid (by
      have e : toP L 0 d d = [] := by unfold toP; simp
      rw [e]; exact h0)
    clear h0
    refine callsIn_of_wp Try.func48 rfl trivial ?_ rfl
    simp only [Try.ntmps48, List.size_toArray, List.length_cons, List.length_nil, Nat.reduceAdd, Nat.reduceSub, Array.replicate_succ, Array.replicate_zero, List.push_toArray, List.append_toArray, List.nil_append, List.cons_append]
    gi_wp2_with fail
    refine ⟨(fun f hf => (by cases hf)), ?_⟩
    gi_wp2_with fail
    gi_loopw [3] (fun i wr => ∃ p : Nat, d ≤ p ∧ p ≤ qn ∧ i = .int .i64 (b + p) ∧ J (toP L 0 d p) wr ∧ R wr) (fun i _ => (b + qn - intOf i).toNat)
    case atStart => exact ⟨d, Nat.le_refl _, hdq, by rw [HK.out], HJ3.out, hRW⟩
    case round =>
      clear c0 c1 c2 c3 bW hRW HJ3
      obtain ⟨p, hp0, hp, rfl, hJs, hRs⟩ := hrel
      obtain ⟨bW, -⟩ := HRR.out _ hRs
      gi_wp2_with (refine wpListIn_loadB rfl rfl rfl bW aggOb sizeOb ?_)
      refine ⟨trivial, (callsIn_wide.2 (HE.out _)).mono ?_⟩
      rintro e W4 ⟨rfl, hb4⟩
      have hJ4 := HJ.out _ _ _ hJs hb4
      have hR4 := HRB.out _ _ hRs hb4
      obtain ⟨bW4, hbel4⟩ := HRR.out _ hR4
      obtain ⟨c0, -, -, c3⟩ := bW4.ob
      simp only at c0 c3
      clear bW hJs hRs hb4
      by_cases hlt2 : p < qn
      · have hpl : p < q.length := by have := HL.out; omega
        obtain ⟨ad, rfl, hc⟩ := (HR.out.rd.below hbel4).at_ p (.string q[p]) (by simp [sv, hpl])
        obtain ⟨fn, tmps, assign, body, hy, hRd⟩ := hY _ ⟨false, b + p, q[p]⟩ W4 hJ4 (HT.out.lt p hp0 hlt2)
        rw [HT.out.step p hp0 hpl] at hRd
        generalize q[p] = x at *
        have hdec : decide (b + (p : Int) < b + qn) = true := by simp; omega
        have hsub : b + (p : Int) - b = (p : Int) := by omega
        gi_wp2_with fail
        refine hRd.mono ?_
        rintro e W5 (⟨rfl, hJ5, hk5⟩ | ⟨rfl, hJx5⟩)
        · have hR5 := HKP.out _ _ hk5 hR4
          clear hsub hdec hy hRd hc c0 c3 bW4 hbel4 hR4 hJ4
          gi_wp2
          go_roundw
          case rel => exact ⟨p + 1, by omega, by omega, by first | rfl | (congr 1; omega) | go_num, hJ5, hR5⟩
          case measure => simp [intOf]; omega
        · clear hsub hdec hy hRd hc c0 c3 bW4 hbel4 hR4 hJ4
          gi_wp2
          refine bodyPost_ret (results_none rfl _ _ _) rfl ?_
          exact ⟨⟨_, rfl⟩, .inr ⟨_, toP_take L _ _ _, hJx5⟩⟩
      · obtain rfl : p = qn := by omega
        rw [HT.out.all] at hJ4
        clear bW4 hbel4 hR4
        gi_wp2
        go_end0
        exact ⟨⟨_, rfl⟩, .inl ⟨_, rfl, hJ4⟩⟩
end Go.Proofs.Ytecklplohgfohaa
