/-
  fewOut of the link laws. Conditions: none.
-/
import Derived.Test.YtecklplohgfohaaLp
namespace Go.Proofs.Ytecklplohgfohaa
set_option linter.unusedSimpArgs false
set_option linter.unusedVariables false
open Go.RowKit Link
/-- What fewOut returns. -/
def FewIs (n B : Nat) (e : Ending) (W : World) (w : World) : Prop := ∃ V : Bool, e = .returned (.bool V) ∧ (V = true → n ≤ 1001) ∧ Below B W w
theorem FewIs.no {n B : Nat} {W w : World} (h : Below B W w) : FewIs n B (.returned (.bool false)) W w := ⟨false, rfl, by simp, h⟩
theorem FewIs.yes {n B : Nat} {W w : World} (h : Below B W w) (hn : n ≤ 1001) : FewIs n B (.returned (.bool true)) W w := ⟨true, rfl, fun _ => hn, h⟩
set_option maxRecDepth 20000 in
set_option maxHeartbeats 8000000 in
theorem fewOut_any (o : Ob) (A : Option Addr) (n c : Nat) (w : World) (h : RdO w o A n c) (ho : WfO o) :
    Calls Try.prog 8 #[obV o A n c] w fun e w' => FewIs n w.heap.size e w w' := by
  have HL := Lib.hid h.len
  have HR := Lib.hid h.rd
  have HQ : Hid (∀ s ∈ o.queue, s.size ≤ maxLen) := Lib.hid ho.queue
  have hnm : n ≤ 9223372036854775807 := by have h1 := h.nc; have h2 := h.cm; unfold maxLen at h2; omega
  have hss : o.summary.size ≤ 9223372036854775807 := by have := ho.summary; unfold maxLen at this; omega
  clear ho h
  obtain ⟨wa, hwa, hb0, q0⟩ := obBox w o A n c
  have HWA := Lib.hid hwa
  clear hwa
  obtain ⟨b, k, s, q⟩ := o
  simp only at *
  obtain ⟨c0, c1, c2, c3⟩ := q0.ob
  simp only at c0 c1 c2 c3
  by_cases h1 : 40 < n
  · have d1 : decide ((40 : Int) < n) = true := by simp; omega
    by_cases h2 : n < 1000
    · have d2 : decide ((n : Int) < 1000) = true := by simp; omega
      have d3 : decide ((1001 : Int) < n) = false := by simp; omega
      clear h1 h2
      go_enter Try.func8, Try.ntmps8
      go_upto_region 1 with (fail)
      change Code.wp _ _ _ _ (w.alloc (.cells (obC ⟨b, k, s, q⟩ A n c) 24))
      rw [← HWA.out]
      go_wp2_with fail
      go_ret
      exact FewIs.no hb0
    have d2 : decide ((n : Int) < 1000) = false := by simp; omega
    by_cases h3 : 1001 < n
    · have d3 : decide ((1001 : Int) < n) = true := by simp; omega
      clear h1 h2 h3
      go_enter Try.func8, Try.ntmps8
      go_upto_region 1 with (fail)
      change Code.wp _ _ _ _ (w.alloc (.cells (obC ⟨b, k, s, q⟩ A n c) 24))
      rw [← HWA.out]
      go_wp2_with fail
      go_ret
      exact FewIs.no hb0
    have d3 : decide ((1001 : Int) < n) = false := by simp; omega
    have hn : n ≤ 1001 := by omega
    by_cases h4 : 100 < s.size
    · have d4 : decide ((100 : Int) < s.size) = true := by simp; omega
      clear h1 h2 h3 h4
      go_enter Try.func8, Try.ntmps8
      go_upto_region 1 with (fail)
      change Code.wp _ _ _ _ (w.alloc (.cells (obC ⟨b, k, s, q⟩ A n c) 24))
      rw [← HWA.out]
      go_wp2_with fail
      go_ret
      exact FewIs.no hb0
    have d4 : decide ((100 : Int) < s.size) = false := by simp; omega
    clear h1 h2 h3 h4
    go_enter Try.func8, Try.ntmps8
    go_upto_region 1 with (fail)
    change Code.wp _ _ _ _ (w.alloc (.cells (obC ⟨b, k, s, q⟩ A n c) 24))
    rw [← HWA.out]
    go_upto_region 3 with fail
    clear hss c0 c1 c2
    go_wp2_with fail
    go_loopw [3] (fun vj wr => ∃ i : Nat, i ≤ n ∧ vj = .int .i64 i ∧ Below wa.heap.size wa wr) (fun vj _ => n - (intOf vj).toNat)
    case atStart => exact ⟨0, Nat.zero_le _, rfl, Below.refl _ _⟩
    case round =>
      obtain ⟨i, hi, rfl, hbw⟩ := hrel
      have hBw := hb0.trans (hbw.mono hb0.size)
      have c3' := (hbw.cell (p := ⟨w.heap.size, 3, none⟩) q0.lt).trans c3
      by_cases hlt : i < n
      · have hil : i < q.length := by have := HL.out; omega
        obtain ⟨ad, rfl, hc⟩ := (HR.out.below hBw).at_ i (.string q[i]) (by simp [sv, hil])
        have hsz : q[i].size ≤ 9223372036854775807 := by have := HQ.out _ (List.getElem_mem hil); unfold maxLen at this; omega
        by_cases hx : q[i].size ≤ 100
        · have dx : decide ((100 : Int) < q[i].size) = false := by simp; omega
          generalize q[i] = x at *
          clear hx c3 q0
          go_wp2_with fail
          exact ⟨⟨i + 1, by omega, by go_num, hbw⟩, by simp [intOf]; omega⟩
        · have dx : decide ((100 : Int) < q[i].size) = true := by simp; omega
          generalize q[i] = x at *
          clear hx c3 q0
          go_wp2_with fail
          go_ret
          exact FewIs.no hBw
      · clear c3 q0
        go_wp2_with fail
        go_ret
        exact FewIs.yes hBw hn
  have d1 : decide ((40 : Int) < n) = false := by simp; omega
  have d3 : decide ((1001 : Int) < n) = false := by simp; omega
  have hn : n ≤ 1001 := by omega
  by_cases h4 : 100 < s.size
  · have d4 : decide ((100 : Int) < s.size) = true := by simp; omega
    clear h1 h4
    go_enter Try.func8, Try.ntmps8
    go_upto_region 1 with (fail)
    change Code.wp _ _ _ _ (w.alloc (.cells (obC ⟨b, k, s, q⟩ A n c) 24))
    rw [← HWA.out]
    go_wp2_with fail
    go_ret
    exact FewIs.no hb0
  have d4 : decide ((100 : Int) < s.size) = false := by simp; omega
  clear h1 h4
  go_enter Try.func8, Try.ntmps8
  go_upto_region 1 with (fail)
  change Code.wp _ _ _ _ (w.alloc (.cells (obC ⟨b, k, s, q⟩ A n c) 24))
  rw [← HWA.out]
  go_upto_region 3 with fail
  clear hss c0 c1 c2
  go_wp2_with fail
  go_loopw [3] (fun vj wr => ∃ i : Nat, i ≤ n ∧ vj = .int .i64 i ∧ Below wa.heap.size wa wr) (fun vj _ => n - (intOf vj).toNat)
  case atStart => exact ⟨0, Nat.zero_le _, rfl, Below.refl _ _⟩
  case round =>
    obtain ⟨i, hi, rfl, hbw⟩ := hrel
    have hBw := hb0.trans (hbw.mono hb0.size)
    have c3' := (hbw.cell (p := ⟨w.heap.size, 3, none⟩) q0.lt).trans c3
    by_cases hlt : i < n
    · have hil : i < q.length := by have := HL.out; omega
      obtain ⟨ad, rfl, hc⟩ := (HR.out.below hBw).at_ i (.string q[i]) (by simp [sv, hil])
      have hsz : q[i].size ≤ 9223372036854775807 := by have := HQ.out _ (List.getElem_mem hil); unfold maxLen at this; omega
      by_cases hx : q[i].size ≤ 100
      · have dx : decide ((100 : Int) < q[i].size) = false := by simp; omega
        generalize q[i] = x at *
        clear hx c3 q0
        go_wp2_with fail
        exact ⟨⟨i + 1, by omega, by go_num, hbw⟩, by simp [intOf]; omega⟩
      · have dx : decide ((100 : Int) < q[i].size) = true := by simp; omega
        generalize q[i] = x at *
        clear hx c3 q0
        go_wp2_with fail
        go_ret
        exact FewIs.no hBw
    · clear c3 q0
      go_wp2_with fail
      go_ret
      exact FewIs.yes hBw hn
end Go.Proofs.Ytecklplohgfohaa
