/-
  The laws' messages and summaries. Conditions: none.
-/
import Derived.Test.YtecklplohgfohaaLt
import Derived.Test.YtecklplohgfohaaLp
namespace Go.Proofs.Ytecklplohgfohaa
set_option linter.unusedSimpArgs false
set_option linter.unusedVariables false
open Go.RowKit Link
theorem build2_u (u v : UInt8) (W : World) : (Instr.buildSlice 87 2 #[(0, .int .u8 (u.toNat : Nat)), (1, .int .u8 (v.toNat : Nat))]).run Try.prog W = .ok (.slice (some ⟨W.heap.size, 0, none⟩) 2 2) (W.alloc (.cells #[.int .u8 (u.toNat : Nat), .int .u8 (v.toNat : Nat)] 5)) := by kernel_rfl
theorem Rd.new2u (w : World) (u v : UInt8) : Rd (w.alloc (.cells #[.int .u8 (u.toNat : Nat), .int .u8 (v.toNat : Nat)] 5)) (some ⟨w.heap.size, 0, none⟩) 2 (bv [u, v]) :=
  ⟨rfl, fun k x hx => by
    refine ⟨_, rfl, ?_⟩
    have hb := Blk.new w 5 #[.int .u8 (u.toNat : Nat), .int .u8 (v.toNat : Nat)]
    rcases k with _ | _ | k
    · obtain rfl := Option.some.inj hx; exact hb.cell 0
    · obtain rfl := Option.some.inj hx; exact hb.cell 1
    · simp [bv] at hx⟩
theorem wpList_lit2u {w : World} {ops : Array Oper} {rest : List Oper} {o : Oper} {a : Act} {Q : Exit → Act → World → Prop} (u v : UInt8) (hgd : o.guard = none) {x y : Operand} (ho : o.op = .buildSlice 87 2 #[(0, x), (1, y)]) (hx : a.eval x = .int .u8 (u.toNat : Nat)) (hy : a.eval y = .int .u8 (v.toNat : Nat))
    (h : ∀ w' g, Rd w' (some ⟨g, 0, none⟩) 2 (bv [u, v]) → Below w.heap.size w w' → wpList Try.prog ops Q rest (a.put o.dst (.slice (some ⟨g, 0, none⟩) 2 2)) w') : wpList Try.prog ops Q (o :: rest) a w := by
  refine wpList_plain hgd fun K hK => ?_
  have h2 := h _ _ (Rd.new2u w u v) ((Below.refl _ _).alloc (Nat.le_refl _) _)
  unfold Oper.wp execOp
  simp only [ho, List.map_toArray, List.map_cons, List.map_nil, hx, hy, build2_u, Sem.run_bind, Result.andThen_ok, Sem.run_pure]
  exact hK _ _ h2
set_option maxRecDepth 20000 in
theorem message_any (k : Nat) (w : World) (hk : k ≤ 1000000) : Calls Try.prog 46 #[.int .i64 k] w fun e w' => e = .returned (.string (msg k)) ∧ Below w.heap.size w w' := by
  obtain ⟨u, hu⟩ : ∃ u : UInt8, UInt8.ofNat (97 + k % 26) = u := ⟨_, rfl⟩
  obtain ⟨v, hv⟩ : ∃ v : UInt8, UInt8.ofNat (97 + k / 26 % 26) = v := ⟨_, rfl⟩
  have HM : Hid (msg k = ⟨#[109, u, v]⟩) := Lib.hid (by unfold msg; rw [← hu, ← hv]; rfl)
  have HU : Hid (((u.toNat : Nat) : Int) = 97 + (k : Int) % 26) := Lib.hid (by rw [← hu, UInt8.toNat_ofNat']; omega)
  have HV : Hid (((v.toNat : Nat) : Int) = 97 + (k : Int) / 26 % 26) := Lib.hid (by rw [← hv, UInt8.toNat_ofNat']; omega)
  generalize msg k = M at *
  clear hu hv
  go_enter Try.func46, Try.ntmps46
  go_wp2_with (first
    | ((with_reducible show wpList _ _ _ _ _ _); refine wpList_lit2u u v rfl rfl (by rw [HU.out]; go_num) (by rw [HV.out]; go_num) ?_; intro w3 g3 hr3 hb3)
    | ((with_reducible show wpList _ _ _ _ _ _); refine wpList_bts rfl rfl btT stT rfl hr3 ?_))
  go_ret
  exact ⟨by rw [HM.out]; rfl, hb3⟩
set_option maxRecDepth 20000 in
theorem summary_any (k : Nat) (w : World) (hk : k ≤ 1000000) : Calls Try.prog 47 #[.int .i64 k] w fun e w' => e = .returned (.string (summ k)) ∧ Below w.heap.size w w' := by
  have HM := Lib.hid (fun W => message_any k W hk)
  have HE : Hid ((⟨#[115]⟩ : ByteArray) ++ msg k = summ k) := Lib.hid (by unfold msg summ; rfl)
  have hsz : (msg k).size = 3 := rfl
  generalize msg k = M at *
  generalize summ k = V at *
  go_enter Try.func47, Try.ntmps47
  go_wp2_with fail
  refine (HM.out _).mono ?_
  rintro e w3 ⟨rfl, hb⟩
  go_wp2_with fail
  go_ret
  exact ⟨by rw [← HE.out]; rfl, hb⟩
theorem message_any' (n : Int) (w : World) (h0 : 0 ≤ n) (hk : n ≤ 1000000) : Calls Try.prog 46 #[.int .i64 n] w fun e w' => e = .returned (.string (msg n)) ∧ Below w.heap.size w w' := by
  obtain ⟨k, rfl⟩ := Int.eq_ofNat_of_zero_le h0
  exact message_any k w (by omega)
theorem summary_any' (n : Int) (w : World) (h0 : 0 ≤ n) (hk : n ≤ 1000000) : Calls Try.prog 47 #[.int .i64 n] w fun e w' => e = .returned (.string (summ n)) ∧ Below w.heap.size w w' := by
  obtain ⟨k, rfl⟩ := Int.eq_ofNat_of_zero_le h0
  exact summary_any k w (by omega)
theorem msg_wf (n : Int) : (msg n).size ≤ maxLen := by show 3 ≤ maxLen; unfold maxLen; omega
theorem summ_wf (n : Int) : (summ n).size ≤ maxLen := by show 4 ≤ maxLen; unfold maxLen; omega
end Go.Proofs.Ytecklplohgfohaa
