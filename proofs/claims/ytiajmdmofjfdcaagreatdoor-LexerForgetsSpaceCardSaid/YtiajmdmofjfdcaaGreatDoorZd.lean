/-
  What a byte is: the program's tests. Conditions: none.
-/
import Derived.Test.YtiajmdmofjfdcaaGreatDoorZa
import Derived.Test.YtiajmdmofjfdcaaGreatDoorZs
import Derived.Test.YtiajmdmofjfdcaaGreatDoorTu
import Derived.Test.YtiajmdmofjfdcaaGreatDoorGd
namespace Go.Proofs.YtiajmdmofjfdcaaGreatDoor
set_option linter.unusedSimpArgs false
set_option linter.unusedVariables false
open Go.RowKit Lexr
def BoIs (b : Bool) (w : World) (e : Ending) (w' : World) : Prop := e = .returned (.bool b) ∧ w' = w
theorem isSmall_any (b : UInt8) (w : World) : Calls Tryz.prog 41 #[.int .u8 (b.toNat : Int)] w (BoIs (sm b) w) := by
  obtain ⟨x, hx⟩ : ∃ x : Int, (b.toNat : Int) = x := ⟨_, rfl⟩
  have hs : sm b = (decide (97 ≤ x) && decide (x ≤ 122)) := by
    unfold sm
    congr 1 <;> (rw [decide_eq_decide]; omega)
  rw [hx, hs]
  obtain ⟨p, hp⟩ : ∃ p, decide (97 ≤ x) = p := ⟨_, rfl⟩
  obtain ⟨q, hq⟩ : ∃ q, decide (x ≤ 122) = q := ⟨_, rfl⟩
  rw [hp, hq]
  unfold BoIs
  clear hx hs
  cases p <;>
  · go_enter Tryz.func41, Tryz.ntmps41
    go_wp2_with fail
    go_ret
    exact ⟨rfl, rfl⟩
theorem isDigit_any (b : UInt8) (w : World) : Calls Tryz.prog 43 #[.int .u8 (b.toNat : Int)] w (BoIs (d9 b) w) := by
  obtain ⟨x, hx⟩ : ∃ x : Int, (b.toNat : Int) = x := ⟨_, rfl⟩
  have hs : d9 b = (decide (48 ≤ x) && decide (x ≤ 57)) := by
    unfold d9
    congr 1 <;> (rw [decide_eq_decide]; omega)
  rw [hx, hs]
  obtain ⟨p, hp⟩ : ∃ p, decide (48 ≤ x) = p := ⟨_, rfl⟩
  obtain ⟨q, hq⟩ : ∃ q, decide (x ≤ 57) = q := ⟨_, rfl⟩
  rw [hp, hq]
  unfold BoIs
  clear hx hs
  cases p <;>
  · go_enter Tryz.func43, Tryz.ntmps43
    go_wp2_with fail
    go_ret
    exact ⟨rfl, rfl⟩
theorem refSmall_any (b : UInt8) (w : World) : Calls Tryz.prog 52 #[.int .u8 (b.toNat : Int)] w (BoIs (sm b) w) := by
  obtain ⟨x, hx⟩ : ∃ x : Int, (b.toNat : Int) = x := ⟨_, rfl⟩
  have hs : sm b = (decide (97 ≤ x) && decide (x ≤ 122)) := by
    unfold sm
    congr 1 <;> (rw [decide_eq_decide]; omega)
  rw [hx, hs]
  obtain ⟨p, hp⟩ : ∃ p, decide (97 ≤ x) = p := ⟨_, rfl⟩
  obtain ⟨q, hq⟩ : ∃ q, decide (x ≤ 122) = q := ⟨_, rfl⟩
  rw [hp, hq]
  unfold BoIs
  clear hx hs
  cases p <;>
  · go_enter Tryz.func52, Tryz.ntmps52
    go_wp2_with fail
    go_ret
    exact ⟨rfl, rfl⟩
theorem refDigit_any (b : UInt8) (w : World) : Calls Tryz.prog 54 #[.int .u8 (b.toNat : Int)] w (BoIs (d9 b) w) := by
  obtain ⟨x, hx⟩ : ∃ x : Int, (b.toNat : Int) = x := ⟨_, rfl⟩
  have hs : d9 b = (decide (48 ≤ x) && decide (x ≤ 57)) := by
    unfold d9
    congr 1 <;> (rw [decide_eq_decide]; omega)
  rw [hx, hs]
  obtain ⟨p, hp⟩ : ∃ p, decide (48 ≤ x) = p := ⟨_, rfl⟩
  obtain ⟨q, hq⟩ : ∃ q, decide (x ≤ 57) = q := ⟨_, rfl⟩
  rw [hp, hq]
  unfold BoIs
  clear hx hs
  cases p <;>
  · go_enter Tryz.func54, Tryz.ntmps54
    go_wp2_with fail
    go_ret
    exact ⟨rfl, rfl⟩
def q34 (b : UInt8) : Bool := decide (b.toNat = 34)
theorem isQuote_any (b : UInt8) (w : World) : Calls Tryz.prog 45 #[.int .u8 (b.toNat : Int)] w (BoIs (q34 b) w) := by
  obtain ⟨x, hx⟩ : ∃ x : Int, (b.toNat : Int) = x := ⟨_, rfl⟩
  have hs : q34 b = (decide (x = 34)) := by
    unfold q34
    rw [decide_eq_decide]; omega
  rw [hx, hs]
  obtain ⟨p, hp⟩ : ∃ p, decide (x = 34) = p := ⟨_, rfl⟩
  rw [hp]
  have hp1 : (x == 34) = p := hp
  have hp2 : (x != 34) = !p := by rw [← hp]; rfl
  unfold BoIs
  clear hx hs
  · go_enter Tryz.func45, Tryz.ntmps45
    go_wp2_with fail
    go_ret
    exact ⟨rfl, rfl⟩
def tru (_ : UInt8) : Bool := true
theorem isTrue_any (b : UInt8) (w : World) : Calls Tryz.prog 47 #[.int .u8 (b.toNat : Int)] w (BoIs (tru b) w) := by
  obtain ⟨x, hx⟩ : ∃ x : Int, (b.toNat : Int) = x := ⟨_, rfl⟩
  have hs : tru b = (true) := by
    rfl
  rw [hx, hs]
  unfold BoIs
  clear hx hs
  · go_enter Tryz.func47, Tryz.ntmps47
    go_wp2_with fail
    go_ret
    exact ⟨rfl, rfl⟩
theorem isSpace_any (b : UInt8) (w : World) : Calls Tryz.prog 50 #[.int .u8 (b.toNat : Int)] w (BoIs (sp b) w) := by
  obtain ⟨x, hx⟩ : ∃ x : Int, (b.toNat : Int) = x := ⟨_, rfl⟩
  have hs : sp b = (decide (x = 32) || decide (x = 9) || decide (x = 10) || decide (x = 13)) := by
    unfold sp
    congr 1
    · congr 1
      · congr 1 <;> (rw [decide_eq_decide]; omega)
      · rw [decide_eq_decide]; omega
    · rw [decide_eq_decide]; omega
  rw [hx, hs]
  obtain ⟨p, hp⟩ : ∃ p, decide (x = 32) = p := ⟨_, rfl⟩
  obtain ⟨q, hq⟩ : ∃ q, decide (x = 9) = q := ⟨_, rfl⟩
  obtain ⟨r, hr⟩ : ∃ r, decide (x = 10) = r := ⟨_, rfl⟩
  obtain ⟨s, hs⟩ : ∃ s, decide (x = 13) = s := ⟨_, rfl⟩
  rw [hp, hq, hr, hs]
  have hp1 : (x == 32) = p := hp
  have hp2 : (x != 32) = !p := by rw [← hp]; rfl
  have hq1 : (x == 9) = q := hq
  have hq2 : (x != 9) = !q := by rw [← hq]; rfl
  have hr1 : (x == 10) = r := hr
  have hr2 : (x != 10) = !r := by rw [← hr]; rfl
  have hs1 : (x == 13) = s := hs
  have hs2 : (x != 13) = !s := by rw [← hs]; rfl
  unfold BoIs
  clear hx hs
  cases p <;>
  cases q <;>
  cases r <;>
  · go_enter Tryz.func50, Tryz.ntmps50
    go_wp2_with fail
    go_ret
    exact ⟨rfl, rfl⟩
theorem isN10_any (b : UInt8) (w : World) : Calls Tryz.prog 51 #[.int .u8 (b.toNat : Int)] w (BoIs (n10 b) w) := by
  obtain ⟨x, hx⟩ : ∃ x : Int, (b.toNat : Int) = x := ⟨_, rfl⟩
  have hs : n10 b = (!decide (x = 10)) := by
    unfold n10
    rw [← decide_not, decide_eq_decide]; omega
  rw [hx, hs]
  obtain ⟨p, hp⟩ : ∃ p, decide (x = 10) = p := ⟨_, rfl⟩
  rw [hp]
  have hp1 : (x == 10) = p := hp
  have hp2 : (x != 10) = !p := by rw [← hp]; rfl
  unfold BoIs
  clear hx hs
  · go_enter Tryz.func51, Tryz.ntmps51
    go_wp2_with fail
    go_ret
    exact ⟨rfl, rfl⟩
theorem isRest_any (b : UInt8) (w : World) : Calls Tryz.prog 72 #[.int .u8 (b.toNat : Int)] w (BoIs (rs b) w) := by
  have HS := Lib.hid (fun W => isSmall_any b W)
  have HD := Lib.hid (fun W => isDigit_any b W)
  obtain ⟨x, hx⟩ : ∃ x : Int, (b.toNat : Int) = x := ⟨_, rfl⟩
  have hr : rs b = (sm b || d9 b || decide (x = 95)) := by
    unfold rs
    congr 1
    rw [decide_eq_decide]; omega
  rw [hx] at HS HD ⊢
  rw [hr]
  generalize sm b = p at *
  generalize d9 b = q at *
  unfold BoIs at *
  clear hx hr
  cases p with
  | true =>
    go_enter Tryz.func72, Tryz.ntmps72
    go_wp2_with fail
    refine (HS.out _).mono ?_
    rintro e w1 ⟨rfl, rfl⟩
    go_wp2_with fail
    go_ret
    exact ⟨rfl, rfl⟩
  | false =>
    cases q <;>
    · go_enter Tryz.func72, Tryz.ntmps72
      go_wp2_with fail
      refine (HS.out _).mono ?_
      rintro e w1 ⟨rfl, rfl⟩
      go_wp2_with fail
      refine (HD.out _).mono ?_
      rintro e w2 ⟨rfl, rfl⟩
      go_wp2_with fail
      go_ret
      exact ⟨rfl, rfl⟩
theorem refRest_any (b : UInt8) (w : World) : Calls Tryz.prog 75 #[.int .u8 (b.toNat : Int)] w (BoIs (rs b) w) := by
  have HS := Lib.hid (fun W => refSmall_any b W)
  have HD := Lib.hid (fun W => refDigit_any b W)
  obtain ⟨x, hx⟩ : ∃ x : Int, (b.toNat : Int) = x := ⟨_, rfl⟩
  have hr : rs b = (sm b || d9 b || decide (x = 95)) := by
    unfold rs
    congr 1
    rw [decide_eq_decide]; omega
  rw [hx] at HS HD ⊢
  rw [hr]
  generalize sm b = p at *
  generalize d9 b = q at *
  unfold BoIs at *
  clear hx hr
  cases p with
  | true =>
    go_enter Tryz.func75, Tryz.ntmps75
    go_wp2_with fail
    refine (HS.out _).mono ?_
    rintro e w1 ⟨rfl, rfl⟩
    go_wp2_with fail
    go_ret
    exact ⟨rfl, rfl⟩
  | false =>
    cases q <;>
    · go_enter Tryz.func75, Tryz.ntmps75
      go_wp2_with fail
      refine (HS.out _).mono ?_
      rintro e w1 ⟨rfl, rfl⟩
      go_wp2_with fail
      refine (HD.out _).mono ?_
      rintro e w2 ⟨rfl, rfl⟩
      go_wp2_with fail
      go_ret
      exact ⟨rfl, rfl⟩
end Go.Proofs.YtiajmdmofjfdcaaGreatDoor
