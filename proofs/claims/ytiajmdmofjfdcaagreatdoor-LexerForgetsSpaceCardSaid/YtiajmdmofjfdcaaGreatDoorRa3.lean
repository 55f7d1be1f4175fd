/-
  What builds a Replacer once: buildOnce, behind sync.Once. Conditions: the Replacer is new.
-/
import Derived.Test.YtiajmdmofjfdcaaGreatDoorRa2
import Derived.Test.YtiajmdmofjfdcaaGreatDoorMu
import Derived.Defers
import Derived.Laws.Pointers
import Derived.Laws.LoneSync
import Derived.RegionTactic
import Derived.RegionCalls
namespace Go.Proofs.YtiajmdmofjfdcaaGreatDoor
set_option linter.unusedSimpArgs false
set_option linter.unusedVariables false
open Go.RowKit Lexr
open Go.MuLone
theorem store_deferred (a : Addr) (x : Value) (u : FrameMode) (w : World) (hc : w.cell? a = some x) (hz : w.frozen? a = false) :
    CallsD Tryz.prog 112 #[.pointer (some a), .bool true] u w fun e u' w' => u' = u ∧ (e = .returned (.tuple #[]) ∧ w' = w.drew.setCell a (.int .u32 1)) := by
  have hc' : w.drew.cell? a = some x := by go_simp
  have hz' : w.drew.frozen? a = false := by go_simp
  have hst := run_call_store (P := Tryz.prog) Tryz.func118 (by kernel_rfl) (by kernel_rfl) (by kernel_rfl) (by kernel_rfl) (k := .u32) (y := 1) hc' hz'
  go_enter_d Tryz.func112, Tryz.ntmps112
  go_wp2
  go_region_calls
  all_goals (go_end0; exact ⟨rfl, rfl⟩)
theorem load_zero (a : Addr) (w : World) (h0 : w.cell? a = some (.int .u32 0)) :
    Calls Tryz.prog 99 #[.pointer (some a)] w fun e w' => e = .returned (.bool false) ∧ w' = w := by
  have hl := run_call_load (P := Tryz.prog) Tryz.func109 (by kernel_rfl) (by kernel_rfl) (by kernel_rfl) .u32 (by kernel_rfl) h0
  go_enter Tryz.func99, Tryz.ntmps99
  go_wp2
  go_ret
  exact ⟨rfl, rfl⟩
abbrev bsV (g : Nat) : Value := .iface 176 (.pointer (some ⟨g, 0, none⟩))
theorem buildOnce_any (g : Nat) (d s : Int) (A : Option Addr) (c : Nat) (w : World) (hb : Blk w g 128 (rpC d s .nilIface (.slice A 4 c))) (hr : Rd w A 4 (sv oldnew)) :
    Calls Tryz.prog 86 #[.pointer (some ⟨g, 0, none⟩)] w fun e w' => e = .returned (.tuple #[]) ∧ ∃ g', Blk w' g 128 (rpC d s (bsV g') (.slice none 0 0)) ∧ BsAt w' g' ∧ Below g w w' := by
  have HB := Lib.hid hb
  have HR := Lib.hid hr
  clear hb hr
  go_enter Tryz.func86, Tryz.ntmps86
  go_wp2_with fail
  refine (build_any g d s .nilIface A c w HB.out HR.out).mono ?_
  rintro e w1 ⟨g1, rfl, hbs, hg1, hb1⟩
  have b1 := HB.out.below hb1
  go_upto_region 1 with ((with_reducible show wpList _ _ _ ({ dst := none, op := _, type := _, pos := _, after := _, guard := _ } :: _) _ _); refine wpList_set (g := g) (j := 3) (v := bsV g1) (cs' := rpC d s (bsV g1) (.slice A 4 c)) rfl rfl (by kernel_rfl) rfl rfl rfl b1 (by simp [rpC]) rfl ?_; intro w2 ht2 b2)
  go_wp2_with ((with_reducible show wpList _ _ _ ({ dst := none, op := _, type := _, pos := _, after := _, guard := _ } :: _) _ _); refine wpList_set (g := g) (j := 4) (v := .slice none 0 0) (cs' := rpC d s (bsV g1) (.slice none 0 0)) rfl rfl (by kernel_rfl) rfl rfl rfl b2 (by simp [rpC]) rfl ?_; intro w3 ht3 b3)
  go_end0
  exact ⟨rfl, g1, b3, (hbs.turned b1 ht2).turned b2 ht3, (((hb1.mono (Nat.le_of_lt HB.out.lt)).trans (ht2.below _ (Nat.le_refl _))).trans (ht3.below _ (Nat.le_refl _)))⟩
theorem rp_cell {W : World} {g : Nat} {d s : Int} {r o : Value} (h : Blk W g 128 (rpC d s r o)) : W.cell? ⟨g, 0, none⟩ = some (.int .u32 d) ∧ W.cell? ⟨g, 1, none⟩ = some (.int .i32 s) ∧ W.cell? ⟨g, 3, none⟩ = some r :=
  ⟨by rw [h.cell 0]; rfl, by rw [h.cell 1]; rfl, by rw [h.cell 3]; rfl⟩
abbrev onceF (g : Nat) : Value := .func (.func 86) #[.pointer (some ⟨g, 0, none⟩)] #[]
set_option maxRecDepth 100000 in
set_option maxHeartbeats 4000000 in
theorem slow_any (g : Nat) (A : Option Addr) (c : Nat) (w : World) (hb : Blk w g 128 (rpC 0 0 .nilIface (.slice A 4 c))) (hr : Rd w A 4 (sv oldnew)) (ha : Away A g) :
    Calls Tryz.prog 100 #[.pointer (some ⟨g, 0, none⟩), onceF g] w fun e w' => e = .returned (.tuple #[]) ∧ ∃ g', Blk w' g 128 (rpC 1 0 (bsV g') (.slice none 0 0)) ∧ BsAt w' g' ∧ Below g w w' := by
  have hnot : ∀ (x : Bool) (w : World), (Op.unary .not (.bool x)).run Tryz.prog w = .ok (.bool (!x)) w := fun _ _ => rfl
  have c1 := (rp_cell hb).2.1
  have f1 := hb.free 1
  obtain ⟨w1, hw1⟩ : ∃ w1, w.setCell ⟨g, 1, none⟩ (.int .i32 1) = w1 := ⟨_, rfl⟩
  have ht1 : Turned g w w1 := by rw [← hw1]; exact Turned.of_setCell _ _ _ _
  have b1 : Blk w1 g 128 (rpC 0 1 .nilIface (.slice A 4 c)) := by rw [← hw1]; exact hb.set 1 _
  have hr1 : Rd w1 A 4 (sv oldnew) := hr.turned ht1 ha
  have HW1 := Lib.hid hw1
  have HB1 := Lib.hid b1
  have HR1 := Lib.hid hr1
  have HT1 := Lib.hid ht1
  clear hw1 b1 hr1 ht1 hb hr ha
  go_enter_defers Tryz.func100, Tryz.ntmps100
  go_wp2_with fail
  refine (lock_free muLib ⟨g, 1, none⟩ w c1 f1).mono ?_
  rintro e w' ⟨rfl, rfl⟩
  rw [HW1.out]
  clear c1 f1 HW1
  go_wp2_with fail
  refine (load_zero _ _ (rp_cell HB1.out).1).mono ?_
  rintro e w' ⟨rfl, rfl⟩
  go_wp2_with fail
  refine (buildOnce_any g 0 1 A c _ HB1.out HR1.out).mono ?_
  rintro e w2 ⟨rfl, g', b2, hbs, hb2⟩
  go_wp2_with fail
  have c0 := (rp_cell b2).1
  have f0 := b2.free 0
  show Leaves _ _ _ _ _ _ _
  refine leaves_cons (f := 112) (args := #[.pointer (some ⟨g, 0, none⟩), .bool true]) (by simp) (by simp [go_sem]) ?_
  refine (store_deferred ⟨g, 0, none⟩ _ .returning _ c0 f0).mono ?_
  rintro e u' w3 ⟨rfl, rfl, hw3⟩
  have ht3 : Turned g w2.drew w3 := by rw [hw3]; exact Turned.of_setCell _ _ _ _
  have b3 : Blk w3 g 128 (rpC 1 1 (bsV g') (.slice none 0 0)) := by rw [hw3]; exact b2.drew.set 0 _
  clear hw3
  have c1 := (rp_cell b3).2.1
  have f1 := b3.free 1
  refine leaves_cons (f := 111) (args := #[.pointer (some ⟨g, 1, none⟩)]) (by simp [settle]) (by simp [go_sem]) ?_
  refine (unlock_deferred muLib ⟨g, 1, none⟩ _ _ c1 f1).mono ?_
  rintro e u' w4 ⟨rfl, rfl, hw4⟩
  have ht4 : Turned g w3 w4 := by rw [hw4]; exact Turned.of_setCell _ _ _ _
  have b4 : Blk w4 g 128 (rpC 1 0 (bsV g') (.slice none 0 0)) := by rw [hw4]; exact b3.set 1 _
  clear hw4
  have hd : Below w2.heap.size w2 w2.drew := (Below.refl _ _).drew
  have hbs4 := ((hbs.below hd).turned b2.drew ht3).turned b3 ht4
  have hbE : Below g w w4 := (((HT1.out.below _ (Nat.le_refl _)).trans hb2).trans ((hd.mono (Nat.le_of_lt b2.lt)).trans (ht3.below _ (Nat.le_refl _)))).trans (ht4.below _ (Nat.le_refl _))
  exact ⟨_, results_none rfl _ _ _, rfl, g', b4, hbs4, hbE⟩
theorem do_any (g : Nat) (A : Option Addr) (c : Nat) (w : World) (hb : Blk w g 128 (rpC 0 0 .nilIface (.slice A 4 c))) (hr : Rd w A 4 (sv oldnew)) (ha : Away A g) :
    Calls Tryz.prog 85 #[.pointer (some ⟨g, 0, none⟩), onceF g] w fun e w' => e = .returned (.tuple #[]) ∧ ∃ g', Blk w' g 128 (rpC 1 0 (bsV g') (.slice none 0 0)) ∧ BsAt w' g' ∧ Below g w w' := by
  have hnot : ∀ (x : Bool) (w : World), (Op.unary .not (.bool x)).run Tryz.prog w = .ok (.bool (!x)) w := fun _ _ => rfl
  have HB := Lib.hid hb
  have HR := Lib.hid hr
  have HA := Lib.hid ha
  clear hb hr ha
  go_enter Tryz.func85, Tryz.ntmps85
  go_wp2_with fail
  refine (load_zero _ _ (rp_cell HB.out).1).mono ?_
  rintro e w' ⟨rfl, rfl⟩
  go_wp2_with fail
  refine (slow_any g A c _ HB.out HR.out HA.out).mono ?_
  rintro e w2 ⟨rfl, h⟩
  go_wp2_with fail
  go_end0
  exact ⟨rfl, h⟩
end Go.Proofs.YtiajmdmofjfdcaaGreatDoor
