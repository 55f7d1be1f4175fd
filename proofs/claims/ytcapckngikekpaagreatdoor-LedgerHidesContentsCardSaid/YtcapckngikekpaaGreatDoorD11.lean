/-
  What is known of the functions that the laws of this seat reach, joined. Conditions: each theorem's own.
-/
import Derived.Test.YtcapckngikekpaaGreatDoorD5
import Derived.Test.YtcapckngikekpaaGreatDoorD10
import Derived.Test.YtcapckngikekpaaGreatDoorD9
namespace Go.Proofs.YtcapckngikekpaaGreatDoor
set_option linter.unusedSimpArgs false
set_option linter.unusedVariables false
open Merk
/-- What the reference's climb answers. -/
def climbR (nd : Nat → Nat → Nat) (leaf i n : Nat) (l : List Nat) : Nat × Bool :=
  if h : 2 ≤ n then
    if hl : l = [] then (0, false)
    else if i < split n then (nd (climbR nd leaf i (split n) l.dropLast).1 (l.getLast hl), (climbR nd leaf i (split n) l.dropLast).2)
    else (nd (l.getLast hl) (climbR nd leaf (i - split n) (n - split n) l.dropLast).1, (climbR nd leaf (i - split n) (n - split n) l.dropLast).2)
  else (leaf, decide (l = []))
termination_by n
decreasing_by
  all_goals first | exact split_lt h | (have := split_pos n; omega)
theorem climbR_one (nd : Nat → Nat → Nat) (leaf i n : Nat) (l : List Nat) (h : ¬ 2 ≤ n) : climbR nd leaf i n l = (leaf, decide (l = [])) := by rw [climbR.eq_def, dif_neg h]
theorem climbR_nil (nd : Nat → Nat → Nat) (leaf i n : Nat) (h : 2 ≤ n) : climbR nd leaf i n [] = (0, false) := by rw [climbR.eq_def, dif_pos h, dif_pos rfl]
theorem climbR_left (nd : Nat → Nat → Nat) (leaf i n : Nat) (l : List Nat) (x : Nat) (h : 2 ≤ n) (hi : i < split n) : climbR nd leaf i n (l ++ [x]) = (nd (climbR nd leaf i (split n) l).1 x, (climbR nd leaf i (split n) l).2) := by
  rw [climbR.eq_def, dif_pos h, dif_neg (by simp), if_pos hi]; simp
theorem climbR_right (nd : Nat → Nat → Nat) (leaf i n : Nat) (l : List Nat) (x : Nat) (h : 2 ≤ n) (hi : ¬ i < split n) : climbR nd leaf i n (l ++ [x]) = (nd x (climbR nd leaf (i - split n) (n - split n) l).1, (climbR nd leaf (i - split n) (n - split n) l).2) := by
  rw [climbR.eq_def, dif_pos h, dif_neg (by simp), if_neg hi]; simp
theorem climbR_climbI (nd : Nat → Nat → Nat) (k : Nat) : ∀ (leaf i n : Nat) (l : List Nat), n ≤ k →
    (climbR nd leaf i n l).2 = (!(climbI nd leaf i n ⟨l, false⟩).2.short && decide ((climbI nd leaf i n ⟨l, false⟩).2.l = [])) ∧ ((climbR nd leaf i n l).2 = true → (climbR nd leaf i n l).1 = (climbI nd leaf i n ⟨l, false⟩).1) := by
  induction k with
  | zero => intro leaf i n l h; rw [climbR_one nd leaf i n l (by omega), climbI, dif_neg (by omega)]; simp
  | succ k ih =>
    intro leaf i n l h
    by_cases h2 : 2 ≤ n
    · have k1 := split_lt h2
      have k2 := split_pos n
      rw [climbI, dif_pos h2]
      rcases List.eq_nil_or_concat l with rfl | ⟨l, x, rfl⟩
      · rw [climbR_nil nd leaf i n h2, last_short]
        split
        · rw [climbI_short nd k leaf i (split n) ⟨[], true⟩ (by omega) rfl]; simp
        · rw [climbI_short nd k leaf (i - split n) (n - split n) ⟨[], true⟩ (by omega) rfl]; simp
      · rw [List.concat_eq_append, last_app]
        by_cases hi : i < split n
        · have := ih leaf i (split n) l (by omega)
          rw [climbR_left nd leaf i n l x h2 hi, if_pos hi]
          dsimp only at this ⊢
          exact ⟨this.1, fun h => by rw [this.2 h]⟩
        · have := ih leaf (i - split n) (n - split n) l (by omega)
          rw [climbR_right nd leaf i n l x h2 hi, if_neg hi]
          dsimp only at this ⊢
          exact ⟨this.1, fun h => by rw [this.2 h]⟩
    · rw [climbR_one nd leaf i n l h2, climbI, dif_neg h2]; simp
theorem checkI_ref (nd : Nat → Nat → Nat) (leaf i n root : Nat) (l : List Nat) (h1 : 1 ≤ n) (h2 : n ≤ 1099511627776) (hi : i < n) : checkI nd leaf (i : Int) (n : Int) l root = ((climbR nd leaf i n l).2 && decide ((climbR nd leaf i n l).1 = root)) := by
  unfold checkI
  rw [if_pos (by omega), Int.toNat_natCast, Int.toNat_natCast]
  have h := climbR_climbI nd n leaf i n l (Nat.le_refl _)
  unfold settled
  rw [← h.1]
  cases hb : (climbR nd leaf i n l).2 with
  | false => simp
  | true => rw [h.2 hb]; simp
section
variable (nd : Nat → Nat → Nat) (old m n : Nat) (mark : Bool) (l : List Nat) (x : Nat)
end
end Go.Proofs.YtcapckngikekpaaGreatDoor
namespace Go.Proofs.YtcapckngikekpaaGreatDoor
set_option linter.unusedSimpArgs false
set_option linter.unusedVariables false
open Go.RowKit Exch Merk Ring
def sNon : Nat := val (8 :: List.replicate 15 0)
def sOne : Ev := ⟨1, 1, 5, 7, 3, 9, 0, [1, 2], [], sNon⟩
def sTurn : Ev := ⟨5, 2, 9, 0, 0, 0, 0, [], [], 0⟩
def sTurn4 : Ev := ⟨5, 4, 9, 0, 0, 0, 0, [], [], 0⟩
def sTurn3 : Ev := ⟨5, 3, 8, 0, 0, 0, 0, [], [], 0⟩
theorem sNon_dg : dg sNon = 8 :: List.replicate 15 0 := dg_val (by rfl)
theorem sNon_lt : sNon < 2 ^ 128 := by have := val_lt (8 :: List.replicate 15 0); rwa [show (8 :: List.replicate 15 (0 : UInt8)).length = 16 by rfl, n256] at this
theorem big1 : big 1 = 1 := by decide +kernel
theorem big2 : big 2 = 2 := by decide +kernel
theorem split2 : Merk.split 2 = 1 := by decide +kernel
theorem formed11 : formedB 1 1 = true := by decide +kernel
theorem peaks_one (nd : Nat → Nat → Nat) (em x : Nat) : peaks nd em [x] = [x] := by
  rw [peaks_cons nd em (by simp), show big [x].length = 1 from big1]
  simp [root_one, peaks_nil]
theorem peaks_two (nd : Nat → Nat → Nat) (em x y : Nat) : peaks nd em [x, y] = [nd x y] := by
  rw [peaks_cons nd em (by simp), show big [x, y].length = 2 from big2]
  rw [show ([x, y] : List Nat).take 2 = [x, y] by rfl, show ([x, y] : List Nat).drop 2 = [] by rfl, peaks_nil, root_two nd em (by simp), show Merk.split [x, y].length = 1 from split2]
  simp [root_one]
theorem root_pair (nd : Nat → Nat → Nat) (em x y : Nat) : root nd em [x, y] = nd x y := by
  rw [root_two nd em (by simp), show Merk.split [x, y].length = 1 from split2]
  simp [root_one]
theorem app0 (nd : Nat → Nat → Nat) (x : Nat) : appendR nd 0 [] x = (1, [x], 0) := by
  have := appendN_peaks nd 0 [] x (by simp)
  rw [peaks_nil, List.nil_append, peaks_one] at this
  exact this
theorem app1 (nd : Nat → Nat → Nat) (x y : Nat) : appendR nd 1 [x] y = (2, [nd x y], 0) := by
  have := appendN_peaks nd 0 [x] y (by simp)
  rw [peaks_one, show ([x] : List Nat) ++ [y] = [x, y] by rfl, peaks_two] at this
  exact this
theorem top1 (nd : Nat → Nat → Nat) (em x : Nat) : topR nd em 1 [x] = (x, 0) := by
  unfold topR
  rw [if_pos (by show formedB 1 1 = true; exact formed11)]
  rfl
theorem formed21 : formedB 2 1 = true := by decide +kernel
theorem top2 (nd : Nat → Nat → Nat) (em x : Nat) : topR nd em 2 [x] = (x, 0) := by
  unfold topR
  rw [if_pos (by show formedB 2 1 = true; exact formed21)]
  rfl
theorem s_mine : mineG lawKey2 2 = true := by decide +kernel
section
variable (H : He)
/-- The leaves of both events. -/
def sA : Nat := H.lf (faceOf H sOne)
def sB : Nat := H.lf (faceOf H sTurn)
def sHa : Hd := ⟨2, 1, 5, sA H, 1, H.sh ⟨#[99]⟩ 2 1 5 1 (sA H)⟩
def sHb : Hd := ⟨2, 2, 9, H.nd (sA H) (sB H), 1, H.sh ⟨#[99]⟩ 2 2 9 1 (H.nd (sA H) (sB H))⟩
def sRc : Rc := ⟨2, faceOf H sOne, 1, H.sr ⟨#[99]⟩ 2 1 (sA H)⟩
def sL0 : Lg := ⟨2, [], 0, [], []⟩
def sL1 : Lg := ⟨2, [sOne], 1, [sA H], []⟩
def sL2 : Lg := ⟨2, [sOne], 1, [sA H], [sHa H]⟩
def sL3 : Lg := ⟨2, [sOne, sTurn], 2, [H.nd (sA H) (sB H)], [sHa H]⟩
def sL4 : Lg := ⟨2, [sOne, sTurn], 2, [H.nd (sA H) (sB H)], [sHa H, sHb H]⟩
theorem s_app1 : appG H sL0 sOne = (sL1 H, 0) := by
  unfold appG
  rw [if_pos (by decide)]
  rw [show (sL0).size = 0 from rfl, show sL0.tops = [] from rfl, app0]
  rfl
theorem s_rcpt : rcptG H (sL1 H) lawKey2 1 = (sRc H, 0) := by
  unfold rcptG
  have hm : mineG lawKey2 (sL1 H).office = true := s_mine
  rw [if_pos hm, if_pos ⟨by decide, by show (1 : Int) ≤ 1; decide⟩]
  rfl
theorem s_seal1 : sealG H (sL1 H) lawKey2 = (sL2 H, sHa H, 0) := by
  unfold sealG
  have hm : mineG lawKey2 (sL1 H).office = true := s_mine
  rw [if_pos hm, show (sL1 H).size = 1 from rfl, show (sL1 H).tops = [sA H] from rfl, top1]
  rfl
theorem s_app2 : appG H (sL2 H) sTurn = (sL3 H, 0) := by
  unfold appG
  rw [if_pos (by show follows [sOne] sTurn = 0; decide)]
  rw [show (sL2 H).size = 1 from rfl, show (sL2 H).tops = [sA H] from rfl, app1]
  rfl
theorem s_seal2 : sealG H (sL3 H) lawKey2 = (sL4 H, sHb H, 0) := by
  unfold sealG
  have hm : mineG lawKey2 (sL3 H).office = true := s_mine
  rw [if_pos hm, show (sL3 H).size = 2 from rfl, show (sL3 H).tops = [H.nd (sA H) (sB H)] from rfl, top2]
  rfl
theorem s_leaves : leavesOf H [sOne, sTurn] = [sA H, sB H] := rfl
theorem s_incl : inclR H.nd H.em [sA H, sB H] 0 = ([sB H], 0) := by
  unfold inclR
  rw [if_pos (by simp), show (0 : Int).toNat = 0 by rfl, Merk.incl_left H.nd H.em (by simp) (by rw [show Merk.split [sA H, sB H].length = 1 from split2]; omega), show Merk.split [sA H, sB H].length = 1 from split2, Merk.incl_one H.nd H.em (by simp)]
  simp [root_one]
theorem s_csy : csyR H.nd H.em [sA H, sB H] 1 = ([sB H], 0) := by
  unfold csyR
  rw [if_pos (by simp), if_neg (by simp), show (1 : Int).toNat = 1 by rfl, Merk.csy_left H.nd H.em true (by simp) (by simp) (by rw [show Merk.split [sA H, sB H].length = 1 from split2]; omega), show Merk.split [sA H, sB H].length = 1 from split2, Merk.csy_true H.nd H.em (by simp)]
  simp [root_one]
theorem s_inA : sHa H ∈ (sL4 H).heads := by simp [sL4]
theorem s_inB : sHb H ∈ (sL4 H).heads := by simp [sL4]
def sSh : Sh := ⟨faceOf H sOne, [sB H], sHb H⟩
def sBadF : Fc := { faceOf H sOne with til := 8 }
def sBad : Sh := ⟨sBadF H, [sB H], sHb H⟩
theorem s_proof : proofG H (sL4 H) 1 (sHb H) = (sSh H, 0) := by
  unfold proofG
  rw [if_pos (s_inB H), if_pos ⟨by decide, by show (1 : Int) ≤ 2; decide⟩]
  rw [show (leavesOf H (sL4 H).events).take (sHb H).commit.toNat = [sA H, sB H] from rfl, show (1 : Int) - 1 = 0 by decide, s_incl]
  rfl
theorem s_cons : consG H (sL4 H) (sHa H) (sHb H) = ([sB H], 0) := by
  unfold consG
  rw [if_pos ⟨s_inA H, s_inB H⟩, if_pos (by show (1 : Int) ≤ 2; decide), show (leavesOf H (sL4 H).events).take (sHb H).commit.toNat = [sA H, sB H] from rfl]
  exact s_csy H
theorem s_app4 : appG H (sL4 H) sTurn4 = (sL4 H, 9) := by
  unfold appG
  have h : follows (sL4 H).events sTurn4 = 9 := by show follows [sOne, sTurn] sTurn4 = 9; decide
  rw [if_neg (by rw [h]; decide), h]
theorem s_app3 : appG H (sL4 H) sTurn3 = (sL4 H, 9) := by
  unfold appG
  have h : follows (sL4 H).events sTurn3 = 9 := by show follows [sOne, sTurn] sTurn3 = 9; decide
  rw [if_neg (by rw [h]; decide), h]
theorem s_find : find (bare (offP 2) 1) [lawKey2] = some lawKey2 := by rfl
theorem s_cnt5 : cntB lawKey2 5 = true := by decide +kernel
theorem s_cnt9 : cntB lawKey2 9 = true := by decide +kernel
theorem s_chkA : chkHead H [lawKey2] (sHa H) = 0 := by
  show sigG [lawKey2] (offP 2) 1 5 (fun s => H.sh s 2 1 5 1 (sA H)) (H.sh ⟨#[99]⟩ 2 1 5 1 (sA H)) = 0
  unfold sigG
  rw [s_find]
  show (if cntB lawKey2 5 = true then (if H.sh ⟨#[99]⟩ 2 1 5 1 (sA H) = H.sh ⟨#[99]⟩ 2 1 5 1 (sA H) then (0 : Int) else 8) else 9) = 0
  rw [if_pos s_cnt5, if_pos rfl]
theorem s_chkB : chkHead H [lawKey2] (sHb H) = 0 := by
  show sigG [lawKey2] (offP 2) 1 9 (fun s => H.sh s 2 2 9 1 (H.nd (sA H) (sB H))) (H.sh ⟨#[99]⟩ 2 2 9 1 (H.nd (sA H) (sB H))) = 0
  unfold sigG
  rw [s_find]
  show (if cntB lawKey2 9 = true then (if H.sh ⟨#[99]⟩ 2 2 9 1 (H.nd (sA H) (sB H)) = H.sh ⟨#[99]⟩ 2 2 9 1 (H.nd (sA H) (sB H)) then (0 : Int) else 8) else 9) = 0
  rw [if_pos s_cnt9, if_pos rfl]
theorem s_chkR : chkRcpt H [lawKey2] (sRc H) = 0 := by
  show sigG [lawKey2] (offP 2) 1 5 (fun s => H.sr s 2 1 (sA H)) (H.sr ⟨#[99]⟩ 2 1 (sA H)) = 0
  unfold sigG
  rw [s_find]
  show (if cntB lawKey2 5 = true then (if H.sr ⟨#[99]⟩ 2 1 (sA H) = H.sr ⟨#[99]⟩ 2 1 (sA H) then (0 : Int) else 8) else 9) = 0
  rw [if_pos s_cnt5, if_pos rfl]
theorem s_checkI (x : Nat) : checkI H.nd x 0 2 [sB H] (H.nd (sA H) (sB H)) = decide (H.nd x (sB H) = H.nd (sA H) (sB H)) := by
  have h := checkI_ref H.nd x 0 2 (H.nd (sA H) (sB H)) [sB H] (by omega) (by omega) (by omega)
  have h2 := climbR_left H.nd x 0 2 [] (sB H) (by omega) (by rw [split2]; omega)
  rw [List.nil_append] at h2
  rw [show ((0 : Nat) : Int) = 0 by rfl, show ((2 : Nat) : Int) = 2 by rfl] at h
  rw [h, h2, show Merk.split 2 = 1 from split2, climbR_one H.nd x 0 1 [] (by omega)]
  simp
theorem s_checkC : checkC H.nd H.em 1 2 (sA H) (H.nd (sA H) (sB H)) [sB H] = true := by
  have h := checkC_old H.nd H.em [sA H, sB H] 1 (by simp) (by simp) (by simp) (sA H) (.inr (.inr (.inl (by simp [root_one]))))
  have h2 : oldP H.nd H.em [sA H, sB H] 1 = [sB H] := by
    unfold oldP
    rw [if_neg (by simp), Merk.csy_left H.nd H.em true (by simp) (by simp) (by rw [show Merk.split [sA H, sB H].length = 1 from split2]; omega), show Merk.split [sA H, sB H].length = 1 from split2, Merk.csy_true H.nd H.em (by simp)]
    simp [root_one]
  rw [h2, root_pair, show ([sA H, sB H].take 1) = [sA H] by rfl, root_one, decide_eq_true rfl] at h
  exact h
theorem s_shown : chkShown H [lawKey2] (sSh H) = 0 := by
  unfold chkShown
  rw [if_pos ⟨by show (1 : Int) ≤ 1; decide, by show (1 : Int) ≤ 2; decide⟩, show (sSh H).head = sHb H from rfl, if_pos (s_chkB H)]
  have h := s_checkI H (sA H)
  rw [decide_eq_true rfl] at h
  rw [if_pos (show checkI H.nd (H.lf (sSh H).face) ((sSh H).face.commit - 1) (sHb H).commit (sSh H).path (sHb H).root = true from h)]
theorem s_shownBad (hne : H.nd (H.lf (sBadF H)) (sB H) ≠ H.nd (sA H) (sB H)) : chkShown H [lawKey2] (sBad H) = 3 := by
  unfold chkShown
  rw [if_pos ⟨by show (1 : Int) ≤ 1; decide, by show (1 : Int) ≤ 2; decide⟩, show (sBad H).head = sHb H from rfl, if_pos (s_chkB H)]
  have h := s_checkI H (H.lf (sBadF H))
  rw [decide_eq_false hne] at h
  rw [if_neg (by rw [show checkI H.nd (H.lf (sBad H).face) ((sBad H).face.commit - 1) (sHb H).commit (sBad H).path (sHb H).root = false from h]; decide)]
theorem s_heads : chkHeads H [lawKey2] (sHa H) (sHb H) [sB H] = 0 := by
  unfold chkHeads
  rw [if_pos ⟨rfl, by show (1 : Int) ≤ 2; decide, by show (5 : Int) ≤ 9; decide⟩, if_pos (s_chkA H), if_pos (s_chkB H), if_pos (show checkC H.nd H.em (sHa H).commit (sHb H).commit (sHa H).root (sHb H).root [sB H] = true from s_checkC H)]
theorem s_refutes : refutes H [lawKey2] (sRc H) (sSh H) = false := by
  unfold refutes
  rw [show decide ((sRc H).face = (sSh H).face) = true by rw [decide_eq_true_eq]; rfl]
  simp
theorem s_refutesBad (hne : H.nd (H.lf (sBadF H)) (sB H) ≠ H.nd (sA H) (sB H)) : refutes H [lawKey2] (sRc H) (sBad H) = false := by
  unfold refutes
  rw [s_shownBad H hne]
  simp
theorem s_valid : validG H (sL4 H) = true := by
  unfold validG
  rw [show decide (0 ≤ (sL4 H).office ∧ (sL4 H).office < 32 ∧ (sL4 H).events.length ≤ 65536) = true by rw [decide_eq_true_eq]; exact ⟨by show (0 : Int) ≤ 2; omega, by show (2 : Int) < 32; omega, by show 2 ≤ 65536; omega⟩]
  rw [show okGo 0 0 (sL4 H).events = true by show okGo 0 0 [sOne, sTurn] = true; decide]
  rw [show leavesOf H (sL4 H).events = [sA H, sB H] from rfl, peaks_two]
  rw [show decide ((sL4 H).size = ((sL4 H).events.length : Int)) = true from rfl, show decide ([H.nd (sA H) (sB H)] = (sL4 H).tops) = true by rw [decide_eq_true_eq]; rfl]
  have h : headsGo H (sL4 H).office (sL4 H).events 0 (sL4 H).heads = true := by
    show headsGo H 2 [sOne, sTurn] 0 [sHa H, sHb H] = true
    unfold headsGo
    rw [if_pos ⟨rfl, by show (0 : Int) ≤ 1; decide, by show (1 : Int) ≤ 2; decide, rfl, by rw [s_leaves]; show root H.nd H.em [sA H] = sA H; rw [root_one]⟩]
    unfold headsGo
    rw [if_pos ⟨rfl, by show (1 : Int) ≤ 2; decide, by show (2 : Int) ≤ 2; decide, rfl, by rw [s_leaves]; exact root_pair H.nd H.em (sA H) (sB H)⟩]
    rfl
  rw [h]
  rfl
theorem s_forked : forked H [lawKey2] (sHa H) (sHb H) = false := by
  unfold forked
  rw [show decide ((sHa H).commit = (sHb H).commit) = false from rfl]
  simp
end
end Go.Proofs.YtcapckngikekpaaGreatDoor
namespace Go.Proofs.YtcapckngikekpaaGreatDoor
set_option linter.unusedSimpArgs false
set_option linter.unusedVariables false
open Go.RowKit Exch Merk Ring
theorem cell_lt {w : World} {p : Addr} {v : Value} (h : w.cell? p = some v) : p.block < w.heap.size := by
  rcases Nat.lt_or_ge p.block w.heap.size with hl | hl
  · exact hl
  · exfalso
    have : w.cell? p = none := by
      have hn : w.heap[p.block]? = none := Array.getElem?_eq_none hl
      simp [World.cell?, World.cells?, hn]
    rw [this] at h; cases h
/-- Memory has grown, and of what stood the row at g alone may be another one. -/
structure Kp (g : Nat) (w w' : World) : Prop where
  below : ∀ B, B ≤ g → B ≤ w.heap.size → Below B w w'
  size : w.heap.size ≤ w'.heap.size
  far : ∀ k, k < w.heap.size → k ≠ g → w'.heap[k]? = w.heap[k]?
section
variable {g : Nat} {w w1 w2 : World}
theorem Kp.of (h : Below w.heap.size w w1) : Kp g w w1 := ⟨fun B _ hB => h.mono hB, h.size, fun k hk _ => h.block k hk⟩
theorem Kp.turn (h : Kp g w w1) (ht : Turned g w1 w2) : Kp g w w2 := ⟨fun B h1 h2 => (h.below B h1 h2).trans (ht.below B h1), by rw [ht.size]; exact h.size, fun k hk hn => (ht.far k hn).trans (h.far k hk hn)⟩
theorem Kp.turnNew {k : Nat} (h : Kp g w w1) (ht : Turned k w1 w2) (hk : w.heap.size ≤ k) : Kp g w w2 := ⟨fun B h1 h2 => (h.below B h1 h2).trans (ht.below B (by omega)), by rw [ht.size]; exact h.size, fun j hj hn => (ht.far j (by omega)).trans (h.far j hj hn)⟩
theorem Kp.step (h : Kp g w w1) (hb : Below w1.heap.size w1 w2) : Kp g w w2 := ⟨fun B h1 h2 => (h.below B h1 h2).trans (hb.mono (by have := h.size; omega)), by have := h.size; have := hb.size; omega, fun k hk hn => (hb.block k (by have := h.size; omega)).trans (h.far k hk hn)⟩
theorem Kp.blk (h : Kp g w w1) {k : Nat} {T : TypeId} {cs : Array Value} (hb : Blk w k T cs) (hk : k ≠ g) : Blk w1 k T cs := (h.far k hb.lt hk).trans hb
theorem Kp.rd (h : Kp g w w1) {A : Option Addr} {n : Nat} {xs : List Value} (hr : Rd w A n xs) (ha : Away A g) : Rd w1 A n xs :=
  ⟨hr.len, fun k u hk => by
    obtain ⟨ad, e, hc⟩ := hr.at_ k u hk
    refine ⟨ad, e, ?_⟩
    have hlt : (ad.add k).block < w.heap.size := by
      rcases Nat.lt_or_ge (ad.add k).block w.heap.size with hl | hl
      · exact hl
      · exfalso
        have : w.cell? (ad.add k) = none := by
          have hn : w.heap[(ad.add k).block]? = none := Array.getElem?_eq_none hl
          simp [World.cell?, World.cells?, hn]
        rw [this] at hc; cases hc
    rw [World.cell?_of_block (h.far _ hlt (by rw [block_of_add]; exact ha ad e))]
    exact hc⟩
theorem Kp.ev (h : Kp g w w1) {v : EvR} (hv : EvOk w v) (ha : EvAway g v) : EvOk w1 v :=
  ⟨hv.vlen, h.rd hv.vrd ha.1, hv.vcap, hv.vmax, ⟨hv.ard.len, h.rd hv.ard.rd ha.2⟩, hv.acap, hv.amax, hv.non⟩
end
theorem wpList_build8 {P : Program} {w : World} {ops : Array Oper} {rest : List Oper} {o : Oper} {a : Act} {Q : Exit → Act → World → Prop} (hgd : o.guard = none) {T : TypeId} {i0 i1 i2 i3 i4 i5 i6 i7 : Nat} {x0 x1 x2 x3 x4 x5 x6 x7 : Operand} {v0 v1 v2 v3 v4 v5 v6 v7 v : Value} (ho : o.op = .build T #[(i0, x0), (i1, x1), (i2, x2), (i3, x3), (i4, x4), (i5, x5), (i6, x6), (i7, x7)]) (h0 : a.eval x0 = v0) (h1 : a.eval x1 = v1) (h2 : a.eval x2 = v2) (h3 : a.eval x3 = v3) (h4 : a.eval x4 = v4) (h5 : a.eval x5 = v5) (h6 : a.eval x6 = v6) (h7 : a.eval x7 = v7)
    (hr : ∀ W, (Instr.build T #[(i0, v0), (i1, v1), (i2, v2), (i3, v3), (i4, v4), (i5, v5), (i6, v6), (i7, v7)]).run P W = .ok v W) (h : wpList P ops Q rest (a.put o.dst v) w) : wpList P ops Q (o :: rest) a w := by
  refine wpList_plain hgd fun K hK => ?_
  unfold Oper.wp execOp
  simp only [ho, List.map_toArray, List.map_cons, List.map_nil, h0, h1, h2, h3, h4, h5, h6, h7, Sem.run_bind, hr, Result.andThen_ok, Sem.run_pure]
  exact hK _ _ h
theorem build_Ev8 (A : Option Addr) (n : Nat) (W : World) : (Instr.build 27 #[(0, .int .i64 1), (1, .int .i64 1), (2, .int .i64 5), (3, .int .i64 7), (4, .int .i64 3), (5, .int .i64 9), (7, .slice A 2 2), (9, dgV n)]).run Tryz.prog W = .ok (evV ⟨⟨1, 1, 5, 7, 3, 9, 0, [1, 2], [], n⟩, A, 2, 2, none, 0, 0⟩) W := by kernel_rfl
theorem build_Ev3 (k c d : Int) (W : World) : (Instr.build 27 #[(0, .int .i64 k), (1, .int .i64 c), (2, .int .i64 d)]).run Tryz.prog W = .ok (evV ⟨⟨k, c, d, 0, 0, 0, 0, [], [], 0⟩, none, 0, 0, none, 0, 0⟩) W := by kernel_rfl
theorem build_Dg8 (W : World) : (Instr.build 25 #[(0, .int .u8 8)]).run Tryz.prog W = .ok (dgV sNon) W := by
  rw [show dgV sNon = .agg (bv (8 :: List.replicate 15 0)).toArray by rw [dg_bv, sNon_dg]]
  kernel_rfl
theorem build1_KyL (k : Key) (W : World) : (Instr.buildSlice 82 1 #[(0, keyV k)]).run Tryz.prog W = .ok (.slice (some ⟨W.heap.size, 0, none⟩) 1 1) (W.alloc (.cells (keyC k) 44)) := by kernel_rfl
theorem wpList_lit1Key {w : World} {ops : Array Oper} {rest : List Oper} {o : Oper} {a : Act} {Q : Exit → Act → World → Prop} (hgd : o.guard = none) {x : Operand} {k : Key} (ho : o.op = .buildSlice 82 1 #[(0, x)]) (hx : a.eval x = keyV k)
    (h : ∀ w' g, RdK w' (some ⟨g, 0, none⟩) 1 [k] → Below w.heap.size w w' → wpList Tryz.prog ops Q rest (a.put o.dst (.slice (some ⟨g, 0, none⟩) 1 1)) w') : wpList Tryz.prog ops Q (o :: rest) a w := by
  have hr := blk_rd (xs := kv k) (Blk.new w 44 (kv k).toArray)
  have h2 := h _ _ ⟨rfl, by rw [kv_len] at hr; simpa [kvs] using hr⟩ ((Below.refl _ _).alloc (Nat.le_refl _) _)
  refine wpList_plain hgd fun K hK => ?_
  unfold Oper.wp execOp
  simp only [ho, List.map_toArray, List.map_cons, List.map_nil, hx, build1_KyL, Sem.run_bind, Result.andThen_ok, Sem.run_pure]
  exact hK _ _ h2
/-- Small events, of 64 bits. -/
theorem fine_of {l : List EvR} {es : List Ev} (h : evsOf l = es) (hf : ∀ e ∈ es, EvWf e ∧ EvFew e) : EvFine l := fun x hx => hf x.e (by rw [← h]; exact List.mem_map_of_mem hx)
theorem fine_nil (k c d i o t f : Int) (n : Nat) (h : fits64 [k, c, d, i, o, t, f]) : EvWf ⟨k, c, d, i, o, t, f, [], [], n⟩ ∧ EvFew ⟨k, c, d, i, o, t, f, [], [], n⟩ :=
  ⟨⟨fun x hx => absurd hx List.not_mem_nil, fun x hx => absurd hx List.not_mem_nil, h⟩, ⟨Nat.zero_le _, Nat.zero_le _, fun x hx => absurd hx List.not_mem_nil⟩⟩
theorem fits_of {l : List Int} (h : l.all (fun x => decide (-9223372036854775808 ≤ x) && decide (x ≤ 9223372036854775807)) = true) : fits64 l := by
  intro x hx
  have := List.all_eq_true.1 h x hx
  rw [Bool.and_eq_true, decide_eq_true_eq, decide_eq_true_eq] at this
  exact this
theorem fine_one : EvWf sOne ∧ EvFew sOne := ⟨⟨fits_of (by decide), fun x hx => absurd hx List.not_mem_nil, fits_of (by decide)⟩, ⟨by decide, by decide, fun x hx => absurd hx List.not_mem_nil⟩⟩
theorem fine_turn : EvWf sTurn ∧ EvFew sTurn := fine_nil _ _ _ _ _ _ _ _ (fits_of (by decide))
theorem fine_turn4 : EvWf sTurn4 ∧ EvFew sTurn4 := fine_nil _ _ _ _ _ _ _ _ (fits_of (by decide))
theorem fine_turn3 : EvWf sTurn3 ∧ EvFew sTurn3 := fine_nil _ _ _ _ _ _ _ _ (fits_of (by decide))
/-- An event without vector and attributes. -/
abbrev bareR (e : Ev) : EvR := ⟨e, none, 0, 0, none, 0, 0⟩
theorem bare_ok (W : World) (k c d : Int) : EvOk W (bareR ⟨k, c, d, 0, 0, 0, 0, [], [], 0⟩) := ⟨rfl, Rd.none_ W, Nat.le_refl _, Nat.zero_le _, ⟨rfl, Rd.none_ W⟩, Nat.le_refl _, Nat.zero_le _, by show 0 < 2 ^ 128; decide⟩
theorem bare_away (g : Nat) (e : Ev) : EvAway g (bareR e) := ⟨Away.none g, Away.none g⟩
/-- Sizes of what reads as a ledger. -/
structure LgSz (r : LgR) (L : Lg) : Prop where
  off : r.o = L.office
  en : r.en = L.events.length
  tn : r.tn = L.tops.length
  hn : r.hn = L.heads.length
  ev : evsOf r.es = L.events
  hs : r.hs = L.heads
theorem LgSz.of {W : World} {r : LgR} {L : Lg} (h : LgOk W r) (e : lgOf r = L) : LgSz r L := by
  subst e
  exact ⟨rfl, by show r.en = (evsOf r.es).length; rw [evsOf_len, h.ev.len], h.tp.len.symm, h.hd.len.symm, rfl, rfl⟩
theorem one_shSet (r : ShR) (v : Int) : (shC r).setIfInBounds 5 (.int .i64 v) = shC ⟨⟨{ r.s.face with til := v }, r.s.path, r.s.head⟩, r.A, r.n, r.c⟩ := by simp [shC, shL, fcL]
theorem wf_lawKey2 : WfK lawKey2 := ⟨by decide, by decide, by decide, by decide, by decide⟩
theorem ring_lawKey2 : Sorted [lawKey2] ∧ (∀ k ∈ [lawKey2], validB k = true) := ⟨by simp [Sorted], fun k hk => by rw [List.mem_singleton.1 hk]; decide +kernel⟩
end Go.Proofs.YtcapckngikekpaaGreatDoor
namespace Go.Proofs.YtcapckngikekpaaGreatDoor
set_option linter.unusedSimpArgs false
set_option linter.unusedVariables false
open Go.RowKit Exch Merk Ring
set_option maxRecDepth 100000 in
set_option maxHeartbeats 8000000 in
theorem checkShown_any {H : He} (L : Les H) (ring : List Key) (A : Option Addr) (n c : Nat) (s : ShR) (w : World) (hn : n ≤ 1000) (hr : RdK w A n ring) (hs : Sorted ring) (hv : ∀ k ∈ ring, validB k = true) (hsf : FcFit s.s.face) (hsh : HdFit s.s.head) (hk : ShOk w s) (hm : s.n ≤ 1000) (hg : GCon w) :
    Calls Tryz.prog 38 #[.slice A n c, shV s] w fun e w' => e = .returned (.int .i64 (chkShown H ring s.s)) ∧ Below w.heap.size w w' := by
  obtain ⟨wa, hwa, hb0, q1⟩ := shBox w s
  have HWA := Lib.hid hwa
  have HQ := Lib.hid (fun W (h : Below wa.heap.size wa W) => q1.below h)
  have c1 := sh_c1 q1
  have c25 := sh_c25 q1
  have HH := Lib.hid (fun W (h : Below w.heap.size w W) => checkHead_any L ring A n c s.s.head W hn (hr.below h) hs hv hsh.all hk.hd.sig (hg.below h))
  have HL := Lib.hid (fun W (h : Below w.heap.size w W) => leafF_any L s.s.face W hsf.all (hg.below h))
  have HC := Lib.hid (fun W (h : Below w.heap.size w W) => checkI_any L.nds (H.lf s.s.face) s.s.head.root (s.s.face.commit - 1) s.s.head.commit s.s.path s.A s.n s.c W (L.llt _) hk.hd.root (by omega) (hk.below h).rd hk.nc hk.cm (hg.below h))
  have hfc := hsf.commit
  have hfa := fcL_len s.s.face
  have hla := hdL_len s.s.head
  have HV : Hid (chkShown H ring s.s = if 1 ≤ s.s.face.commit ∧ s.s.face.commit ≤ s.s.head.commit then (if chkHead H ring s.s.head = 0 then (if checkI H.nd (H.lf s.s.face) (s.s.face.commit - 1) s.s.head.commit s.s.path s.s.head.root = true then 0 else 3) else chkHead H ring s.s.head) else 1) := Lib.hid rfl
  generalize chkShown H ring s.s = X at *
  generalize chkHead H ring s.s.head = RA at *
  generalize checkI H.nd (H.lf s.s.face) (s.s.face.commit - 1) s.s.head.commit s.s.path s.s.head.root = K at *
  unfold isD BIs at *
  generalize H.lf s.s.face = LF at *
  obtain ⟨fc, hfce⟩ : ∃ x, s.s.face.commit = x := ⟨_, rfl⟩
  obtain ⟨hc, hhce⟩ : ∃ x, s.s.head.commit = x := ⟨_, rfl⟩
  rw [hfce] at HC HV c1 hfc
  rw [hhce] at HC HV c25
  have HF := Lib.hid hfce
  have HHC := Lib.hid hhce
  clear hwa q1 hr hv hsf hsh hk hg L hfce hhce
  by_cases hin : 1 ≤ fc ∧ fc ≤ hc
  · have hd1 : decide (fc < 1) = false := by rw [decide_eq_false_iff_not]; omega
    have hd2 : decide (hc < fc) = false := by rw [decide_eq_false_iff_not]; omega
    have HV2 : Hid (X = if RA = 0 then (if K = true then 0 else 3) else RA) := Lib.hid (by rw [HV.out, if_pos hin])
    clear HV
    have hwr : Go.IntKind.i64.wrap (fc - 1) = fc - 1 := by rw [IntKind.wrap_i64]; omega
    clear hin hfc
    rcases zero_tests RA with ⟨hra, e1, f1, d1⟩ | ⟨hra, e1, f1, d1⟩
    · have HV3 : Hid (X = if K = true then 0 else 3) := Lib.hid (by rw [HV2.out, if_pos hra])
      clear HV2 hra
      go_enter Tryz.func38, Tryz.ntmps38
      go_upto_region 1 with fail
      change Code.wp _ _ _ _ (w.alloc (.cells (shC s) 63))
      rw [← HWA.out]
      have hch := sh_r24 (HQ.out _ (Below.refl _ _))
      go_wp2_with ((with_reducible show wpList _ _ _ (⟨some 21, _, _, _, _, _⟩ :: _) _ _); refine wpList_loadK (us := hdL s.s.head) rfl rfl rfl aggHd (by rw [sizeHd, hla]) hch ?_)
      refine (HH.out _ hb0).mono ?_
      rintro e w1 ⟨rfl, hb1⟩
      clear hch
      have d1 := sh_c1 (HQ.out _ hb1)
      have d25 := sh_c25 (HQ.out _ hb1)
      rw [HF.out] at d1
      rw [HHC.out] at d25
      have d23 := sh_c23 (HQ.out _ hb1)
      have df := sh_r0 (HQ.out _ hb1)
      have dr := sh_r27 (HQ.out _ hb1)
      replace hb0 := bstep hb0 hb1
      clear c1 c25 hb1
      go_upto_region 6 with fail
      have hS : Below w1.heap.size w1 w1.drew := (Below.refl _ _).drew
      refine wp_region_T 17 (by kernel_rfl) ?_
      refine WpT.tk 0 (hS) ?_
      try simp only [nrm]
      refine WpT.tl 1 rfl (yields_loadK (us := fcL s.s.face) rfl rfl rfl aggFc (by rw [sizeFc, hfa]) df) (hS) ?_
      try simp only [nrm]
      refine WpT.tk 3 (hS) ?_
      try simp only [nrm]
      refine WpT.tk 4 (hS) ?_
      try simp only [nrm]
      refine WpT.tl 5 rfl (yields_load rfl rfl rfl (by kernel_rfl) d1) (hS) ?_
      try simp only [nrm]
      refine WpT.tk 6 (hS) ?_
      try simp only [nrm]
      refine WpT.tk 7 (hS) ?_
      try simp only [nrm]
      refine WpT.tk 8 (hS) ?_
      try simp only [nrm]
      refine WpT.tl 9 rfl (yields_load rfl rfl rfl (by kernel_rfl) d25) (hS) ?_
      try simp only [nrm]
      refine WpT.tk 10 (hS) ?_
      try simp only [nrm]
      refine WpT.tl 11 rfl (yields_load rfl rfl rfl (by kernel_rfl) d23) (hS) ?_
      try simp only [nrm]
      refine WpT.tk 12 (hS) ?_
      try simp only [nrm]
      refine WpT.tk 13 (hS) ?_
      try simp only [nrm]
      refine WpT.tl 14 rfl (yields_loadK (us := bv (dg s.s.head.root)) rfl rfl rfl aggDg (by rw [sizeDg, bv_dg_len]) dr) (hS) ?_
      try simp only [nrm]
      refine WpT.on 2 rfl (fun K hK => ?_)
      go_simp; refine (HL.out _ (bstep hb0 hS)).mono ?_; rintro e w4 ⟨rfl, hb4⟩; replace hS := bstep hS hb4
      refine hK _ _ (hS) ?_; clear hK K; try simp only [nrm]
      refine WpT.on 15 rfl (fun K hK => ?_)
      go_simp; refine (HC.out _ (bstep hb0 hS)).mono ?_; rintro e w5 ⟨rfl, hb5⟩; replace hS := bstep hS hb5
      refine hK _ _ (hS) ?_; clear hK K; try simp only [nrm]
      refine WpT.tk 16 (hS) ?_
      try simp only [nrm]
      refine WpT.done (by kernel_rfl) ?_ _
      skip
      rcases K with _ | _
      all_goals (have hX := HV3.out; simp at hX; subst hX; go_wp2_with fail; go_ret; exact ⟨rfl, bstep hb0 hS⟩)
    · have hX : X = RA := by rw [HV2.out, if_neg hra]
      subst hX
      clear HV2 hra
      go_enter Tryz.func38, Tryz.ntmps38
      go_upto_region 1 with fail
      change Code.wp _ _ _ _ (w.alloc (.cells (shC s) 63))
      rw [← HWA.out]
      have hch := sh_r24 (HQ.out _ (Below.refl _ _))
      go_wp2_with ((with_reducible show wpList _ _ _ (⟨some 21, _, _, _, _, _⟩ :: _) _ _); refine wpList_loadK (us := hdL s.s.head) rfl rfl rfl aggHd (by rw [sizeHd, hla]) hch ?_)
      refine (HH.out _ hb0).mono ?_
      rintro e w1 ⟨rfl, hb1⟩
      go_wp2_with fail
      go_ret
      exact ⟨rfl, bstep hb0 hb1⟩
  · have hX : X = 1 := by rw [HV.out, if_neg hin]
    subst hX
    clear HV
    by_cases h1 : fc < 1
    · have hd1 : decide (fc < 1) = true := by rw [decide_eq_true_eq]; omega
      clear hin
      go_enter Tryz.func38, Tryz.ntmps38
      go_upto_region 1 with fail
      change Code.wp _ _ _ _ (w.alloc (.cells (shC s) 63))
      rw [← HWA.out]
      go_wp2_with fail
      go_ret
      exact ⟨rfl, hb0⟩
    · have hd1 : decide (fc < 1) = false := by rw [decide_eq_false_iff_not]; omega
      have hd2 : decide (hc < fc) = true := by rw [decide_eq_true_eq]; omega
      clear hin h1
      go_enter Tryz.func38, Tryz.ntmps38
      go_upto_region 1 with fail
      change Code.wp _ _ _ _ (w.alloc (.cells (shC s) 63))
      rw [← HWA.out]
      go_wp2_with fail
      go_ret
      exact ⟨rfl, hb0⟩
set_option maxRecDepth 100000 in
set_option maxHeartbeats 8000000 in
theorem refutes_any {H : He} (L : Les H) (ring : List Key) (A : Option Addr) (n c : Nat) (r : Rc) (s : ShR) (w : World) (hn : n ≤ 1000) (hr : RdK w A n ring) (hso : Sorted ring) (hv : ∀ k ∈ ring, validB k = true) (hf : fits64 [r.office, r.serial]) (hrf : FcFit r.face) (hrs : r.sig < 2 ^ 128) (hrb : r.face.blind < 2 ^ 128) (hsf : FcFit s.s.face) (hsh : HdFit s.s.head) (hs : ShOk w s) (hm : s.n ≤ 1000) (hg : GCon w) :
    Calls Tryz.prog 44 #[.slice A n c, rcV r, shV s] w fun e w' => e = .returned (.bool (refutes H ring r s.s)) ∧ Below w.heap.size w w' := by
  obtain ⟨wa, hwa, hb0, q1, q2⟩ := box2 w (rcC r) (shC s) 69 63
  have HWA := Lib.hid hwa
  have HQ1 := Lib.hid (fun W (h : Below wa.heap.size wa W) => q1.below h)
  have HQ2 := Lib.hid (fun W (h : Below wa.heap.size wa W) => q2.below h)
  have HA := Lib.hid (fun W (h : Below w.heap.size w W) => checkRcpt_any L ring A n c r W hn (hr.below h) hso hv hf hrf.all hrs (hg.below h))
  have HB := Lib.hid (fun W (h : Below w.heap.size w W) => checkShown_any L ring A n c s W hn (hr.below h) hso hv hsf hsh (hs.below h) hm (hg.below h))
  have ra := hrb
  have rb := hs.bl
  have hla := rcL_len r
  have hlb := shL_len s
  have hfa := fcL_len r.face
  have hfb := fcL_len s.s.face
  have hca := blk_row (xs := rcL r) q1
  have HV : Hid (refutes H ring r s.s = (decide (chkRcpt H ring r = 0) && (decide (chkShown H ring s.s = 0) && (decide (r.office = s.s.head.office) && (decide (r.face.commit = s.s.face.commit) && !decide (r.face = s.s.face)))))) := Lib.hid rfl
  generalize refutes H ring r s.s = X at *
  generalize chkRcpt H ring r = RA at *
  generalize chkShown H ring s.s = RB at *
  clear hwa q1 q2 hr hv hf hrf hrs hrb hsf hsh hs hg L
  rcases zero_tests RA with ⟨-, e1, f1, d1⟩ | ⟨-, e1, f1, d1⟩
  rotate_left
  · have hX : X = false := by rw [HV.out]; simp only [d1]; simp
    rw [hX]
    clear hX HV
    go_enter Tryz.func44, Tryz.ntmps44
    go_upto_region 1 with fail
    change Code.wp _ _ _ _ ((w.alloc (.cells (rcC r) 69)).alloc (.cells (shC s) 63))
    rw [← HWA.out]
    go_wp2_with ((with_reducible show wpList _ _ _ (⟨some 8, _, _, _, _, _⟩ :: _) _ _); refine wpList_loadK (us := rcL r) rfl rfl rfl aggRc (by rw [sizeRc, hla]) hca ?_)
    refine (HA.out _ hb0).mono ?_
    rintro e w1 ⟨rfl, hS⟩
    go_wp2_with fail
    go_ret
    exact ⟨rfl, bstep hb0 hS⟩
  rcases zero_tests RB with ⟨-, e2, f2, d2⟩ | ⟨-, e2, f2, d2⟩
  rotate_left
  · have hX : X = false := by rw [HV.out]; simp only [d1, d2]; simp
    rw [hX]
    clear hX HV
    go_enter Tryz.func44, Tryz.ntmps44
    go_upto_region 1 with fail
    change Code.wp _ _ _ _ ((w.alloc (.cells (rcC r) 69)).alloc (.cells (shC s) 63))
    rw [← HWA.out]
    go_wp2_with ((with_reducible show wpList _ _ _ (⟨some 8, _, _, _, _, _⟩ :: _) _ _); refine wpList_loadK (us := rcL r) rfl rfl rfl aggRc (by rw [sizeRc, hla]) hca ?_)
    refine (HA.out _ hb0).mono ?_
    rintro e w1 ⟨rfl, hS⟩
    have hcb := blk_row (xs := shL s) (HQ2.out _ hS)
    go_wp2_with ((with_reducible show wpList _ _ _ (⟨some 13, _, _, _, _, _⟩ :: _) _ _); refine wpList_loadKW (us := shL s) (by rfl) rfl rfl aggSh (by rw [sizeSh, hlb]) hcb ?_)
    refine (HB.out _ (bstep hb0 hS)).mono ?_
    rintro e w2 ⟨rfl, hb2⟩
    replace hS := bstep hS hb2
    have ca0 := rc_c0 (HQ1.out _ hS)
    have ca2 := rc_c2 (HQ1.out _ hS)
    have ca3 := rc_r1 (HQ1.out _ hS)
    have cb0 := sh_c24 (HQ2.out _ hS)
    have cb1 := sh_c1 (HQ2.out _ hS)
    have cb3 := sh_r0 (HQ2.out _ hS)
    go_wp2_with fail
    go_ret
    exact ⟨rfl, bstep hb0 hS⟩
  rcases int_tests r.office s.s.head.office with ⟨-, e3, f3, d3⟩ | ⟨-, e3, f3, d3⟩
  rotate_left
  · have hX : X = false := by rw [HV.out]; simp only [d1, d2, d3]; simp
    rw [hX]
    clear hX HV
    go_enter Tryz.func44, Tryz.ntmps44
    go_upto_region 1 with fail
    change Code.wp _ _ _ _ ((w.alloc (.cells (rcC r) 69)).alloc (.cells (shC s) 63))
    rw [← HWA.out]
    go_wp2_with ((with_reducible show wpList _ _ _ (⟨some 8, _, _, _, _, _⟩ :: _) _ _); refine wpList_loadK (us := rcL r) rfl rfl rfl aggRc (by rw [sizeRc, hla]) hca ?_)
    refine (HA.out _ hb0).mono ?_
    rintro e w1 ⟨rfl, hS⟩
    have hcb := blk_row (xs := shL s) (HQ2.out _ hS)
    go_wp2_with ((with_reducible show wpList _ _ _ (⟨some 13, _, _, _, _, _⟩ :: _) _ _); refine wpList_loadKW (us := shL s) (by rfl) rfl rfl aggSh (by rw [sizeSh, hlb]) hcb ?_)
    refine (HB.out _ (bstep hb0 hS)).mono ?_
    rintro e w2 ⟨rfl, hb2⟩
    replace hS := bstep hS hb2
    have ca0 := rc_c0 (HQ1.out _ hS)
    have ca2 := rc_c2 (HQ1.out _ hS)
    have ca3 := rc_r1 (HQ1.out _ hS)
    have cb0 := sh_c24 (HQ2.out _ hS)
    have cb1 := sh_c1 (HQ2.out _ hS)
    have cb3 := sh_r0 (HQ2.out _ hS)
    go_wp2_with fail
    go_ret
    exact ⟨rfl, bstep hb0 hS⟩
  rcases int_tests r.face.commit s.s.face.commit with ⟨-, e4, f4, d4⟩ | ⟨-, e4, f4, d4⟩
  rotate_left
  · have hX : X = false := by rw [HV.out]; simp only [d1, d2, d3, d4]; simp
    rw [hX]
    clear hX HV
    go_enter Tryz.func44, Tryz.ntmps44
    go_upto_region 1 with fail
    change Code.wp _ _ _ _ ((w.alloc (.cells (rcC r) 69)).alloc (.cells (shC s) 63))
    rw [← HWA.out]
    go_wp2_with ((with_reducible show wpList _ _ _ (⟨some 8, _, _, _, _, _⟩ :: _) _ _); refine wpList_loadK (us := rcL r) rfl rfl rfl aggRc (by rw [sizeRc, hla]) hca ?_)
    refine (HA.out _ hb0).mono ?_
    rintro e w1 ⟨rfl, hS⟩
    have hcb := blk_row (xs := shL s) (HQ2.out _ hS)
    go_wp2_with ((with_reducible show wpList _ _ _ (⟨some 13, _, _, _, _, _⟩ :: _) _ _); refine wpList_loadKW (us := shL s) (by rfl) rfl rfl aggSh (by rw [sizeSh, hlb]) hcb ?_)
    refine (HB.out _ (bstep hb0 hS)).mono ?_
    rintro e w2 ⟨rfl, hb2⟩
    replace hS := bstep hS hb2
    have ca0 := rc_c0 (HQ1.out _ hS)
    have ca2 := rc_c2 (HQ1.out _ hS)
    have ca3 := rc_r1 (HQ1.out _ hS)
    have cb0 := sh_c24 (HQ2.out _ hS)
    have cb1 := sh_c1 (HQ2.out _ hS)
    have cb3 := sh_r0 (HQ2.out _ hS)
    go_wp2_with fail
    go_ret
    exact ⟨rfl, bstep hb0 hS⟩
  obtain ⟨fx, hface⟩ : ∃ x, (!decide (r.face = s.s.face)) = x := ⟨_, rfl⟩
  · have hX : X = fx := by rw [HV.out]; simp only [d1, d2, d3, d4, hface]; simp
    rw [hX]
    clear hX HV
    go_enter Tryz.func44, Tryz.ntmps44
    go_upto_region 1 with fail
    change Code.wp _ _ _ _ ((w.alloc (.cells (rcC r) 69)).alloc (.cells (shC s) 63))
    rw [← HWA.out]
    go_wp2_with ((with_reducible show wpList _ _ _ (⟨some 8, _, _, _, _, _⟩ :: _) _ _); refine wpList_loadK (us := rcL r) rfl rfl rfl aggRc (by rw [sizeRc, hla]) hca ?_)
    refine (HA.out _ hb0).mono ?_
    rintro e w1 ⟨rfl, hS⟩
    have hcb := blk_row (xs := shL s) (HQ2.out _ hS)
    go_wp2_with ((with_reducible show wpList _ _ _ (⟨some 13, _, _, _, _, _⟩ :: _) _ _); refine wpList_loadKW (us := shL s) (by rfl) rfl rfl aggSh (by rw [sizeSh, hlb]) hcb ?_)
    refine (HB.out _ (bstep hb0 hS)).mono ?_
    rintro e w2 ⟨rfl, hb2⟩
    replace hS := bstep hS hb2
    have ca0 := rc_c0 (HQ1.out _ hS)
    have ca2 := rc_c2 (HQ1.out _ hS)
    have ca3 := rc_r1 (HQ1.out _ hS)
    have cb0 := sh_c24 (HQ2.out _ hS)
    have cb1 := sh_c1 (HQ2.out _ hS)
    have cb3 := sh_r0 (HQ2.out _ hS)
    go_wp2_with (first
      | ((with_reducible show wpList _ _ _ (⟨some 36, _, _, _, _, _⟩ :: _) _ _); refine wpList_loadKW (us := fcL r.face) (by rfl) rfl rfl aggFc (by rw [sizeFc, hfa]) ca3 ?_)
      | ((with_reducible show wpList _ _ _ (⟨some 38, _, _, _, _, _⟩ :: _) _ _); refine wpList_loadKW (us := fcL s.s.face) (by rfl) rfl rfl aggFc (by rw [sizeFc, hfb]) cb3 ?_)
      | ((with_reducible show wpList _ _ _ (⟨some 39, _, _, _, _, _⟩ :: _) _ _); refine wpList_neqV (v := .bool fx) (by rfl) rfl rfl rfl (fun W => by kernel_rfl) (by rw [← hface]; exact neq_Fc ra rb _) ?_))
    go_ret
    exact ⟨rfl, bstep hb0 hS⟩
end Go.Proofs.YtcapckngikekpaaGreatDoor
namespace Go.Proofs.YtcapckngikekpaaGreatDoor
set_option linter.unusedSimpArgs false
set_option linter.unusedVariables false
open Go.RowKit Exch Merk Ring
set_option maxRecDepth 100000 in
set_option maxHeartbeats 32000000 in
theorem sanity_any {H : He} (L : Les H) (hne : H.nd (H.lf (sBadF H)) (sB H) ≠ H.nd (sA H) (sB H)) (w : World) (hg : GCon w) (hrc : RCon w) (hgb : GBru w) :
    Calls Tryz.prog 11 #[] w (BIs true w) := by
  have HNE := Lib.hid hne
  have HNW : Hid (∀ W, Calls Tryz.prog 18 #[.int .i64 2] W fun e w' => e = .returned (.tuple #[lgV (newLg 2), .int .i64 0]) ∧ Below W.heap.size W w') := Lib.hid (fun W => by
    have := newF_any 2 W
    rw [if_pos (by decide), if_pos (by decide)] at this
    exact this)
  have HKY := Lib.hid (fun W => lawKey2_any W)
  have HAPP := Lib.hid (fun (r : LgR) (M : Lg) (v : EvR) (W : World) (hb : Below w.heap.size w W) (h : LgOk W r) (e : lgOf r = M) (hv : EvOk W v) (hf : EvWf v.e ∧ EvFew v.e) (h1 : M.events.length ≤ 100) (h2 : M.tops.length ≤ 100) => (by
    have z := LgSz.of h e
    have := appendF_any L r v W h hv (by rw [z.en]; omega) (by rw [z.tn]; omega) hf.1 hf.2 (hg.below hb) (hgb.below hb)
    rw [e] at this; exact this : Calls Tryz.prog 23 #[lgV r, evV v] W (LgIs r v (appG H M v.e) W)))
  have HSEA := Lib.hid (fun (r : LgR) (M : Lg) (W : World) (hb : Below w.heap.size w W) (h : LgOk W r) (e : lgOf r = M) (ho : M.office = 2) (hf : ∀ e ∈ M.events, EvWf e ∧ EvFew e) (h1 : M.events.length ≤ 100) (h2 : M.tops.length ≤ 100) (h3 : M.heads.length ≤ 100) => (by
    have z := LgSz.of h e
    have := sealF_any L r lawKey2 W h (by rw [z.en]; omega) (by rw [z.hn]; omega) (by rw [z.tn]; omega) (fine_of z.ev hf) wf_lawKey2 (by decide) (by rw [z.off, ho]; decide) (hg.below hb)
    rw [e] at this; exact this : Calls Tryz.prog 24 #[lgV r, keyV lawKey2] W (SlIs r (sealG H M lawKey2) W)))
  have HRCP := Lib.hid (fun (r : LgR) (M : Lg) (W : World) (hb : Below w.heap.size w W) (h : LgOk W r) (e : lgOf r = M) (ho : M.office = 2) (hf : ∀ e ∈ M.events, EvWf e ∧ EvFew e) (h1 : M.events.length ≤ 100) => (by
    have z := LgSz.of h e
    have := rcptF_any L r lawKey2 1 W h (by rw [z.en]; omega) (fine_of z.ev hf) wf_lawKey2 (by decide) (by rw [z.off, ho]; decide) (hg.below hb)
    rw [e] at this; exact this : Calls Tryz.prog 29 #[lgV r, keyV lawKey2, .int .i64 1] W (RcIs (rcptG H M lawKey2 1) W)))
  have HF4 : ∀ e ∈ (sL4 H).events, EvWf e ∧ EvFew e := by intro e he; simp only [sL4, List.mem_cons, List.not_mem_nil, or_false] at he; rcases he with rfl | rfl; exact fine_one; exact fine_turn
  have HHI : ∀ (r : LgR), LgSz r (sL4 H) → HeadsIn r := fun r z x hx => by
    rw [z.hs] at hx; rw [z.en]
    simp only [sL4, List.mem_cons, List.not_mem_nil, or_false] at hx
    rcases hx with rfl | rfl
    · exact ⟨by show (0 : Int) ≤ 1; decide, by show (1 : Int) ≤ 2; decide⟩
    · exact ⟨by show (0 : Int) ≤ 2; decide, by show (2 : Int) ≤ 2; decide⟩
  have HPRF := Lib.hid (fun (r : LgR) (W : World) (hb : Below w.heap.size w W) (h : LgOk W r) (e : lgOf r = sL4 H) (hl : HdLt (sHb H)) => (by
    have z := LgSz.of h e
    have := proofF_any L r 1 (sHb H) W h (by rw [z.en]; show 2 ≤ 1000000; omega) (by rw [z.hn]; show 2 ≤ 1000000; omega) (fine_of z.ev HF4) (HHI r z) hl (hg.below hb)
    rw [e, s_proof] at this; exact this : Calls Tryz.prog 27 #[lgV r, .int .i64 1, hdV (sHb H)] W (ShIs (sSh H, 0) W)))
  have HCNS := Lib.hid (fun (r : LgR) (W : World) (hb : Below w.heap.size w W) (h : LgOk W r) (e : lgOf r = sL4 H) (hla : HdLt (sHa H)) (hlb : HdLt (sHb H)) => (by
    have z := LgSz.of h e
    have := consF_any L r (sHa H) (sHb H) W h (by rw [z.en]; show 2 ≤ 1000000; omega) (by rw [z.hn]; show 2 ≤ 1000000; omega) (fine_of z.ev HF4) (HHI r z) hla hlb (hg.below hb)
    rw [e, s_cons] at this; exact this : Calls Tryz.prog 28 #[lgV r, hdV (sHa H), hdV (sHb H)] W (ErIs ([sB H], 0) W)))
  have HVAL := Lib.hid (fun (r : LgR) (W : World) (hb : Below w.heap.size w W) (h : LgOk W r) (e : lgOf r = sL4 H) => (by
    have z := LgSz.of h e
    have := validF_any L r W h (by rw [z.en]; show 2 ≤ 1000000; omega) (by rw [z.hn]; show 2 ≤ 1000000; omega) (by rw [z.tn]; show 1 ≤ 1000; omega) (fine_of z.ev HF4) (hg.below hb) (hgb.below hb)
    rw [e, s_valid] at this; exact this : Calls Tryz.prog 22 #[lgV r] W (BIs true W)))
  have HF1 : Hid (∀ e ∈ (sL1 H).events, EvWf e ∧ EvFew e) := Lib.hid (by intro e he; simp only [sL1, List.mem_cons, List.not_mem_nil, or_false] at he; subst he; exact fine_one)
  have HF3 : Hid (∀ e ∈ (sL3 H).events, EvWf e ∧ EvFew e) := Lib.hid HF4
  have HLF := Lib.hid (fun f W (hf : FcFit f) (hb : Below w.heap.size w W) => refLeafF_any L f W hf.all (hrc.below hb))
  have hfb : FcFit (sBadF H) ∧ FcFit (faceOf H sOne) := ⟨⟨fits_of (by rfl)⟩, ⟨fits_of (by rfl)⟩⟩
  have hfh : HdFit (sHa H) ∧ HdFit (sHb H) := ⟨⟨fits_of (by rfl)⟩, ⟨fits_of (by rfl)⟩⟩
  have hfr : fits64 [(sRc H).office, (sRc H).serial] := fits_of (by rfl)
  have hfl : (sRc H).face.blind < 2 ^ 128 := faceOf_lt L sOne
  have hrl : (sRc H).sig < 2 ^ 128 := L.rlt ⟨#[99]⟩ 2 1 (sA H)
  have HFB := Lib.hid hfb
  have HLL := Lib.hid L.llt
  have HCS := Lib.hid (fun (A : Option Addr) (s : ShR) (W : World) (hb : Below w.heap.size w W) (hr : RdK W A 1 [lawKey2]) (hs : ShOk W s) (e : s.s = sSh H) => (by
    have := checkShown_any L [lawKey2] A 1 1 s W (by omega) hr ring_lawKey2.1 ring_lawKey2.2 (by rw [e]; exact hfb.2) (by rw [e]; exact hfh.2) hs (by have := hs.rd.len; rw [e] at this; have h1 : (sSh H).path.length = 1 := rfl; omega) (hg.below hb)
    rw [e, s_shown] at this; exact this : Calls Tryz.prog 38 #[.slice A 1 1, shV s] W fun e w' => e = .returned (.int .i64 0) ∧ Below W.heap.size W w'))
  have HCH := Lib.hid (fun (A B : Option Addr) (c : Nat) (W : World) (hb : Below w.heap.size w W) (hr : RdK W A 1 [lawKey2]) (hp : RdD W B 1 [sB H]) (h1 : 1 ≤ c) (h2 : c ≤ maxLen) (hla : HdLt (sHa H)) (hlb : HdLt (sHb H)) => (by
    have := checkHeads_any L [lawKey2] A 1 1 (sHa H) (sHb H) [sB H] B 1 c W (by omega) hr ring_lawKey2.1 ring_lawKey2.2 hfh.1 hfh.2 hla hlb (by omega) hp (fun x hx => by rw [List.mem_singleton.1 hx]; exact L.llt _) h1 h2 (hg.below hb)
    rw [s_heads] at this; exact this : Calls Tryz.prog 40 #[.slice A 1 1, hdV (sHa H), hdV (sHb H), .slice B 1 c] W fun e w' => e = .returned (.int .i64 0) ∧ Below W.heap.size W w'))
  have HCR := Lib.hid (fun (A : Option Addr) (W : World) (hb : Below w.heap.size w W) (hr : RdK W A 1 [lawKey2]) => (by
    have := checkRcpt_any L [lawKey2] A 1 1 (sRc H) W (by omega) hr ring_lawKey2.1 ring_lawKey2.2 hfr hfb.2.all hrl (hg.below hb)
    rw [s_chkR] at this; exact this : Calls Tryz.prog 42 #[.slice A 1 1, rcV (sRc H)] W fun e w' => e = .returned (.int .i64 0) ∧ Below W.heap.size W w'))
  have HRF := Lib.hid (fun (A : Option Addr) (s : ShR) (W : World) (hb : Below w.heap.size w W) (hr : RdK W A 1 [lawKey2]) (hs : ShOk W s) (e : s.s = sSh H) => (by
    have := refutes_any L [lawKey2] A 1 1 (sRc H) s W (by omega) hr ring_lawKey2.1 ring_lawKey2.2 hfr hfb.2 hrl hfl (by rw [e]; exact hfb.2) (by rw [e]; exact hfh.2) hs (by have := hs.rd.len; rw [e] at this; have h1 : (sSh H).path.length = 1 := rfl; omega) (hg.below hb)
    rw [e, s_refutes] at this; exact this : Calls Tryz.prog 44 #[.slice A 1 1, rcV (sRc H), shV s] W fun e w' => e = .returned (.bool false) ∧ Below W.heap.size W w'))
  have HRB := Lib.hid (fun (A : Option Addr) (s : ShR) (W : World) (hb : Below w.heap.size w W) (hr : RdK W A 1 [lawKey2]) (hs : ShOk W s) (e : s.s = sBad H) => (by
    have := refutes_any L [lawKey2] A 1 1 (sRc H) s W (by omega) hr ring_lawKey2.1 ring_lawKey2.2 hfr hfb.2 hrl hfl (by rw [e]; exact hfb.1) (by rw [e]; exact hfh.2) hs (by have := hs.rd.len; rw [e] at this; have h1 : (sBad H).path.length = 1 := rfl; omega) (hg.below hb)
    rw [e, s_refutesBad H hne] at this; exact this : Calls Tryz.prog 44 #[.slice A 1 1, rcV (sRc H), shV s] W fun e w' => e = .returned (.bool false) ∧ Below W.heap.size W w'))
  have HFK := Lib.hid (fun (A : Option Addr) (W : World) (hb : Below w.heap.size w W) (hr : RdK W A 1 [lawKey2]) (hla : HdLt (sHa H)) (hlb : HdLt (sHb H)) => (by
    have := forked_any L [lawKey2] A 1 1 (sHa H) (sHb H) W (by omega) hr ring_lawKey2.1 ring_lawKey2.2 hfh.1 hfh.2 hla hlb (hg.below hb)
    rw [s_forked] at this; exact this : Calls Tryz.prog 46 #[.slice A 1 1, hdV (sHa H), hdV (sHb H)] W fun e w' => e = .returned (.bool false) ∧ Below W.heap.size W w'))
  have HOP := Lib.hid (fun (v : EvR) (W : World) (hb : Below w.heap.size w W) (hv : EvOk W v) (e : v.e = sOne) => (by
    have := opens_any L (faceOf H sOne) v W hfl hv (by rw [e]; exact fine_one.1) (by rw [e]; exact fine_one.2) (hg.below hb)
    rw [e, decide_eq_true rfl] at this; exact this : Calls Tryz.prog 16 #[fcV (faceOf H sOne), evV v] W fun e w' => e = .returned (.bool true) ∧ Below W.heap.size W w'))
  obtain ⟨NN, hNN⟩ : ∃ x, x = sNon := ⟨_, rfl⟩
  have HD8 := Lib.hid (fun W => (by rw [hNN]; exact build_Dg8 W : (Instr.build 25 #[(0, .int .u8 8)]).run Tryz.prog W = .ok (dgV NN) W))
  have HNN : Hid ((⟨1, 1, 5, 7, 3, 9, 0, [1, 2], [], NN⟩ : Ev) = sOne) := Lib.hid (by rw [hNN]; rfl)
  have HNL : Hid (NN < 2 ^ 128) := Lib.hid (by rw [hNN]; exact sNon_lt)
  clear hNN
  have hlg5 := lgL_len
  have hsz : ∀ r' : LgR, (lgC r').size = 5 := lgC_size
  have hsh : ∀ h' : Hd, (hdC h').size = 36 := hdC_size
  have hs25 : ∀ r' : EvR, (evC r').size = 25 := evC_size
  have hs41 : ∀ r' : Rc, (rcC r').size = 41 := rcC_size
  have hs60 : ∀ r' : ShR, (shC r').size = 60 := shC_size
  have h25 := evL_len
  have h36 := hdL_len
  have h41 := rcL_len
  have h60 := shL_len
  have h23 := fcL_len
  clear hg hrc hgb hne L hfb hfh hfr hfl hrl HF4 HHI
  unfold BIs at *
  unfold isD at HLF
  go_enter Tryz.func11, Tryz.ntmps11
  go_wp2_with fail
  refine (HNW.out _).mono ?_
  rintro e w1 ⟨rfl, hb1⟩
  go_upto_region 3 with (first
    | ((with_reducible show wpList _ _ _ (⟨some 1, _, _, _, _, _⟩ :: _) _ _); refine wpList_newRow (z := lgC (newLg 0)) (vs := lgC (newLg 2)) rfl rfl rfl rfl (zeroLg_v _) (fun _ => rfl) (fun _ => rfl) rfl (by rw [sizeLg, hsz]) (one_lgC _) ?_; intro w2 g1 hg1 b1 hb2 lt2; have HG1 : Hid (w.heap.size ≤ g1 ∧ g1 < w2.heap.size) := Lib.hid ⟨by have := hb1.size; omega, lt2⟩; clear hg1 lt2)
    | ((with_reducible show wpList _ _ _ (⟨some 27, _, _, _, _, _⟩ :: _) _ _); refine wpList_lit2I (p := 1) (q := 2) (by rfl) rfl rfl rfl ?_; intro w3 gv hgv rv hb3; have HGV : Hid (g1 < gv) := Lib.hid (by have := HG1.out; omega); clear hgv)
    | ((with_reducible show wpList _ _ _ (⟨some 28, _, _, _, _, _⟩ :: _) _ _); refine wpList_build1 rfl rfl rfl HD8.out ?_)
    | ((with_reducible show wpList _ _ _ (⟨some 29, _, _, _, _, _⟩ :: _) _ _); refine wpList_build8 rfl rfl rfl rfl rfl rfl rfl rfl rfl rfl (build_Ev8 _ NN) ?_)
    | ((with_reducible show wpList _ _ _ (⟨some 3, _, _, _, _, _⟩ :: _) _ _); refine wpList_newRow (z := evC zeroEvR) (vs := evC ⟨⟨1, 1, 5, 7, 3, 9, 0, [1, 2], [], NN⟩, some ⟨gv, 0, none⟩, 2, 2, none, 0, 0⟩) rfl rfl rfl rfl (zeroEv_v _) (fun _ => rfl) (fun _ => rfl) (by rw [hs25, hs25]) (by rw [sizeEv, hs25]) (one_evC _) ?_; intro w4 g3 hg3 b3 hb4 lt4; have HN3 : Hid (g3 ≠ g1) := Lib.hid (by have := HG1.out; have := hb3.size; omega); clear hg3 lt4))
  have hb24 := bstep hb3 hb4
  replace b1 := b1.below hb24
  have hev : EvOk w4 ⟨⟨1, 1, 5, 7, 3, 9, 0, [1, 2], [], NN⟩, some ⟨gv, 0, none⟩, 2, 2, none, 0, 0⟩ := ⟨rfl, rv.below hb4, Nat.le_refl _, by simp [maxLen], ⟨rfl, Rd.none_ _⟩, Nat.le_refl _, Nat.zero_le _, HNL.out⟩
  have HGV4 : Hid (gv < w4.heap.size) := Lib.hid (by have := rv.get (k := 0) (by omega); obtain ⟨ad, e, hc⟩ := this; injection e with e; subst e; have := hb4.size; exact Nat.lt_of_lt_of_le (cell_lt hc) this)
  have HEA : Hid (EvAway g1 ⟨⟨1, 1, 5, 7, 3, 9, 0, [1, 2], [], NN⟩, some ⟨gv, 0, none⟩, 2, 2, none, 0, 0⟩) := Lib.hid ⟨fun ad e h => by injection e with e; subst e; have := HGV.out; exact absurd h (by show gv ≠ g1; omega), Away.none g1⟩
  have HEU : Hid (∀ g, w4.heap.size ≤ g → EvAway g ⟨⟨1, 1, 5, 7, 3, 9, 0, [1, 2], [], NN⟩, some ⟨gv, 0, none⟩, 2, 2, none, 0, 0⟩) := Lib.hid (fun g hg => ⟨fun ad e h => by injection e with e; subst e; have := HGV4.out; exact absurd h (by show gv ≠ g; omega), Away.none g⟩)
  have hbw : Below w.heap.size w w4 := bstep (bstep hb1 hb2) hb24
  have hok : LgOk w4 (newLg 2) := LgOk.new w4 2
  clear rv hb1 hb2 hb3 hb4 hb24
  obtain ⟨eR, heR⟩ : ∃ x : EvR, x = ⟨⟨1, 1, 5, 7, 3, 9, 0, [1, 2], [], NN⟩, some ⟨gv, 0, none⟩, 2, 2, none, 0, 0⟩ := ⟨_, rfl⟩
  have HER : Hid (eR.e = sOne) := Lib.hid (by rw [heR]; exact HNN.out)
  rw [← heR] at b3 hev HEA HEU ⊢
  have HFE : Hid (EvWf eR.e ∧ EvFew eR.e) := Lib.hid (by rw [HER.out]; exact fine_one)
  clear heR HGV HGV4
  have hlr := lg_row b1
  have hle := blk_row (xs := evL eR) b3
  have hAP1 : Hid (Calls Tryz.prog 23 #[lgV (newLg 2), evV eR] w4 (LgIs (newLg 2) eR (sL1 H, 0) w4)) := Lib.hid (by
    have := HAPP.out (newLg 2) sL0 eR w4 hbw hok rfl hev HFE.out (by decide) (by decide)
    rw [HER.out, s_app1] at this
    exact this)
  go_wp2_with (first
    | ((with_reducible show wpList _ _ _ (⟨some 31, _, _, _, _, _⟩ :: _) _ _); refine wpList_loadK (us := lgL (newLg 2)) rfl rfl rfl aggLg (by rw [sizeLg, hlg5]) hlr ?_)
    | ((with_reducible show wpList _ _ _ (⟨some 32, _, _, _, _, _⟩ :: _) _ _); refine wpList_loadK (us := evL eR) rfl rfl rfl aggEv (by rw [sizeEv, h25]) hle ?_))
  refine hAP1.out.mono ?_
  rintro e w5 ⟨r1, rfl, he1, hok1, hb5, haw1⟩
  have HAW1 := Lib.hid (haw1 g1 (.inl b1.lt) (LgAway.new g1 2) HEA.out)
  have HUN1 : Hid (∀ g, w5.heap.size ≤ g → LgAway g r1) := Lib.hid (fun g hg => haw1 g (.inr hg) (LgAway.new g 2) (HEU.out g (by have := hb5.size; omega)))
  replace b1 := b1.below hb5
  clear hok haw1 hlr hle hAP1
  go_upto_region 4 with ((with_reducible show wpList _ _ _ (⟨none, _, _, _, _, _⟩ :: _) _ _); refine wpList_put (vs := lgC r1) rfl rfl rfl rfl b1 (by rw [hsz, hsz]) (by rw [sizeLg, hsz]) (one_lgC _) ?_; intro w6 ht6 b6)
  have kp : Kp g1 w4 w6 := (Kp.of hb5).turn ht6
  replace hok1 := hok1.turned ht6 HAW1.out
  replace HUN1 : Hid (∀ g, w6.heap.size ≤ g → LgAway g r1) := Lib.hid (fun g hg => HUN1.out g (by rw [← ht6.size]; exact hg))
  clear b1 hb5 ht6
  replace b3 := kp.blk b3 HN3.out
  replace hev := kp.ev hev HEA.out
  replace HEU := Lib.hid (fun g (hg : w6.heap.size ≤ g) => HEU.out g (by have := kp.size; omega))
  replace hbw := hbw.trans (kp.below _ HG1.out.1 hbw.size)
  clear kp
  have hlr := lg_row b6
  have hRC := Lib.hid (fun W (hb : Below w6.heap.size w6 W) => (by
    have := HRCP.out r1 (sL1 H) W (bstep hbw hb) (hok1.below hb) he1 rfl HF1.out (by show 1 ≤ 100; omega)
    rw [s_rcpt] at this
    exact this : Calls Tryz.prog 29 #[lgV r1, keyV lawKey2, .int .i64 1] W (RcIs (sRc H, 0) W)))
  unfold RcIs at hRC
  go_cut [5, 6] (fun v5 v6 wx => ∃ g5, v5 = .pointer (some ⟨g5, 0, none⟩) ∧ v6 = .int .i64 0 ∧ w6.heap.size ≤ g5 ∧ Blk wx g5 69 (rcC (sRc H)) ∧ Below w6.heap.size w6 wx)
  case first =>
    have hS : Below w6.heap.size w6 w6.drew := (Below.refl _ _).drew
    refine wp_region_T 7 (by kernel_rfl) ?_
    refine WpT.tl 0 rfl (yields_loadK (us := lgL r1) rfl rfl rfl aggLg (by rw [sizeLg, hlg5]) hlr) (hS) ?_
    try simp only [nrm]
    refine WpT.fork (i := 1) (j := 6) rfl rfl (by kernel_rfl) (fun K hK => ?_) (fun K hK => ?_)
    · go_simp; refine (HKY.out _).mono ?_; rintro e w8 ⟨rfl, hb8⟩; (try replace bV := bV.below hb8); replace hS := bstep hS hb8
      refine hK _ _ (hS) ?_; clear hK K; try simp only [nrm]
      refine WpT.fork (i := 2) (j := 6) rfl rfl (by kernel_rfl) (fun K hK => ?_) (fun K hK => ?_)
      · go_simp; refine (hRC.out _ hS).mono ?_; rintro e w9 ⟨rfl, hb9⟩; (try replace bV := bV.below hb9); replace hS := bstep hS hb9
        refine hK _ _ (hS) ?_; clear hK K; try simp only [nrm]
        refine WpT.tk 3 (hS) ?_
        try simp only [nrm]
        refine WpT.tk 4 (hS) ?_
        try simp only [nrm]
        refine WpT.takeP (i := 5) rfl (by kernel_rfl) (fun _ _ _ h => h) (.inl ⟨by rfl, fun w hSw => by clear hSw; go_simp; (try go_bits); (try rw [if_pos (by omega)]); (try with_reducible rfl)⟩) (hS) ?_
        try simp only [nrm]
        refine WpT.on 6 rfl (fun K hK => ?_)
        refine wp_newBlk rfl zeroRc_v ?_; intro wV gV hgV bV hbV; have hgB : w6.heap.size ≤ gV := (by have := hS.size; omega); clear hgV; replace hS := bstep hS hbV
        refine hK _ _ (hS) ?_; clear hK K; try simp only [nrm]
        refine WpT.ta 7 rfl (fun K hK => ?_)
        refine wp_put (vs := rcC (sRc H)) rfl (by rfl) (by rfl) bV (by rw [hs41, hs41]) (by rw [sizeRc, hs41]) (one_rcC _) ?_; intro w13 ht13 b13
        refine hK _ _ ?_; clear hK K; try simp only [nrm]
        refine WpT.ta 8 rfl (fun K hK => ?_)
        go_simp; (try go_bits)
        refine hK _ _ ?_; clear hK K; try simp only [nrm]
        refine WpT.done (by kernel_rfl) ?_ _
        go_wp2_with fail; go_meet; exact ⟨gV, rfl, rfl, hgB, b13, hS.trans (ht13.below _ hgB)⟩
      · refine wp_newBlk rfl zeroRc_v ?_; intro wV gV hgV bV hbV; have hgB : w6.heap.size ≤ gV := (by have := hS.size; omega); clear hgV; replace hS := bstep hS hbV
        refine hK _ _ (hS) ?_; clear hK K; try simp only [nrm]
        refine WpT.on 2 rfl (fun K hK => ?_)
        go_simp; refine (hRC.out _ hS).mono ?_; rintro e w9 ⟨rfl, hb9⟩; (try replace bV := bV.below hb9); replace hS := bstep hS hb9
        refine hK _ _ (hS) ?_; clear hK K; try simp only [nrm]
        refine WpT.tk 3 (hS) ?_
        try simp only [nrm]
        refine WpT.tk 4 (hS) ?_
        try simp only [nrm]
        refine WpT.takeP (i := 5) rfl (by kernel_rfl) (fun _ _ _ h => h) (.inl ⟨by rfl, fun w hSw => by clear hSw; go_simp; (try go_bits); (try rw [if_pos (by omega)]); (try with_reducible rfl)⟩) (hS) ?_
        try simp only [nrm]
        refine WpT.ta 7 rfl (fun K hK => ?_)
        refine wp_put (vs := rcC (sRc H)) rfl (by rfl) (by rfl) bV (by rw [hs41, hs41]) (by rw [sizeRc, hs41]) (one_rcC _) ?_; intro w13 ht13 b13
        refine hK _ _ ?_; clear hK K; try simp only [nrm]
        refine WpT.ta 8 rfl (fun K hK => ?_)
        go_simp; (try go_bits)
        refine hK _ _ ?_; clear hK K; try simp only [nrm]
        refine WpT.done (by kernel_rfl) ?_ _
        go_wp2_with fail; go_meet; exact ⟨gV, rfl, rfl, hgB, b13, hS.trans (ht13.below _ hgB)⟩
    · refine wp_newBlk rfl zeroRc_v ?_; intro wV gV hgV bV hbV; have hgB : w6.heap.size ≤ gV := (by have := hS.size; omega); clear hgV; replace hS := bstep hS hbV
      refine hK _ _ (hS) ?_; clear hK K; try simp only [nrm]
      refine WpT.on 1 rfl (fun K hK => ?_)
      go_simp; refine (HKY.out _).mono ?_; rintro e w8 ⟨rfl, hb8⟩; (try replace bV := bV.below hb8); replace hS := bstep hS hb8
      refine hK _ _ (hS) ?_; clear hK K; try simp only [nrm]
      refine WpT.on 2 rfl (fun K hK => ?_)
      go_simp; refine (hRC.out _ hS).mono ?_; rintro e w9 ⟨rfl, hb9⟩; (try replace bV := bV.below hb9); replace hS := bstep hS hb9
      refine hK _ _ (hS) ?_; clear hK K; try simp only [nrm]
      refine WpT.tk 3 (hS) ?_
      try simp only [nrm]
      refine WpT.tk 4 (hS) ?_
      try simp only [nrm]
      refine WpT.takeP (i := 5) rfl (by kernel_rfl) (fun _ _ _ h => h) (.inl ⟨by rfl, fun w hSw => by clear hSw; go_simp; (try go_bits); (try rw [if_pos (by omega)]); (try with_reducible rfl)⟩) (hS) ?_
      try simp only [nrm]
      refine WpT.ta 7 rfl (fun K hK => ?_)
      refine wp_put (vs := rcC (sRc H)) rfl (by rfl) (by rfl) bV (by rw [hs41, hs41]) (by rw [sizeRc, hs41]) (one_rcC _) ?_; intro w13 ht13 b13
      refine hK _ _ ?_; clear hK K; try simp only [nrm]
      refine WpT.ta 8 rfl (fun K hK => ?_)
      go_simp; (try go_bits)
      refine hK _ _ ?_; clear hK K; try simp only [nrm]
      refine WpT.done (by kernel_rfl) ?_ _
      go_wp2_with fail; go_meet; exact ⟨gV, rfl, rfl, hgB, b13, hS.trans (ht13.below _ hgB)⟩
  case rest =>
  obtain ⟨g5, rfl, rfl, hg5, b5, hb7⟩ := hcut
  have HN5 : Hid (g5 ≠ g1) := Lib.hid (by have := b6.lt; omega)
  replace b6 := b6.below hb7
  replace hok1 := hok1.below hb7
  replace HUN1 : Hid (∀ g, wc.heap.size ≤ g → LgAway g r1) := Lib.hid (fun g hg => HUN1.out g (by have := hb7.size; omega))
  replace b3 := b3.below hb7
  replace hev := hev.below hb7
  replace HEU := Lib.hid (fun g (hg : wc.heap.size ≤ g) => HEU.out g (by have := hb7.size; omega))
  replace hbw := bstep hbw hb7
  clear hb7 hlr hg5 hRC
  obtain ⟨w7, hw7⟩ : ∃ x : World, x = wc := ⟨_, rfl⟩
  rw [← hw7] at b6 hok1 HUN1 b3 hev HEU hbw b5 ⊢
  clear hw7
  go_upto_region 5 with fail
  have hlr := lg_row b6
  have hSL := Lib.hid (fun W (hb : Below w7.heap.size w7 W) => (by
    have := HSEA.out r1 (sL1 H) W (bstep hbw hb) (hok1.below hb) he1 rfl HF1.out (by show 1 ≤ 100; omega) (by show 1 ≤ 100; omega) (by show 0 ≤ 100; omega)
    rw [s_seal1] at this
    exact this : Calls Tryz.prog 24 #[lgV r1, keyV lawKey2] W (SlIs r1 (sL2 H, sHa H, 0) W)))
  have HB1 := Lib.hid (fun W (hb : Below w7.heap.size w7 W) => b6.below hb)
  have HL1 : Hid (g1 < w7.heap.size) := Lib.hid b6.lt
  unfold SlIs at hSL
  go_cut [7, 8] (fun v7 v8 wx => ∃ (g7 : Nat) (r' : LgR), v7 = .pointer (some ⟨g7, 0, none⟩) ∧ v8 = .int .i64 0 ∧ w7.heap.size ≤ g7 ∧ Blk wx g7 51 (hdC (sHa H)) ∧ Blk wx g1 42 (lgC r') ∧ LgOk wx r' ∧ lgOf r' = sL2 H ∧ LgAway g1 r' ∧ (∀ g, wx.heap.size ≤ g → LgAway g r') ∧ HdLt (sHa H) ∧ Kp g1 w7 wx)
  case first =>
    have hS : Below w7.heap.size w7 w7.drew := (Below.refl _ _).drew
    refine wp_region_T 8 (by kernel_rfl) ?_
    refine WpT.tl 0 rfl (yields_loadK (us := lgL r1) rfl rfl rfl aggLg (by rw [sizeLg, hlg5]) hlr) (hS) ?_
    try simp only [nrm]
    refine WpT.fork (i := 1) (j := 7) rfl rfl (by kernel_rfl) (fun K hK => ?_) (fun K hK => ?_)
    · go_simp; refine (HKY.out _).mono ?_; rintro e w8 ⟨rfl, hb8⟩; (try replace bV := bV.below hb8); replace hS := bstep hS hb8
      refine hK _ _ (hS) ?_; clear hK K; try simp only [nrm]
      refine WpT.fork (i := 2) (j := 7) rfl rfl (by kernel_rfl) (fun K hK => ?_) (fun K hK => ?_)
      · go_simp; refine (hSL.out _ hS).mono ?_; rintro e w9 ⟨r', rfl, he', hok', hlt', hb9, haw'⟩; have haw2 := haw' g1 (.inl (by have := HL1.out; have := hS.size; omega)) HAW1.out; have hun2 : ∀ g, w9.heap.size ≤ g → LgAway g r' := (fun g hg => haw' g (.inr hg) (HUN1.out g (by have := hS.size; have := hb9.size; omega))); (try have hawV := haw' gV (.inl bV.lt) (HUN1.out gV hgB)); (try replace bV := bV.below hb9); replace hS := bstep hS hb9
        refine hK _ _ (hS) ?_; clear hK K; try simp only [nrm]
        refine WpT.tk 3 (hS) ?_
        try simp only [nrm]
        refine WpT.tk 4 (hS) ?_
        try simp only [nrm]
        refine WpT.takeP (i := 5) rfl (by kernel_rfl) (fun _ _ _ h => h) (.inl ⟨by rfl, fun w hSw => by clear hSw; go_simp; (try go_bits); (try rw [if_pos (by omega)]); (try with_reducible rfl)⟩) (hS) ?_
        try simp only [nrm]
        refine WpT.takeP (i := 6) rfl (by kernel_rfl) (fun _ _ _ h => h) (.inl ⟨by rfl, fun w hSw => by clear hSw; go_simp; (try go_bits); (try rw [if_pos (by omega)]); (try with_reducible rfl)⟩) (hS) ?_
        try simp only [nrm]
        refine WpT.on 7 rfl (fun K hK => ?_)
        refine wp_newBlk rfl zeroHd_v ?_; intro wV gV hgV bV hbV; have hgB : w7.heap.size ≤ gV := (by have := hS.size; omega); (try have hawV := hun2 gV hgV); (try replace hun2 : ∀ g, wV.heap.size ≤ g → LgAway g r' := (fun g hg => hun2 g (by have := hbV.size; omega))); clear hgV; (try replace hok' := LgOk.below hok' hbV); replace hS := bstep hS hbV
        refine hK _ _ (hS) ?_; clear hK K; try simp only [nrm]
        refine WpT.ta 8 rfl (fun K hK => ?_)
        refine wp_put (vs := lgC r') rfl (by rfl) (by rfl) (HB1.out _ hS) (by rw [hsz, hsz]) (by rw [sizeLg, hsz]) (one_lgC _) ?_; intro w12 ht12 b12; have bV2 := ht12.blk bV (by have := HL1.out; omega); have hok2 := hok'.turned ht12 haw2; have kp2 := (Kp.of (g := g1) hS).turn ht12
        refine hK _ _ ?_; clear hK K; try simp only [nrm]
        refine WpT.ta 9 rfl (fun K hK => ?_)
        refine wp_put (vs := hdC (sHa H)) rfl (by rfl) (by rfl) bV2 (by rw [hsh, hsh]) (by rw [sizeHd, hsh]) (one_hdC _) ?_; intro w13 ht13 b13; have b14 := ht13.blk b12 (by have := HL1.out; omega); have hok3 := hok2.turned ht13 hawV
        refine hK _ _ ?_; clear hK K; try simp only [nrm]
        refine WpT.ta 10 rfl (fun K hK => ?_)
        go_simp; (try go_bits)
        refine hK _ _ ?_; clear hK K; try simp only [nrm]
        refine WpT.done (by kernel_rfl) ?_ _
        go_wp2_with fail; go_meet; exact ⟨gV, r', rfl, rfl, hgB, b13, b14, hok3, he', haw2, fun g hg => hun2 g (by rw [← ht12.size, ← ht13.size]; exact hg), hlt', kp2.turnNew ht13 hgB⟩
      · refine wp_newBlk rfl zeroHd_v ?_; intro wV gV hgV bV hbV; have hgB : w7.heap.size ≤ gV := (by have := hS.size; omega); (try have hawV := hun2 gV hgV); (try replace hun2 : ∀ g, wV.heap.size ≤ g → LgAway g r' := (fun g hg => hun2 g (by have := hbV.size; omega))); clear hgV; (try replace hok' := LgOk.below hok' hbV); replace hS := bstep hS hbV
        refine hK _ _ (hS) ?_; clear hK K; try simp only [nrm]
        refine WpT.on 2 rfl (fun K hK => ?_)
        go_simp; refine (hSL.out _ hS).mono ?_; rintro e w9 ⟨r', rfl, he', hok', hlt', hb9, haw'⟩; have haw2 := haw' g1 (.inl (by have := HL1.out; have := hS.size; omega)) HAW1.out; have hun2 : ∀ g, w9.heap.size ≤ g → LgAway g r' := (fun g hg => haw' g (.inr hg) (HUN1.out g (by have := hS.size; have := hb9.size; omega))); (try have hawV := haw' gV (.inl bV.lt) (HUN1.out gV hgB)); (try replace bV := bV.below hb9); replace hS := bstep hS hb9
        refine hK _ _ (hS) ?_; clear hK K; try simp only [nrm]
        refine WpT.tk 3 (hS) ?_
        try simp only [nrm]
        refine WpT.tk 4 (hS) ?_
        try simp only [nrm]
        refine WpT.takeP (i := 5) rfl (by kernel_rfl) (fun _ _ _ h => h) (.inl ⟨by rfl, fun w hSw => by clear hSw; go_simp; (try go_bits); (try rw [if_pos (by omega)]); (try with_reducible rfl)⟩) (hS) ?_
        try simp only [nrm]
        refine WpT.takeP (i := 6) rfl (by kernel_rfl) (fun _ _ _ h => h) (.inl ⟨by rfl, fun w hSw => by clear hSw; go_simp; (try go_bits); (try rw [if_pos (by omega)]); (try with_reducible rfl)⟩) (hS) ?_
        try simp only [nrm]
        refine WpT.ta 8 rfl (fun K hK => ?_)
        refine wp_put (vs := lgC r') rfl (by rfl) (by rfl) (HB1.out _ hS) (by rw [hsz, hsz]) (by rw [sizeLg, hsz]) (one_lgC _) ?_; intro w12 ht12 b12; have bV2 := ht12.blk bV (by have := HL1.out; omega); have hok2 := hok'.turned ht12 haw2; have kp2 := (Kp.of (g := g1) hS).turn ht12
        refine hK _ _ ?_; clear hK K; try simp only [nrm]
        refine WpT.ta 9 rfl (fun K hK => ?_)
        refine wp_put (vs := hdC (sHa H)) rfl (by rfl) (by rfl) bV2 (by rw [hsh, hsh]) (by rw [sizeHd, hsh]) (one_hdC _) ?_; intro w13 ht13 b13; have b14 := ht13.blk b12 (by have := HL1.out; omega); have hok3 := hok2.turned ht13 hawV
        refine hK _ _ ?_; clear hK K; try simp only [nrm]
        refine WpT.ta 10 rfl (fun K hK => ?_)
        go_simp; (try go_bits)
        refine hK _ _ ?_; clear hK K; try simp only [nrm]
        refine WpT.done (by kernel_rfl) ?_ _
        go_wp2_with fail; go_meet; exact ⟨gV, r', rfl, rfl, hgB, b13, b14, hok3, he', haw2, fun g hg => hun2 g (by rw [← ht12.size, ← ht13.size]; exact hg), hlt', kp2.turnNew ht13 hgB⟩
    · refine wp_newBlk rfl zeroHd_v ?_; intro wV gV hgV bV hbV; have hgB : w7.heap.size ≤ gV := (by have := hS.size; omega); (try have hawV := hun2 gV hgV); (try replace hun2 : ∀ g, wV.heap.size ≤ g → LgAway g r' := (fun g hg => hun2 g (by have := hbV.size; omega))); clear hgV; (try replace hok' := LgOk.below hok' hbV); replace hS := bstep hS hbV
      refine hK _ _ (hS) ?_; clear hK K; try simp only [nrm]
      refine WpT.on 1 rfl (fun K hK => ?_)
      go_simp; refine (HKY.out _).mono ?_; rintro e w8 ⟨rfl, hb8⟩; (try replace bV := bV.below hb8); replace hS := bstep hS hb8
      refine hK _ _ (hS) ?_; clear hK K; try simp only [nrm]
      refine WpT.on 2 rfl (fun K hK => ?_)
      go_simp; refine (hSL.out _ hS).mono ?_; rintro e w9 ⟨r', rfl, he', hok', hlt', hb9, haw'⟩; have haw2 := haw' g1 (.inl (by have := HL1.out; have := hS.size; omega)) HAW1.out; have hun2 : ∀ g, w9.heap.size ≤ g → LgAway g r' := (fun g hg => haw' g (.inr hg) (HUN1.out g (by have := hS.size; have := hb9.size; omega))); (try have hawV := haw' gV (.inl bV.lt) (HUN1.out gV hgB)); (try replace bV := bV.below hb9); replace hS := bstep hS hb9
      refine hK _ _ (hS) ?_; clear hK K; try simp only [nrm]
      refine WpT.tk 3 (hS) ?_
      try simp only [nrm]
      refine WpT.tk 4 (hS) ?_
      try simp only [nrm]
      refine WpT.takeP (i := 5) rfl (by kernel_rfl) (fun _ _ _ h => h) (.inl ⟨by rfl, fun w hSw => by clear hSw; go_simp; (try go_bits); (try rw [if_pos (by omega)]); (try with_reducible rfl)⟩) (hS) ?_
      try simp only [nrm]
      refine WpT.takeP (i := 6) rfl (by kernel_rfl) (fun _ _ _ h => h) (.inl ⟨by rfl, fun w hSw => by clear hSw; go_simp; (try go_bits); (try rw [if_pos (by omega)]); (try with_reducible rfl)⟩) (hS) ?_
      try simp only [nrm]
      refine WpT.ta 8 rfl (fun K hK => ?_)
      refine wp_put (vs := lgC r') rfl (by rfl) (by rfl) (HB1.out _ hS) (by rw [hsz, hsz]) (by rw [sizeLg, hsz]) (one_lgC _) ?_; intro w12 ht12 b12; have bV2 := ht12.blk bV (by have := HL1.out; omega); have hok2 := hok'.turned ht12 haw2; have kp2 := (Kp.of (g := g1) hS).turn ht12
      refine hK _ _ ?_; clear hK K; try simp only [nrm]
      refine WpT.ta 9 rfl (fun K hK => ?_)
      refine wp_put (vs := hdC (sHa H)) rfl (by rfl) (by rfl) bV2 (by rw [hsh, hsh]) (by rw [sizeHd, hsh]) (one_hdC _) ?_; intro w13 ht13 b13; have b14 := ht13.blk b12 (by have := HL1.out; omega); have hok3 := hok2.turned ht13 hawV
      refine hK _ _ ?_; clear hK K; try simp only [nrm]
      refine WpT.ta 10 rfl (fun K hK => ?_)
      go_simp; (try go_bits)
      refine hK _ _ ?_; clear hK K; try simp only [nrm]
      refine WpT.done (by kernel_rfl) ?_ _
      go_wp2_with fail; go_meet; exact ⟨gV, r', rfl, rfl, hgB, b13, b14, hok3, he', haw2, fun g hg => hun2 g (by rw [← ht12.size, ← ht13.size]; exact hg), hlt', kp2.turnNew ht13 hgB⟩
  case rest =>
  obtain ⟨g7, r2, rfl, rfl, hgx, b7, c2, hok2, he2, haw2, hun2, hlt2, kp⟩ := hcut
  have HN7 : Hid (g7 ≠ g1) := Lib.hid (by have := HL1.out; omega)
  have HAW2 := Lib.hid haw2
  have HUN2 := Lib.hid hun2
  have HLT2 := Lib.hid hlt2
  replace b3 := kp.blk b3 HN3.out
  replace b5 := kp.blk b5 HN5.out
  replace hev := kp.ev hev HEA.out
  replace HEU := Lib.hid (fun g (hg : wc.heap.size ≤ g) => HEU.out g (by have := kp.size; omega))
  replace hbw := hbw.trans (kp.below _ HG1.out.1 hbw.size)
  clear kp hlr hSL HB1 HL1 hgx haw2 hun2 hlt2 b6 hok1 HAW1 HUN1 he1
  obtain ⟨w10, hnw⟩ : ∃ x : World, x = wc := ⟨_, rfl⟩
  rw [← hnw] at b3 b5 b7 c2 hok2 HUN2 hev HEU hbw ⊢
  clear hnw
  have hlr := lg_row c2
  have hAP2 : Hid (Calls Tryz.prog 23 #[lgV r2, evV (bareR sTurn)] w10 (LgIs r2 (bareR sTurn) (sL3 H, 0) w10)) := Lib.hid (by
    have := HAPP.out r2 (sL2 H) (bareR sTurn) w10 hbw hok2 he2 (bare_ok w10 5 2 9) fine_turn (by show 1 ≤ 100; omega) (by show 1 ≤ 100; omega)
    rw [show (bareR sTurn).e = sTurn from rfl, s_app2] at this
    exact this)
  have HL1 : Hid (g1 < w10.heap.size) := Lib.hid c2.lt
  go_wp2_with (first
    | ((with_reducible show wpList _ _ _ (⟨some 50, _, _, _, _, _⟩ :: _) _ _); refine wpList_loadK (us := lgL r2) rfl rfl rfl aggLg (by rw [sizeLg, hlg5]) hlr ?_)
    | ((with_reducible show wpList _ _ _ (⟨some 51, _, _, _, _, _⟩ :: _) _ _); refine wpList_build3F rfl rfl rfl rfl rfl (build_Ev3 5 2 9) ?_))
  refine hAP2.out.mono ?_
  rintro e w11 ⟨r3, rfl, he3, hok3, hb11, haw3⟩
  have HAW3 := Lib.hid (haw3 g1 (.inl HL1.out) HAW2.out (bare_away g1 sTurn))
  have HUN3 : Hid (∀ g, w11.heap.size ≤ g → LgAway g r3) := Lib.hid (fun g hg => haw3 g (.inr hg) (HUN2.out g (by have := hb11.size; omega)) (bare_away g sTurn))
  replace c2 := c2.below hb11
  clear hok2 haw3 hlr hAP2 HAW2 HUN2 he2
  go_upto_region 7 with ((with_reducible show wpList _ _ _ (⟨none, _, _, _, _, _⟩ :: _) _ _); refine wpList_put (vs := lgC r3) rfl rfl rfl rfl c2 (by rw [hsz, hsz]) (by rw [sizeLg, hsz]) (one_lgC _) ?_; intro w12 ht12 c3)
  have kp : Kp g1 w10 w12 := (Kp.of hb11).turn ht12
  replace hok3 := hok3.turned ht12 HAW3.out
  replace HUN3 : Hid (∀ g, w12.heap.size ≤ g → LgAway g r3) := Lib.hid (fun g hg => HUN3.out g (by rw [← ht12.size]; exact hg))
  clear c2 hb11 ht12
  replace b3 := kp.blk b3 HN3.out
  replace b5 := kp.blk b5 HN5.out
  replace b7 := kp.blk b7 HN7.out
  replace hev := kp.ev hev HEA.out
  replace HEU := Lib.hid (fun g (hg : w12.heap.size ≤ g) => HEU.out g (by have := kp.size; omega))
  replace hbw := hbw.trans (kp.below _ HG1.out.1 hbw.size)
  clear kp HL1
  have hlr := lg_row c3
  have hSL := Lib.hid (fun W (hb : Below w12.heap.size w12 W) => (by
    have := HSEA.out r3 (sL3 H) W (bstep hbw hb) (hok3.below hb) he3 rfl HF3.out (by show 2 ≤ 100; omega) (by show 1 ≤ 100; omega) (by show 1 ≤ 100; omega)
    rw [s_seal2] at this
    exact this : Calls Tryz.prog 24 #[lgV r3, keyV lawKey2] W (SlIs r3 (sL4 H, sHb H, 0) W)))
  have HB1 := Lib.hid (fun W (hb : Below w12.heap.size w12 W) => c3.below hb)
  have HL1 : Hid (g1 < w12.heap.size) := Lib.hid c3.lt
  unfold SlIs at hSL
  go_cut [10, 11] (fun v7 v8 wx => ∃ (g7 : Nat) (r' : LgR), v7 = .pointer (some ⟨g7, 0, none⟩) ∧ v8 = .int .i64 0 ∧ w12.heap.size ≤ g7 ∧ Blk wx g7 51 (hdC (sHb H)) ∧ Blk wx g1 42 (lgC r') ∧ LgOk wx r' ∧ lgOf r' = sL4 H ∧ LgAway g1 r' ∧ (∀ g, wx.heap.size ≤ g → LgAway g r') ∧ HdLt (sHb H) ∧ Kp g1 w12 wx)
  case first =>
    have hS : Below w12.heap.size w12 w12.drew := (Below.refl _ _).drew
    refine wp_region_T 8 (by kernel_rfl) ?_
    refine WpT.tl 0 rfl (yields_loadK (us := lgL r3) rfl rfl rfl aggLg (by rw [sizeLg, hlg5]) hlr) (hS) ?_
    try simp only [nrm]
    refine WpT.fork (i := 1) (j := 7) rfl rfl (by kernel_rfl) (fun K hK => ?_) (fun K hK => ?_)
    · go_simp; refine (HKY.out _).mono ?_; rintro e w8 ⟨rfl, hb8⟩; (try replace bV := bV.below hb8); replace hS := bstep hS hb8
      refine hK _ _ (hS) ?_; clear hK K; try simp only [nrm]
      refine WpT.fork (i := 2) (j := 7) rfl rfl (by kernel_rfl) (fun K hK => ?_) (fun K hK => ?_)
      · go_simp; refine (hSL.out _ hS).mono ?_; rintro e w9 ⟨r', rfl, he', hok', hlt', hb9, haw'⟩; have haw2 := haw' g1 (.inl (by have := HL1.out; have := hS.size; omega)) HAW3.out; have hun2 : ∀ g, w9.heap.size ≤ g → LgAway g r' := (fun g hg => haw' g (.inr hg) (HUN3.out g (by have := hS.size; have := hb9.size; omega))); (try have hawV := haw' gV (.inl bV.lt) (HUN3.out gV hgB)); (try replace bV := bV.below hb9); replace hS := bstep hS hb9
        refine hK _ _ (hS) ?_; clear hK K; try simp only [nrm]
        refine WpT.tk 3 (hS) ?_
        try simp only [nrm]
        refine WpT.tk 4 (hS) ?_
        try simp only [nrm]
        refine WpT.takeP (i := 5) rfl (by kernel_rfl) (fun _ _ _ h => h) (.inl ⟨by rfl, fun w hSw => by clear hSw; go_simp; (try go_bits); (try rw [if_pos (by omega)]); (try with_reducible rfl)⟩) (hS) ?_
        try simp only [nrm]
        refine WpT.takeP (i := 6) rfl (by kernel_rfl) (fun _ _ _ h => h) (.inl ⟨by rfl, fun w hSw => by clear hSw; go_simp; (try go_bits); (try rw [if_pos (by omega)]); (try with_reducible rfl)⟩) (hS) ?_
        try simp only [nrm]
        refine WpT.on 7 rfl (fun K hK => ?_)
        refine wp_newBlk rfl zeroHd_v ?_; intro wV gV hgV bV hbV; have hgB : w12.heap.size ≤ gV := (by have := hS.size; omega); (try have hawV := hun2 gV hgV); (try replace hun2 : ∀ g, wV.heap.size ≤ g → LgAway g r' := (fun g hg => hun2 g (by have := hbV.size; omega))); clear hgV; (try replace hok' := LgOk.below hok' hbV); replace hS := bstep hS hbV
        refine hK _ _ (hS) ?_; clear hK K; try simp only [nrm]
        refine WpT.ta 8 rfl (fun K hK => ?_)
        refine wp_put (vs := lgC r') rfl (by rfl) (by rfl) (HB1.out _ hS) (by rw [hsz, hsz]) (by rw [sizeLg, hsz]) (one_lgC _) ?_; intro w12 ht12 b12; have bV2 := ht12.blk bV (by have := HL1.out; omega); have hok2 := hok'.turned ht12 haw2; have kp2 := (Kp.of (g := g1) hS).turn ht12
        refine hK _ _ ?_; clear hK K; try simp only [nrm]
        refine WpT.ta 9 rfl (fun K hK => ?_)
        refine wp_put (vs := hdC (sHb H)) rfl (by rfl) (by rfl) bV2 (by rw [hsh, hsh]) (by rw [sizeHd, hsh]) (one_hdC _) ?_; intro w13 ht13 b13; have b14 := ht13.blk b12 (by have := HL1.out; omega); have hok3 := hok2.turned ht13 hawV
        refine hK _ _ ?_; clear hK K; try simp only [nrm]
        refine WpT.ta 10 rfl (fun K hK => ?_)
        go_simp; (try go_bits)
        refine hK _ _ ?_; clear hK K; try simp only [nrm]
        refine WpT.done (by kernel_rfl) ?_ _
        go_wp2_with fail; go_meet; exact ⟨gV, r', rfl, rfl, hgB, b13, b14, hok3, he', haw2, fun g hg => hun2 g (by rw [← ht12.size, ← ht13.size]; exact hg), hlt', kp2.turnNew ht13 hgB⟩
      · refine wp_newBlk rfl zeroHd_v ?_; intro wV gV hgV bV hbV; have hgB : w12.heap.size ≤ gV := (by have := hS.size; omega); (try have hawV := hun2 gV hgV); (try replace hun2 : ∀ g, wV.heap.size ≤ g → LgAway g r' := (fun g hg => hun2 g (by have := hbV.size; omega))); clear hgV; (try replace hok' := LgOk.below hok' hbV); replace hS := bstep hS hbV
        refine hK _ _ (hS) ?_; clear hK K; try simp only [nrm]
        refine WpT.on 2 rfl (fun K hK => ?_)
        go_simp; refine (hSL.out _ hS).mono ?_; rintro e w9 ⟨r', rfl, he', hok', hlt', hb9, haw'⟩; have haw2 := haw' g1 (.inl (by have := HL1.out; have := hS.size; omega)) HAW3.out; have hun2 : ∀ g, w9.heap.size ≤ g → LgAway g r' := (fun g hg => haw' g (.inr hg) (HUN3.out g (by have := hS.size; have := hb9.size; omega))); (try have hawV := haw' gV (.inl bV.lt) (HUN3.out gV hgB)); (try replace bV := bV.below hb9); replace hS := bstep hS hb9
        refine hK _ _ (hS) ?_; clear hK K; try simp only [nrm]
        refine WpT.tk 3 (hS) ?_
        try simp only [nrm]
        refine WpT.tk 4 (hS) ?_
        try simp only [nrm]
        refine WpT.takeP (i := 5) rfl (by kernel_rfl) (fun _ _ _ h => h) (.inl ⟨by rfl, fun w hSw => by clear hSw; go_simp; (try go_bits); (try rw [if_pos (by omega)]); (try with_reducible rfl)⟩) (hS) ?_
        try simp only [nrm]
        refine WpT.takeP (i := 6) rfl (by kernel_rfl) (fun _ _ _ h => h) (.inl ⟨by rfl, fun w hSw => by clear hSw; go_simp; (try go_bits); (try rw [if_pos (by omega)]); (try with_reducible rfl)⟩) (hS) ?_
        try simp only [nrm]
        refine WpT.ta 8 rfl (fun K hK => ?_)
        refine wp_put (vs := lgC r') rfl (by rfl) (by rfl) (HB1.out _ hS) (by rw [hsz, hsz]) (by rw [sizeLg, hsz]) (one_lgC _) ?_; intro w12 ht12 b12; have bV2 := ht12.blk bV (by have := HL1.out; omega); have hok2 := hok'.turned ht12 haw2; have kp2 := (Kp.of (g := g1) hS).turn ht12
        refine hK _ _ ?_; clear hK K; try simp only [nrm]
        refine WpT.ta 9 rfl (fun K hK => ?_)
        refine wp_put (vs := hdC (sHb H)) rfl (by rfl) (by rfl) bV2 (by rw [hsh, hsh]) (by rw [sizeHd, hsh]) (one_hdC _) ?_; intro w13 ht13 b13; have b14 := ht13.blk b12 (by have := HL1.out; omega); have hok3 := hok2.turned ht13 hawV
        refine hK _ _ ?_; clear hK K; try simp only [nrm]
        refine WpT.ta 10 rfl (fun K hK => ?_)
        go_simp; (try go_bits)
        refine hK _ _ ?_; clear hK K; try simp only [nrm]
        refine WpT.done (by kernel_rfl) ?_ _
        go_wp2_with fail; go_meet; exact ⟨gV, r', rfl, rfl, hgB, b13, b14, hok3, he', haw2, fun g hg => hun2 g (by rw [← ht12.size, ← ht13.size]; exact hg), hlt', kp2.turnNew ht13 hgB⟩
    · refine wp_newBlk rfl zeroHd_v ?_; intro wV gV hgV bV hbV; have hgB : w12.heap.size ≤ gV := (by have := hS.size; omega); (try have hawV := hun2 gV hgV); (try replace hun2 : ∀ g, wV.heap.size ≤ g → LgAway g r' := (fun g hg => hun2 g (by have := hbV.size; omega))); clear hgV; (try replace hok' := LgOk.below hok' hbV); replace hS := bstep hS hbV
      refine hK _ _ (hS) ?_; clear hK K; try simp only [nrm]
      refine WpT.on 1 rfl (fun K hK => ?_)
      go_simp; refine (HKY.out _).mono ?_; rintro e w8 ⟨rfl, hb8⟩; (try replace bV := bV.below hb8); replace hS := bstep hS hb8
      refine hK _ _ (hS) ?_; clear hK K; try simp only [nrm]
      refine WpT.on 2 rfl (fun K hK => ?_)
      go_simp; refine (hSL.out _ hS).mono ?_; rintro e w9 ⟨r', rfl, he', hok', hlt', hb9, haw'⟩; have haw2 := haw' g1 (.inl (by have := HL1.out; have := hS.size; omega)) HAW3.out; have hun2 : ∀ g, w9.heap.size ≤ g → LgAway g r' := (fun g hg => haw' g (.inr hg) (HUN3.out g (by have := hS.size; have := hb9.size; omega))); (try have hawV := haw' gV (.inl bV.lt) (HUN3.out gV hgB)); (try replace bV := bV.below hb9); replace hS := bstep hS hb9
      refine hK _ _ (hS) ?_; clear hK K; try simp only [nrm]
      refine WpT.tk 3 (hS) ?_
      try simp only [nrm]
      refine WpT.tk 4 (hS) ?_
      try simp only [nrm]
      refine WpT.takeP (i := 5) rfl (by kernel_rfl) (fun _ _ _ h => h) (.inl ⟨by rfl, fun w hSw => by clear hSw; go_simp; (try go_bits); (try rw [if_pos (by omega)]); (try with_reducible rfl)⟩) (hS) ?_
      try simp only [nrm]
      refine WpT.takeP (i := 6) rfl (by kernel_rfl) (fun _ _ _ h => h) (.inl ⟨by rfl, fun w hSw => by clear hSw; go_simp; (try go_bits); (try rw [if_pos (by omega)]); (try with_reducible rfl)⟩) (hS) ?_
      try simp only [nrm]
      refine WpT.ta 8 rfl (fun K hK => ?_)
      refine wp_put (vs := lgC r') rfl (by rfl) (by rfl) (HB1.out _ hS) (by rw [hsz, hsz]) (by rw [sizeLg, hsz]) (one_lgC _) ?_; intro w12 ht12 b12; have bV2 := ht12.blk bV (by have := HL1.out; omega); have hok2 := hok'.turned ht12 haw2; have kp2 := (Kp.of (g := g1) hS).turn ht12
      refine hK _ _ ?_; clear hK K; try simp only [nrm]
      refine WpT.ta 9 rfl (fun K hK => ?_)
      refine wp_put (vs := hdC (sHb H)) rfl (by rfl) (by rfl) bV2 (by rw [hsh, hsh]) (by rw [sizeHd, hsh]) (one_hdC _) ?_; intro w13 ht13 b13; have b14 := ht13.blk b12 (by have := HL1.out; omega); have hok3 := hok2.turned ht13 hawV
      refine hK _ _ ?_; clear hK K; try simp only [nrm]
      refine WpT.ta 10 rfl (fun K hK => ?_)
      go_simp; (try go_bits)
      refine hK _ _ ?_; clear hK K; try simp only [nrm]
      refine WpT.done (by kernel_rfl) ?_ _
      go_wp2_with fail; go_meet; exact ⟨gV, r', rfl, rfl, hgB, b13, b14, hok3, he', haw2, fun g hg => hun2 g (by rw [← ht12.size, ← ht13.size]; exact hg), hlt', kp2.turnNew ht13 hgB⟩
  case rest =>
  obtain ⟨g10, r4, rfl, rfl, hgx, b10, c4, hok4, he4, haw4, hun4, hlt4, kp⟩ := hcut
  have HN10 : Hid (g10 ≠ g1) := Lib.hid (by have := HL1.out; omega)
  have HAW4 := Lib.hid haw4
  have HUN4 := Lib.hid hun4
  have HLT4 := Lib.hid hlt4
  replace b3 := kp.blk b3 HN3.out
  replace b5 := kp.blk b5 HN5.out
  replace b7 := kp.blk b7 HN7.out
  replace hev := kp.ev hev HEA.out
  replace HEU := Lib.hid (fun g (hg : wc.heap.size ≤ g) => HEU.out g (by have := kp.size; omega))
  replace hbw := hbw.trans (kp.below _ HG1.out.1 hbw.size)
  clear kp hlr hSL HB1 HL1 hgx haw4 hun4 hlt4 c3 hok3 HAW3 HUN3 he3
  obtain ⟨w14, hnw⟩ : ∃ x : World, x = wc := ⟨_, rfl⟩
  rw [← hnw] at b3 b5 b7 b10 c4 hok4 HUN4 hev HEU hbw ⊢
  clear hnw
  have hlr := lg_row c4
  have hlb := blk_row (xs := hdL (sHb H)) b10
  go_wp2_with (first
    | ((with_reducible show wpList _ _ _ (⟨some 63, _, _, _, _, _⟩ :: _) _ _); refine wpList_loadK (us := lgL r4) rfl rfl rfl aggLg (by rw [sizeLg, hlg5]) hlr ?_)
    | ((with_reducible show wpList _ _ _ (⟨some 64, _, _, _, _, _⟩ :: _) _ _); refine wpList_loadK (us := hdL (sHb H)) rfl rfl rfl aggHd (by rw [sizeHd, h36]) hlb ?_))
  refine (HPRF.out r4 w14 hbw hok4 he4 HLT4.out).mono ?_
  rintro e w15 ⟨s12, rfl, hs12, hsk, -, hb15⟩
  go_upto_region 9 with ((with_reducible show wpList _ _ _ (⟨some 12, _, _, _, _, _⟩ :: _) _ _); refine wpList_newRow (z := shC zeroShR) (vs := shC s12) rfl rfl rfl rfl (zeroSh_v _) (fun _ => rfl) (fun _ => rfl) (by rw [hs60, hs60]) (by rw [sizeSh, hs60]) (one_shC _) ?_; intro w16 g12 hg12 b12 hb16 lt16; clear hg12 lt16)
  have hbx := bstep hb15 hb16
  replace hsk := hsk.below hb16
  replace b3 := b3.below hbx
  replace b5 := b5.below hbx
  replace b7 := b7.below hbx
  replace b10 := b10.below hbx
  replace c4 := c4.below hbx
  replace hev := hev.below hbx
  replace HEU := Lib.hid (fun g (hg : w16.heap.size ≤ g) => HEU.out g (by have := hbx.size; omega))
  replace hok4 := hok4.below hbx
  replace hbw := bstep hbw hbx
  clear hbx hb15 hb16 hlr hlb
  have hlr := lg_row c4
  have hla := blk_row (xs := hdL (sHa H)) b7
  have hlb := blk_row (xs := hdL (sHb H)) b10
  go_wp2_with (first
    | ((with_reducible show wpList _ _ _ (⟨some 69, _, _, _, _, _⟩ :: _) _ _); refine wpList_loadK (us := lgL r4) rfl rfl rfl aggLg (by rw [sizeLg, hlg5]) hlr ?_)
    | ((with_reducible show wpList _ _ _ (⟨some 70, _, _, _, _, _⟩ :: _) _ _); refine wpList_loadK (us := hdL (sHa H)) rfl rfl rfl aggHd (by rw [sizeHd, h36]) hla ?_)
    | ((with_reducible show wpList _ _ _ (⟨some 71, _, _, _, _, _⟩ :: _) _ _); refine wpList_loadK (us := hdL (sHb H)) rfl rfl rfl aggHd (by rw [sizeHd, h36]) hlb ?_))
  refine (HCNS.out r4 w16 hbw hok4 he4 HLT2.out HLT4.out).mono ?_
  rintro e w17 ⟨v14, rfl, o14, hb17⟩
  obtain ⟨A14, c14, rfl, n14, m14, r14⟩ := OwnDs.formN o14 (n := 1) rfl
  clear o14
  replace b3 := b3.below hb17
  replace b5 := b5.below hb17
  replace b7 := b7.below hb17
  replace b10 := b10.below hb17
  replace c4 := c4.below hb17
  replace b12 := b12.below hb17
  replace hev := hev.below hb17
  replace HEU := Lib.hid (fun g (hg : w17.heap.size ≤ g) => HEU.out g (by have := hb17.size; omega))
  replace hok4 := hok4.below hb17
  replace hsk := hsk.below hb17
  replace hbw := bstep hbw hb17
  clear hb17 hlr hla hlb
  have hlr := lg_row c4
  have hAP : Hid (Calls Tryz.prog 23 #[lgV r4, evV (bareR sTurn4)] w17 (LgIs r4 (bareR sTurn4) (sL4 H, 9) w17)) := Lib.hid (by
    have := HAPP.out r4 (sL4 H) (bareR sTurn4) w17 hbw hok4 he4 (bare_ok w17 5 4 9) fine_turn4 (by show 2 ≤ 100; omega) (by show 1 ≤ 100; omega)
    rw [show (bareR sTurn4).e = sTurn4 from rfl, s_app4] at this
    exact this)
  go_wp2_with (first
    | ((with_reducible show wpList _ _ _ (⟨some 76, _, _, _, _, _⟩ :: _) _ _); refine wpList_loadK (us := lgL r4) rfl rfl rfl aggLg (by rw [sizeLg, hlg5]) hlr ?_)
    | ((with_reducible show wpList _ _ _ (⟨some 77, _, _, _, _, _⟩ :: _) _ _); refine wpList_build3F rfl rfl rfl rfl rfl (build_Ev3 5 4 9) ?_))
  refine hAP.out.mono ?_
  rintro e w18 ⟨rx, rfl, -, -, hbx, -⟩
  go_upto_region 11 with ((with_reducible show wpList _ _ _ (⟨some 16, _, _, _, _, _⟩ :: _) _ _); refine wpList_newRow (z := lgC (newLg 0)) (vs := lgC rx) rfl rfl rfl rfl (zeroLg_v _) (fun _ => rfl) (fun _ => rfl) (by rw [hsz, hsz]) (by rw [sizeLg, hsz]) (one_lgC _) ?_; intro w19 gx hgx bx hby ltx; clear hgx ltx bx)
  replace hbx := bstep hbx hby
  replace b3 := b3.below hbx
  replace b5 := b5.below hbx
  replace b7 := b7.below hbx
  replace b10 := b10.below hbx
  replace c4 := c4.below hbx
  replace b12 := b12.below hbx
  replace hev := hev.below hbx
  replace HEU := Lib.hid (fun g (hg : w19.heap.size ≤ g) => HEU.out g (by have := hbx.size; omega))
  replace hok4 := hok4.below hbx
  replace hsk := hsk.below hbx
  replace r14 := r14.below hbx
  replace hbw := bstep hbw hbx
  clear hbx hby hlr hAP
  have hlr := lg_row c4
  have hAP : Hid (Calls Tryz.prog 23 #[lgV r4, evV (bareR sTurn3)] w19 (LgIs r4 (bareR sTurn3) (sL4 H, 9) w19)) := Lib.hid (by
    have := HAPP.out r4 (sL4 H) (bareR sTurn3) w19 hbw hok4 he4 (bare_ok w19 5 3 8) fine_turn3 (by show 2 ≤ 100; omega) (by show 1 ≤ 100; omega)
    rw [show (bareR sTurn3).e = sTurn3 from rfl, s_app3] at this
    exact this)
  go_wp2_with (first
    | ((with_reducible show wpList _ _ _ (⟨some 82, _, _, _, _, _⟩ :: _) _ _); refine wpList_loadK (us := lgL r4) rfl rfl rfl aggLg (by rw [sizeLg, hlg5]) hlr ?_)
    | ((with_reducible show wpList _ _ _ (⟨some 83, _, _, _, _, _⟩ :: _) _ _); refine wpList_build3F rfl rfl rfl rfl rfl (build_Ev3 5 3 8) ?_))
  refine hAP.out.mono ?_
  rintro e w20 ⟨rx, rfl, -, -, hbx, -⟩
  go_upto_region 12 with ((with_reducible show wpList _ _ _ (⟨some 18, _, _, _, _, _⟩ :: _) _ _); refine wpList_newRow (z := lgC (newLg 0)) (vs := lgC rx) rfl rfl rfl rfl (zeroLg_v _) (fun _ => rfl) (fun _ => rfl) (by rw [hsz, hsz]) (by rw [sizeLg, hsz]) (one_lgC _) ?_; intro w21 gx hgx bx hby ltx; clear hgx ltx bx)
  replace hbx := bstep hbx hby
  replace b3 := b3.below hbx
  replace b5 := b5.below hbx
  replace b7 := b7.below hbx
  replace b10 := b10.below hbx
  replace c4 := c4.below hbx
  replace b12 := b12.below hbx
  replace hev := hev.below hbx
  replace HEU := Lib.hid (fun g (hg : w21.heap.size ≤ g) => HEU.out g (by have := hbx.size; omega))
  replace hok4 := hok4.below hbx
  replace hsk := hsk.below hbx
  replace r14 := r14.below hbx
  replace hbw := bstep hbw hbx
  clear hbx hby hlr hAP
  go_wp2_with fail
  refine (HKY.out _).mono ?_
  rintro e w22 ⟨rfl, hb22⟩
  have hN12 : s12.s.face = faceOf H sOne := by rw [hs12]; rfl
  have b12x : Blk w22 g12 63 (shC s12) := b12.below hb22
  have hl12 := blk_row (xs := shL s12) b12x
  have hl60 := h60 s12
  go_upto_region 16 with (first
    | ((with_reducible show wpList _ _ _ (⟨some 126, _, _, _, _, _⟩ :: _) _ _); refine wpList_lit1Key rfl rfl rfl ?_; intro w23 gr hr hb23; replace hl12 := fun j u h => cell_later hb23 (hl12 j u h))
    | ((with_reducible show wpList _ _ _ (⟨some 127, _, _, _, _, _⟩ :: _) _ _); refine wpList_loadK (us := shL s12) rfl rfl rfl aggSh (by rw [sizeSh, hl60]) hl12 ?_)
    | ((with_reducible show wpList _ _ _ (⟨some 21, _, _, _, _, _⟩ :: _) _ _); refine wpList_newRow (z := shC zeroShR) (vs := shC s12) rfl rfl rfl rfl (zeroSh_v _) (fun _ => rfl) (fun _ => rfl) (by rw [hs60, hs60]) (by rw [sizeSh, hs60]) (one_shC _) ?_; intro w24 g21 hg21 b21 hb24 lt24; have hg21' : w23.heap.size ≤ g21 := (by omega); clear hg21 lt24))
  have HG21 : Hid (w23.heap.size ≤ g21) := Lib.hid hg21'
  have hb23' := bstep hb22 hb23
  clear hg21' hl12 b12x
  go_upto_region 17 with ((with_reducible show wpList _ _ _ (⟨none, _, _, _, _, _⟩ :: _) _ _); refine wpList_set (cs' := shC ⟨⟨{ s12.s.face with til := 8 }, s12.s.path, s12.s.head⟩, s12.A, s12.n, s12.c⟩) rfl rfl (by kernel_rfl) rfl rfl rfl b21 (by rw [hs60]; omega) (one_shSet s12 8) ?_; intro w25 ht25 b25)
  have hb25 : Below w23.heap.size w23 w25 := hb24.trans (ht25.below _ HG21.out)
  replace hr := hr.below hb25
  have hbx := bstep hb23' hb25
  replace b3 := b3.below hbx
  replace b5 := b5.below hbx
  replace b7 := b7.below hbx
  replace b10 := b10.below hbx
  replace c4 := c4.below hbx
  replace b12 := b12.below hbx
  replace hev := hev.below hbx
  replace HEU := Lib.hid (fun g (hg : w25.heap.size ≤ g) => HEU.out g (by have := hbx.size; omega))
  replace hok4 := hok4.below hbx
  replace hsk := hsk.below hbx
  replace r14 := r14.below hbx
  replace hbw := bstep hbw hbx
  clear hbx hb22 hb23 hb24 hb25 hb23' ht25 b21
  obtain ⟨bR, hbR⟩ : ∃ x : ShR, x = ⟨⟨{ s12.s.face with til := 8 }, s12.s.path, s12.s.head⟩, s12.A, s12.n, s12.c⟩ := ⟨_, rfl⟩
  have HBR : Hid (bR.s = sBad H) := Lib.hid (by rw [hbR]; show (⟨{ s12.s.face with til := 8 }, s12.s.path, s12.s.head⟩ : Sh) = _; rw [hs12]; rfl)
  have hbk : ShOk w25 bR := by rw [hbR]; exact ⟨hsk.rd, hsk.nc, hsk.cm, hsk.lt, hsk.bl, hsk.hd⟩
  rw [← hbR] at b25
  have HS12 := Lib.hid hs12
  have hf12 := sh_r0 b12
  have hf25 := sh_r0 b25
  have hfe : bR.s.face = sBadF H := by rw [HBR.out]; rfl
  rw [hN12] at hf12
  rw [hfe] at hf25
  have HN12 := Lib.hid hN12
  clear hbR hs12 hfe hN12
  have hLA := Lib.hid (fun W (hb : Below w25.heap.size w25 W) => HLF.out (faceOf H sOne) W HFB.out.2 (bstep hbw hb))
  have hLB := Lib.hid (fun W (hb : Below w25.heap.size w25 W) => HLF.out (sBadF H) W HFB.out.1 (bstep hbw hb))
  have HLT : Hid (H.lf (sBadF H) < 2 ^ 128 ∧ H.lf (faceOf H sOne) < 2 ^ 128) := Lib.hid ⟨HLL.out _, HLL.out _⟩
  have h23a := h23 (faceOf H sOne)
  have h23b := h23 (sBadF H)
  generalize H.lf (sBadF H) = LB at *
  generalize H.lf (faceOf H sOne) = LA at *
  obtain ⟨ot, hot⟩ : ∃ x, (!decide (LB = LA)) = x := ⟨_, rfl⟩
  have hS : Below w25.heap.size w25 w25.drew := (Below.refl _ _).drew
  refine wp_region_T 7 (by kernel_rfl) ?_
  refine WpT.tk 0 (hS) ?_
  try simp only [nrm]
  refine WpT.tl 1 rfl (yields_loadK (us := fcL (sBadF H)) rfl rfl rfl aggFc (by rw [sizeFc, h23b]) hf25) (hS) ?_
  try simp only [nrm]
  refine WpT.tk 3 (hS) ?_
  try simp only [nrm]
  refine WpT.tl 4 rfl (yields_loadK (us := fcL (faceOf H sOne)) rfl rfl rfl aggFc (by rw [sizeFc, h23a]) hf12) (hS) ?_
  try simp only [nrm]
  refine WpT.on 2 rfl (fun K hK => ?_)
  go_simp; refine (hLB.out _ hS).mono ?_; rintro e w4 ⟨rfl, hb4⟩; replace hS := bstep hS hb4
  refine hK _ _ (hS) ?_; clear hK K; try simp only [nrm]
  refine WpT.on 5 rfl (fun K hK => ?_)
  go_simp; refine (hLA.out _ hS).mono ?_; rintro e w26 ⟨rfl, hb5⟩; replace hS := bstep hS hb5
  refine hK _ _ (hS) ?_; clear hK K; try simp only [nrm]
  refine WpT.tl 6 rfl (yields_neqDg (by rfl) rfl (by rfl) (by rfl) HLT.out.1 HLT.out.2 hot (fun W => by kernel_rfl)) (hS) ?_
  try simp only [nrm]
  refine WpT.ta 7 rfl (fun K hK => ?_)
  go_simp; (try go_bits)
  refine hK _ _ ?_; clear hK K; try simp only [nrm]
  refine WpT.done (by kernel_rfl) ?_ _
  skip
  replace hbk := hbk.below hS
  replace hr := hr.below hS
  replace b25 := b25.below hS
  replace b3 := b3.below hS
  replace b5 := b5.below hS
  replace b7 := b7.below hS
  replace b10 := b10.below hS
  replace c4 := c4.below hS
  replace b12 := b12.below hS
  replace hev := hev.below hS
  replace HEU := Lib.hid (fun g (hg : w26.heap.size ≤ g) => HEU.out g (by have := hS.size; omega))
  replace hok4 := hok4.below hS
  replace hsk := hsk.below hS
  replace r14 := r14.below hS
  replace hbw := bstep hbw hS
  clear hS hf12 hf25 hLA hLB hot
  rcases ot with _ | _
  · go_wp2_with fail
    go_ret
    exact ⟨rfl, hbw⟩
  have HP1 : Hid (s12.n = 1) := Lib.hid (by have := hsk.rd.len; rw [HS12.out] at this; exact this.symm)
  have x23 := sh_c23 b12
  rw [HP1.out] at x23
  have hl12 := blk_row (xs := shL s12) b12
  go_wp2_with ((with_reducible show wpList _ _ _ (⟨some 145, _, _, _, _, _⟩ :: _) _ _); refine wpList_loadKW (us := shL s12) (by rfl) rfl rfl aggSh (by rw [sizeSh, hl60]) hl12 ?_)
  refine (HCS.out _ s12 w26 hbw hr hsk HS12.out).mono ?_
  rintro e w27 ⟨rfl, hbx⟩
  replace b3 := b3.below hbx
  replace b5 := b5.below hbx
  replace b7 := b7.below hbx
  replace b10 := b10.below hbx
  replace c4 := c4.below hbx
  replace b12 := b12.below hbx
  replace b25 := b25.below hbx
  replace hev := hev.below hbx
  replace HEU := Lib.hid (fun g (hg : w27.heap.size ≤ g) => HEU.out g (by have := hbx.size; omega))
  replace hok4 := hok4.below hbx
  replace hsk := hsk.below hbx
  replace r14 := r14.below hbx
  replace hr := hr.below hbx
  replace hbk := hbk.below hbx
  replace hbw := bstep hbw hbx
  clear hbx
  clear hl12 x23
  have hla := blk_row (xs := hdL (sHa H)) b7
  have hlb := blk_row (xs := hdL (sHb H)) b10
  go_wp2_with (first
    | ((with_reducible show wpList _ _ _ (⟨some 151, _, _, _, _, _⟩ :: _) _ _); refine wpList_loadKW (us := hdL (sHa H)) (by rfl) rfl rfl aggHd (by rw [sizeHd, h36]) hla ?_)
    | ((with_reducible show wpList _ _ _ (⟨some 152, _, _, _, _, _⟩ :: _) _ _); refine wpList_loadKW (us := hdL (sHb H)) (by rfl) rfl rfl aggHd (by rw [sizeHd, h36]) hlb ?_))
  refine (HCH.out _ _ _ w27 hbw hr r14 n14 m14 HLT2.out HLT4.out).mono ?_
  rintro e w28 ⟨rfl, hbx⟩
  replace b3 := b3.below hbx
  replace b5 := b5.below hbx
  replace b7 := b7.below hbx
  replace b10 := b10.below hbx
  replace c4 := c4.below hbx
  replace b12 := b12.below hbx
  replace b25 := b25.below hbx
  replace hev := hev.below hbx
  replace HEU := Lib.hid (fun g (hg : w28.heap.size ≤ g) => HEU.out g (by have := hbx.size; omega))
  replace hok4 := hok4.below hbx
  replace hsk := hsk.below hbx
  replace r14 := r14.below hbx
  replace hr := hr.below hbx
  replace hbk := hbk.below hbx
  replace hbw := bstep hbw hbx
  clear hbx
  clear hla hlb
  have hl5 := blk_row (xs := rcL (sRc H)) b5
  go_wp2_with ((with_reducible show wpList _ _ _ (⟨some 159, _, _, _, _, _⟩ :: _) _ _); refine wpList_loadKW (us := rcL (sRc H)) (by rfl) rfl rfl aggRc (by rw [sizeRc, h41]) hl5 ?_)
  refine (HCR.out _ w28 hbw hr).mono ?_
  rintro e w29 ⟨rfl, hbx⟩
  replace b3 := b3.below hbx
  replace b5 := b5.below hbx
  replace b7 := b7.below hbx
  replace b10 := b10.below hbx
  replace c4 := c4.below hbx
  replace b12 := b12.below hbx
  replace b25 := b25.below hbx
  replace hev := hev.below hbx
  replace HEU := Lib.hid (fun g (hg : w29.heap.size ≤ g) => HEU.out g (by have := hbx.size; omega))
  replace hok4 := hok4.below hbx
  replace hsk := hsk.below hbx
  replace r14 := r14.below hbx
  replace hr := hr.below hbx
  replace hbk := hbk.below hbx
  replace hbw := bstep hbw hbx
  clear hbx
  replace hl5 := blk_row (xs := rcL (sRc H)) b5
  have hl12 := blk_row (xs := shL s12) b12
  go_wp2_with (first
    | ((with_reducible show wpList _ _ _ (⟨some 165, _, _, _, _, _⟩ :: _) _ _); refine wpList_loadKW (us := rcL (sRc H)) (by rfl) rfl rfl aggRc (by rw [sizeRc, h41]) hl5 ?_)
    | ((with_reducible show wpList _ _ _ (⟨some 166, _, _, _, _, _⟩ :: _) _ _); refine wpList_loadKW (us := shL s12) (by rfl) rfl rfl aggSh (by rw [sizeSh, hl60]) hl12 ?_))
  refine (HRF.out _ s12 w29 hbw hr hsk HS12.out).mono ?_
  rintro e w30 ⟨rfl, hbx⟩
  replace b3 := b3.below hbx
  replace b5 := b5.below hbx
  replace b7 := b7.below hbx
  replace b10 := b10.below hbx
  replace c4 := c4.below hbx
  replace b12 := b12.below hbx
  replace b25 := b25.below hbx
  replace hev := hev.below hbx
  replace HEU := Lib.hid (fun g (hg : w30.heap.size ≤ g) => HEU.out g (by have := hbx.size; omega))
  replace hok4 := hok4.below hbx
  replace hsk := hsk.below hbx
  replace r14 := r14.below hbx
  replace hr := hr.below hbx
  replace hbk := hbk.below hbx
  replace hbw := bstep hbw hbx
  clear hbx
  replace hl5 := blk_row (xs := rcL (sRc H)) b5
  replace hl12 := blk_row (xs := shL bR) b25
  have hl60b := h60 bR
  go_wp2_with (first
    | ((with_reducible show wpList _ _ _ (⟨some 172, _, _, _, _, _⟩ :: _) _ _); refine wpList_loadKW (us := rcL (sRc H)) (by rfl) rfl rfl aggRc (by rw [sizeRc, h41]) hl5 ?_)
    | ((with_reducible show wpList _ _ _ (⟨some 173, _, _, _, _, _⟩ :: _) _ _); refine wpList_loadKW (us := shL bR) (by rfl) rfl rfl aggSh (by rw [sizeSh, hl60b]) hl12 ?_))
  refine (HRB.out _ bR w30 hbw hr hbk HBR.out).mono ?_
  rintro e w31 ⟨rfl, hbx⟩
  replace b3 := b3.below hbx
  replace b5 := b5.below hbx
  replace b7 := b7.below hbx
  replace b10 := b10.below hbx
  replace c4 := c4.below hbx
  replace b12 := b12.below hbx
  replace b25 := b25.below hbx
  replace hev := hev.below hbx
  replace HEU := Lib.hid (fun g (hg : w31.heap.size ≤ g) => HEU.out g (by have := hbx.size; omega))
  replace hok4 := hok4.below hbx
  replace hsk := hsk.below hbx
  replace r14 := r14.below hbx
  replace hr := hr.below hbx
  replace hbk := hbk.below hbx
  replace hbw := bstep hbw hbx
  clear hbx
  clear hl5 hl12
  have hf12 := sh_r0 b12
  rw [HN12.out] at hf12
  have hle := blk_row (xs := evL eR) b3
  go_wp2_with (first
    | ((with_reducible show wpList _ _ _ (⟨some 179, _, _, _, _, _⟩ :: _) _ _); refine wpList_loadKW (us := fcL (faceOf H sOne)) (by rfl) rfl rfl aggFc (by rw [sizeFc, h23a]) hf12 ?_)
    | ((with_reducible show wpList _ _ _ (⟨some 180, _, _, _, _, _⟩ :: _) _ _); refine wpList_loadKW (us := evL eR) (by rfl) rfl rfl aggEv (by rw [sizeEv, h25]) hle ?_))
  refine (HOP.out eR w31 hbw hev HER.out).mono ?_
  rintro e w32 ⟨rfl, hbx⟩
  replace b3 := b3.below hbx
  replace b5 := b5.below hbx
  replace b7 := b7.below hbx
  replace b10 := b10.below hbx
  replace c4 := c4.below hbx
  replace b12 := b12.below hbx
  replace b25 := b25.below hbx
  replace hev := hev.below hbx
  replace HEU := Lib.hid (fun g (hg : w32.heap.size ≤ g) => HEU.out g (by have := hbx.size; omega))
  replace hok4 := hok4.below hbx
  replace hsk := hsk.below hbx
  replace r14 := r14.below hbx
  replace hr := hr.below hbx
  replace hbk := hbk.below hbx
  replace hbw := bstep hbw hbx
  clear hbx
  clear hf12 hle
  have hlr := lg_row c4
  go_wp2_with ((with_reducible show wpList _ _ _ (⟨some 184, _, _, _, _, _⟩ :: _) _ _); refine wpList_loadKW (us := lgL r4) (by rfl) rfl rfl aggLg (by rw [sizeLg, hlg5]) hlr ?_)
  refine (HVAL.out r4 w32 hbw hok4 he4).mono ?_
  rintro e w33 ⟨rfl, hbx⟩
  replace b3 := b3.below hbx
  replace b5 := b5.below hbx
  replace b7 := b7.below hbx
  replace b10 := b10.below hbx
  replace c4 := c4.below hbx
  replace b12 := b12.below hbx
  replace b25 := b25.below hbx
  replace hev := hev.below hbx
  replace HEU := Lib.hid (fun g (hg : w33.heap.size ≤ g) => HEU.out g (by have := hbx.size; omega))
  replace hok4 := hok4.below hbx
  replace hsk := hsk.below hbx
  replace r14 := r14.below hbx
  replace hr := hr.below hbx
  replace hbk := hbk.below hbx
  replace hbw := bstep hbw hbx
  clear hbx
  clear hlr
  have hla := blk_row (xs := hdL (sHa H)) b7
  have hlb := blk_row (xs := hdL (sHb H)) b10
  go_wp2_with (first
    | ((with_reducible show wpList _ _ _ (⟨some 189, _, _, _, _, _⟩ :: _) _ _); refine wpList_loadKW (us := hdL (sHa H)) (by rfl) rfl rfl aggHd (by rw [sizeHd, h36]) hla ?_)
    | ((with_reducible show wpList _ _ _ (⟨some 190, _, _, _, _, _⟩ :: _) _ _); refine wpList_loadKW (us := hdL (sHb H)) (by rfl) rfl rfl aggHd (by rw [sizeHd, h36]) hlb ?_))
  refine (HFK.out _ w33 hbw hr HLT2.out HLT4.out).mono ?_
  rintro e w34 ⟨rfl, hbx⟩
  go_wp2_with fail
  go_ret
  exact ⟨rfl, bstep hbw hbx⟩
end Go.Proofs.YtcapckngikekpaaGreatDoor
namespace Go.Proofs.YtcapckngikekpaaGreatDoor
set_option linter.unusedSimpArgs false
set_option linter.unusedVariables false
open Go.RowKit Exch Merk Ring
def fewA (a : At) : Bool := decide (a.name.size ≤ 200) && decide (a.s.size ≤ 200)
def fewB (e : Ev) : Bool := decide (e.vec.length ≤ 40) && (decide (e.attrs.length ≤ 20) && e.attrs.all fewA)
theorem fewB_iff (e : Ev) : fewB e = true ↔ EvFew e := by
  unfold fewB fewA
  simp only [Bool.and_eq_true, decide_eq_true_eq, List.all_eq_true]
  exact ⟨fun h => ⟨h.1, h.2.1, h.2.2⟩, fun h => ⟨h.vec, h.attrs, h.texts⟩⟩
theorem fewA_step (l : List At) (i : Nat) (h : i < l.length) : (l.drop i).all fewA = (fewA l[i] && (l.drop (i + 1)).all fewA) := by
  rw [List.drop_eq_getElem_cons h, List.all_cons]
set_option maxRecDepth 100000 in
set_option maxHeartbeats 4000000 in
theorem fewEvent_any (r : EvR) (w : World) (h : EvOk w r) :
    Calls Tryz.prog 10 #[evV r] w (BIs (fewB r.e) w) := by
  obtain ⟨wa, hwa, hb0, q1⟩ := evBox w r
  have HWA := Lib.hid hwa
  have hcells := ev_at q1
  have c7 : wa.cell? ⟨w.heap.size, 7, none⟩ = some (.slice r.vA r.vn r.vc) := hcells 7
  have c8 : wa.cell? ⟨w.heap.size, 8, none⟩ = some (.slice r.aA r.an r.ac) := hcells 8
  have hlt := q1.lt
  have HAR := Lib.hid (fun W (h' : Below w.heap.size w W) => h.ard.below h')
  have HAL := Lib.hid h.ard.len
  have HST := Lib.hid (fewA_step r.e.attrs)
  have hvl := h.vlen
  have hal := h.ard.len
  have HV : Hid (fewB r.e = (decide (r.vn ≤ 40) && (decide (r.an ≤ 20) && r.e.attrs.all fewA))) := Lib.hid (by unfold fewB; rw [hvl, hal])
  clear hwa hcells q1 h hvl hal
  generalize fewB r.e = X at *
  obtain ⟨e, vA, vn, vc, aA, an, ac⟩ := r
  dsimp only at c7 c8 HAR HAL HST HV
  unfold BIs
  by_cases h1 : vn ≤ 40
  rotate_left
  · have d1 : decide ((40 : Int) < (vn : Int)) = true := by rw [decide_eq_true_eq]; omega
    have d1n : decide (40 < vn) = true := by rw [decide_eq_true_eq]; omega
    have hX : X = false := by rw [HV.out, show decide (vn ≤ 40) = false by simp [h1]]; rfl
    subst hX
    clear h1 HV HST HAR
    go_enter Tryz.func10, Tryz.ntmps10
    go_upto_region 1 with fail
    change Code.wp _ _ _ _ (w.alloc (.cells (evC ⟨e, vA, vn, vc, aA, an, ac⟩) 27))
    rw [← HWA.out]
    go_wp2_with fail
    go_ret
    exact ⟨rfl, hb0⟩
  have d1 : decide ((40 : Int) < (vn : Int)) = false := by rw [decide_eq_false_iff_not]; omega
  have d1n : decide (40 < vn) = false := by rw [decide_eq_false_iff_not]; omega
  by_cases h2 : an ≤ 20
  rotate_left
  · have d2 : decide ((20 : Int) < (an : Int)) = true := by rw [decide_eq_true_eq]; omega
    have d2n : decide (20 < an) = true := by rw [decide_eq_true_eq]; omega
    have hX : X = false := by rw [HV.out, show decide (an ≤ 20) = false by simp [h2], Bool.false_and, Bool.and_false]
    subst hX
    clear h1 h2 HV HST HAR
    go_enter Tryz.func10, Tryz.ntmps10
    go_upto_region 1 with fail
    change Code.wp _ _ _ _ (w.alloc (.cells (evC ⟨e, vA, vn, vc, aA, an, ac⟩) 27))
    rw [← HWA.out]
    go_wp2_with fail
    go_ret
    exact ⟨rfl, hb0⟩
  have d2 : decide ((20 : Int) < (an : Int)) = false := by rw [decide_eq_false_iff_not]; omega
  have d2n : decide (20 < an) = false := by rw [decide_eq_false_iff_not]; omega
  have HX : Hid (X = e.attrs.all fewA) := Lib.hid (by rw [HV.out, show decide (vn ≤ 40) = true by simp [h1], show decide (an ≤ 20) = true by simp [h2], Bool.true_and, Bool.true_and])
  clear HV h1
  go_enter Tryz.func10, Tryz.ntmps10
  go_upto_region 1 with fail
  change Code.wp _ _ _ _ (w.alloc (.cells (evC ⟨e, vA, vn, vc, aA, an, ac⟩) 27))
  rw [← HWA.out]
  go_wp2_with fail
  clear d1 d1n d2 d2n c7
  go_loopw [3] (fun v3 wr => ∃ i : Nat, v3 = .int .i64 (i : Int) ∧ i ≤ an ∧ wr = wa ∧ Hid (e.attrs.all fewA = (e.attrs.drop i).all fewA)) (fun v3 _ => an - (intOf v3).toNat)
  case atStart => exact ⟨0, rfl, by omega, rfl, Lib.hid rfl⟩
  case round =>
    obtain ⟨i, rfl, hi, rfl, HI⟩ := hrel
    by_cases hin : i < an
    · have hil : i < e.attrs.length := by rw [HAL.out]; exact hin
      have dj : decide ((i : Int) < (an : Int)) = true := by rw [decide_eq_true_eq]; omega
      obtain ⟨ad, rfl, hce⟩ := (HAR.out _ hb0).elem hil
      have HS := Lib.hid (HST.out i hil)
      generalize e.attrs[i] = x at *
      have hc0 : wr.cell? (ad.add (i * 4)) = some (.string x.name) := hce 0 _ rfl
      have hc3 : wr.cell? ⟨(ad.add (i * 4)).block, (ad.add (i * 4)).off + 3, none⟩ = some (.string x.s) := hce 3 _ rfl
      obtain ⟨sa, hsa⟩ : ∃ k, x.name.size = k := ⟨_, rfl⟩
      obtain ⟨sb, hsb⟩ : ∃ k, x.s.size = k := ⟨_, rfl⟩
      have HF : Hid (fewA x = (decide (sa ≤ 200) && decide (sb ≤ 200))) := Lib.hid (by unfold fewA; rw [hsa, hsb])
      clear hil hce HST
      by_cases k1 : sa ≤ 200
      · have e1 : decide (200 < sa) = false := by rw [decide_eq_false_iff_not]; omega
        have e1i : decide ((200 : Int) < (sa : Int)) = false := by rw [decide_eq_false_iff_not]; omega
        by_cases k2 : sb ≤ 200
        · have e2 : decide (200 < sb) = false := by rw [decide_eq_false_iff_not]; omega
          have e2i : decide ((200 : Int) < (sb : Int)) = false := by rw [decide_eq_false_iff_not]; omega
          have HN : Hid (e.attrs.all fewA = (e.attrs.drop (i + 1)).all fewA) := Lib.hid (by rw [HI.out, HS.out, HF.out]; simp [k1, k2])
          clear HI HS HF HX k1 k2
          go_wp2_with fail
          exact ⟨⟨i + 1, by go_num, by omega, (by first | rfl | trivial), HN⟩, by simp [intOf]; omega⟩
        · have e2 : decide (200 < sb) = true := by rw [decide_eq_true_eq]; omega
          have e2i : decide ((200 : Int) < (sb : Int)) = true := by rw [decide_eq_true_eq]; omega
          have hX : X = false := by rw [HX.out, HI.out, HS.out, HF.out]; simp [k2]
          subst hX
          clear HI HS HF HX k1 k2
          go_wp2_with fail
          go_ret
          exact ⟨rfl, hb0⟩
      · have e1 : decide (200 < sa) = true := by rw [decide_eq_true_eq]; omega
        have e1i : decide ((200 : Int) < (sa : Int)) = true := by rw [decide_eq_true_eq]; omega
        have hX : X = false := by rw [HX.out, HI.out, HS.out, HF.out]; simp [k1]
        subst hX
        clear HI HS HF HX k1
        go_wp2_with fail
        go_ret
        exact ⟨rfl, hb0⟩
    · obtain rfl : i = an := by omega
      have hX : X = true := by rw [HX.out, HI.out, List.drop_of_length_le (by rw [HAL.out]; exact Nat.le_refl _)]; rfl
      subst hX
      clear HX HI HST
      go_wp2_with fail
      go_ret
      exact ⟨rfl, hb0⟩
end Go.Proofs.YtcapckngikekpaaGreatDoor
namespace Go.Proofs.YtcapckngikekpaaGreatDoor
set_option linter.unusedSimpArgs false
set_option linter.unusedVariables false
open Go.RowKit Exch Merk Ring
theorem hneW : theHe.nd (theHe.lf (sBadF theHe)) (sB theHe) ≠ theHe.nd (sA theHe) (sB theHe) := by decide +kernel
theorem sane (w : World) (hg : GCon w) (hrc : RCon w) (hgb : GBru w) : Calls Tryz.prog 11 #[] w (BIs true w) := sanity_any lds hneW w hg hrc hgb
theorem yields_eqDg2 {ops : Array Oper} {S : World → Prop} {o : Oper} {a : Act} {x y : Operand} {p q : Nat} {u : TypeId} {b : Bool} (hw : Region.wanted o (yielded ops a.tmps) = true) (ho : o.op = .binOp .eql 25 x y u) (hx : a.eval x = dgV p) (hy : a.eval y = dgV q) (hp : p < 2 ^ 128) (hq : q < 2 ^ 128) (hb : decide (p = q) = b)
    (hg : ∀ W, (eqGuard .eql 25 x y (dgV p) (dgV q)).run Tryz.prog W = .ok () W) : YieldsIf Tryz.prog ops S o (.bool b) a := by
  refine .inl ⟨hw, fun w hS => ?_⟩
  unfold execOp
  simp only [ho, hx, hy, Sem.run_bind, hg, eql_Dg hp hq, Result.andThen_ok, Sem.run_pure, hb]
theorem run_eqB (b : Bool) (W : World) : (binOp .eql 4 (.bool b) (.bool b)).run Tryz.prog W = .ok (.bool true) W := by cases b <;> kernel_rfl
theorem yields_eqB {ops : Array Oper} {S : World → Prop} {o : Oper} {a : Act} {x y : Operand} {u : TypeId} {b : Bool} (hw : Region.wanted o (yielded ops a.tmps) = true) (ho : o.op = .binOp .eql 4 x y u) (hx : a.eval x = .bool b) (hy : a.eval y = .bool b)
    (hg : ∀ W, (eqGuard .eql 4 x y (.bool b) (.bool b)).run Tryz.prog W = .ok () W) : YieldsIf Tryz.prog ops S o (.bool true) a := by
  refine .inl ⟨hw, fun w hS => ?_⟩
  unfold execOp
  simp only [ho, hx, hy, Sem.run_bind, hg, run_eqB, Result.andThen_ok, Sem.run_pure]
set_option maxRecDepth 100000 in
set_option maxHeartbeats 16000000 in
theorem walkLedgerFacesAsSpecified (r : EvR) (f : Fc) (w : World) (hk : EvOk w r) (hw : EvWf r.e) (hff : FcFit f) (hfb : f.blind < 2 ^ 128) (hg : GCon w) (hrc : RCon w) (hgb : GBru w) :
    Calls Tryz.prog 3 #[evV r, fcV f] w fun e w' => e = .returned (.bool true) ∧ Below w.heap.size w w' := by
  obtain ⟨wa, hwa, hb0, q1, q2⟩ := box2 w (evC r) (fcC f) 27 29
  have HWA := Lib.hid hwa
  have HSA := Lib.hid (fun W (hb : Below w.heap.size w W) => sane W (hg.below hb) (hrc.below hb) (hgb.below hb))
  have HFW := Lib.hid (fun W (hb : Below w.heap.size w W) => fewEvent_any r W (hk.below hb))
  have HI := Lib.hid (fewB_iff r.e)
  have HFO := Lib.hid (fun (hf : EvFew r.e) W (hb : Below w.heap.size w W) => faceOf_any lds r W (hk.below hb) hw hf (hg.below hb))
  have HRO := Lib.hid (fun (hf : EvFew r.e) W (hb : Below w.heap.size w W) => refFaceOf_any lds r W (hk.below hb) hw hf (hrc.below hb))
  have HLf := Lib.hid (fun W (hb : Below w.heap.size w W) => leafF_any lds f W hff.all (hg.below hb))
  have HRf := Lib.hid (fun W (hb : Below w.heap.size w W) => refLeafF_any lds f W hff.all (hrc.below hb))
  have HLF := Lib.hid (fun W (hb : Below w.heap.size w W) => leafF_any lds (faceOf theHe r.e) W (face_fits theHe _ hw) (hg.below hb))
  have HRF := Lib.hid (fun W (hb : Below w.heap.size w W) => refLeafF_any lds (faceOf theHe r.e) W (face_fits theHe _ hw) (hrc.below hb))
  have HO1 := Lib.hid (fun (hf : EvFew r.e) W (hb : Below w.heap.size w W) => opens_any lds f r W hfb (hk.below hb) hw hf (hg.below hb))
  have HO2 := Lib.hid (fun (hf : EvFew r.e) W (hb : Below w.heap.size w W) => opens_any lds (faceOf theHe r.e) r W (faceOf_lt lds r.e) (hk.below hb) hw hf (hg.below hb))
  have hFb := faceOf_lt lds r.e
  have h1 := lds.llt f
  have h2 := lds.llt (faceOf theHe r.e)
  have hce := blk_row (xs := evL r) q1
  have hcf := blk_row (xs := fcL f) q2
  have h25 := evL_len r
  have h23 := fcL_len
  have hs23 := fcC_size
  clear hwa hk hw hff hg hrc hgb
  unfold BIs at *
  unfold FcIs at HFO HRO
  unfold isD at HLf HRf HLF HRF
  generalize fewB r.e = B at *
  generalize faceOf theHe r.e = F at *
  generalize theHe.lf f = Lf at *
  generalize theHe.lf F = LF at *
  obtain ⟨b, hbd⟩ : ∃ b, decide (F = f) = b := ⟨_, rfl⟩
  have hbd2 : decide (f = F) = b := by rw [← hbd]; exact decide_eq_decide.2 eq_comm
  rw [hbd] at HO1
  rw [show decide (F = F) = true from decide_eq_true rfl] at HO2
  cases B with
  | false =>
    clear HFO HRO HLf HRf HLF HRF HO1 HO2 HI
    go_enter Tryz.func3, Tryz.ntmps3
    go_upto_region 1 with fail
    change Code.wp _ _ _ _ ((w.alloc (.cells (evC r) 27)).alloc (.cells (fcC f) 29))
    rw [← HWA.out]
    go_wp2_with ((with_reducible show wpList _ _ _ (⟨some 8, _, _, _, _, _⟩ :: _) _ _); refine wpList_loadK (us := evL r) rfl rfl rfl aggEv (by rw [sizeEv, h25]) hce ?_)
    refine (HFW.out _ hb0).mono ?_
    rintro e w1 ⟨rfl, hb1⟩
    go_wp2_with fail
    refine (HSA.out _ (bstep hb0 hb1)).mono ?_
    rintro e w2 ⟨rfl, hb2⟩
    go_wp2_with fail
    go_ret
    exact ⟨rfl, bstep hb0 (bstep hb1 hb2)⟩
  | true =>
    have hf : EvFew r.e := HI.out.1 rfl
    have HFO' := Lib.hid (HFO.out hf)
    have HRO' := Lib.hid (HRO.out hf)
    have HO1' := Lib.hid (HO1.out hf)
    have HO2' := Lib.hid (HO2.out hf)
    clear HI hf HFO HRO HO1 HO2
    go_enter Tryz.func3, Tryz.ntmps3
    go_upto_region 1 with fail
    change Code.wp _ _ _ _ ((w.alloc (.cells (evC r) 27)).alloc (.cells (fcC f) 29))
    rw [← HWA.out]
    go_wp2_with ((with_reducible show wpList _ _ _ (⟨some 8, _, _, _, _, _⟩ :: _) _ _); refine wpList_loadK (us := evL r) rfl rfl rfl aggEv (by rw [sizeEv, h25]) hce ?_)
    refine (HFW.out _ hb0).mono ?_
    rintro e w1 ⟨rfl, hb1⟩
    replace hce := fun j u h => cell_later hb1 (hce j u h)
    replace hcf := fun j u h => cell_later hb1 (hcf j u h)
    replace hb0 := bstep hb0 hb1
    clear hb1
    go_wp2_with ((with_reducible show wpList _ _ _ (⟨some 13, _, _, _, _, _⟩ :: _) _ _); refine wpList_loadK (us := evL r) rfl rfl rfl aggEv (by rw [sizeEv, h25]) hce ?_)
    refine (HFO'.out _ hb0).mono ?_
    rintro e w2 ⟨rfl, hb2⟩
    go_upto_region 5 with ((with_reducible show wpList _ _ _ (⟨some 6, _, _, _, _, _⟩ :: _) _ _); refine wpList_newRow (z := fcC zeroFc) (vs := fcC F) rfl rfl rfl rfl (zeroFc_v _) (fun _ => rfl) (fun _ => rfl) (by rw [hs23, hs23]) (by rw [sizeFc, hs23]) (one_fcC _) ?_; intro w3 g6 hg6 b6 hb3 lt3; clear hg6 lt3)
    have hbx := bstep hb2 hb3
    replace hce := fun j u h => cell_later hbx (hce j u h)
    replace hcf := fun j u h => cell_later hbx (hcf j u h)
    replace hb0 := bstep hb0 hbx
    clear hbx hb2 hb3
    go_wp2_with ((with_reducible show wpList _ _ _ (⟨some 15, _, _, _, _, _⟩ :: _) _ _); refine wpList_loadK (us := evL r) rfl rfl rfl aggEv (by rw [sizeEv, h25]) hce ?_)
    refine (HRO'.out _ hb0).mono ?_
    rintro e w4 ⟨rfl, hb4⟩
    go_upto_region 6 with ((with_reducible show wpList _ _ _ (⟨some 7, _, _, _, _, _⟩ :: _) _ _); refine wpList_newRow (z := fcC zeroFc) (vs := fcC F) rfl rfl rfl rfl (zeroFc_v _) (fun _ => rfl) (fun _ => rfl) (by rw [hs23, hs23]) (by rw [sizeFc, hs23]) (one_fcC _) ?_; intro w5 g7 hg7 b7 hb5 lt5; clear hg7 lt5)
    have hbx := bstep hb4 hb5
    replace hce := fun j u h => cell_later hbx (hce j u h)
    replace hcf := fun j u h => cell_later hbx (hcf j u h)
    replace hb0 := bstep hb0 hbx
    have hc6 := blk_row (xs := fcL F) (b6.below hbx)
    have hc7 := blk_row (xs := fcL F) b7
    have h23f := h23 f
    have h23F := h23 F
    clear hbx hb4 hb5 b6 b7
    have hS : Below w5.heap.size w5 w5.drew := (Below.refl _ _).drew
    refine wp_region_T 34 (by kernel_rfl) ?_
    refine WpT.on 0 rfl (fun K hK => ?_)
    go_simp; refine (HSA.out _ (bstep hb0 hS)).mono ?_; rintro e w6 ⟨rfl, hb6⟩; replace hS := bstep hS hb6
    refine hK _ _ (hS) ?_; clear hK K; try simp only [nrm]
    refine WpT.tk 1 (hS) ?_
    try simp only [nrm]
    refine WpT.tl 2 rfl (yields_loadKW (us := fcL F) (by rfl) rfl rfl aggFc (by rw [sizeFc, h23F]) hc6) (hS) ?_
    try simp only [nrm]
    refine WpT.tl 3 rfl (yields_loadKW (us := fcL F) (by rfl) rfl rfl aggFc (by rw [sizeFc, h23F]) hc7) (hS) ?_
    try simp only [nrm]
    refine WpT.tl 4 rfl (yields_eqFc (p := F) (q := F) (by rfl) rfl (by rfl) (by rfl) hFb hFb (decide_eq_true rfl) (fun W => by kernel_rfl)) (hS) ?_
    try simp only [nrm]
    refine WpT.tk 5 (hS) ?_
    try simp only [nrm]
    refine WpT.tk 6 (hS) ?_
    try simp only [nrm]
    refine WpT.tl 7 rfl (yields_loadKW (us := fcL f) (by rfl) rfl rfl aggFc (by rw [sizeFc, h23f]) hcf) (hS) ?_
    try simp only [nrm]
    refine WpT.tl 9 rfl (yields_loadKW (us := fcL f) (by rfl) rfl rfl aggFc (by rw [sizeFc, h23f]) hcf) (hS) ?_
    try simp only [nrm]
    refine WpT.on 8 rfl (fun K hK => ?_)
    go_simp; refine (HLf.out _ (bstep hb0 hS)).mono ?_; rintro e w7 ⟨rfl, hb7⟩; replace hS := bstep hS hb7
    refine hK _ _ (hS) ?_; clear hK K; try simp only [nrm]
    refine WpT.on 10 rfl (fun K hK => ?_)
    go_simp; refine (HRf.out _ (bstep hb0 hS)).mono ?_; rintro e w8 ⟨rfl, hb8⟩; replace hS := bstep hS hb8
    refine hK _ _ (hS) ?_; clear hK K; try simp only [nrm]
    refine WpT.tl 11 rfl (yields_eqDg2 (by rfl) rfl (by rfl) (by rfl) h1 h1 (decide_eq_true rfl) (fun W => by kernel_rfl)) (hS) ?_
    try simp only [nrm]
    refine WpT.tk 12 (hS) ?_
    try simp only [nrm]
    refine WpT.tk 13 (hS) ?_
    try simp only [nrm]
    refine WpT.tl 14 rfl (yields_loadKW (us := fcL F) (by rfl) rfl rfl aggFc (by rw [sizeFc, h23F]) hc6) (hS) ?_
    try simp only [nrm]
    refine WpT.tl 16 rfl (yields_loadKW (us := fcL F) (by rfl) rfl rfl aggFc (by rw [sizeFc, h23F]) hc7) (hS) ?_
    try simp only [nrm]
    refine WpT.on 15 rfl (fun K hK => ?_)
    go_simp; refine (HLF.out _ (bstep hb0 hS)).mono ?_; rintro e w9 ⟨rfl, hb9⟩; replace hS := bstep hS hb9
    refine hK _ _ (hS) ?_; clear hK K; try simp only [nrm]
    refine WpT.on 17 rfl (fun K hK => ?_)
    go_simp; refine (HRF.out _ (bstep hb0 hS)).mono ?_; rintro e wA ⟨rfl, hbA⟩; replace hS := bstep hS hbA
    refine hK _ _ (hS) ?_; clear hK K; try simp only [nrm]
    refine WpT.tl 18 rfl (yields_eqDg2 (by rfl) rfl (by rfl) (by rfl) h2 h2 (decide_eq_true rfl) (fun W => by kernel_rfl)) (hS) ?_
    try simp only [nrm]
    refine WpT.tk 19 (hS) ?_
    try simp only [nrm]
    refine WpT.tk 20 (hS) ?_
    try simp only [nrm]
    refine WpT.tl 21 rfl (yields_loadKW (us := fcL f) (by rfl) rfl rfl aggFc (by rw [sizeFc, h23f]) hcf) (hS) ?_
    try simp only [nrm]
    refine WpT.tl 22 rfl (yields_loadKW (us := evL r) (by rfl) rfl rfl aggEv (by rw [sizeEv, h25]) hce) (hS) ?_
    try simp only [nrm]
    refine WpT.tl 24 rfl (yields_loadKW (us := fcL f) (by rfl) rfl rfl aggFc (by rw [sizeFc, h23f]) hcf) (hS) ?_
    try simp only [nrm]
    refine WpT.tl 25 rfl (yields_loadKW (us := fcL F) (by rfl) rfl rfl aggFc (by rw [sizeFc, h23F]) hc7) (hS) ?_
    try simp only [nrm]
    refine WpT.tl 26 rfl (yields_eqFc (p := f) (q := F) (by rfl) rfl (by rfl) (by rfl) hfb hFb hbd2 (fun W => by kernel_rfl)) (hS) ?_
    try simp only [nrm]
    refine WpT.on 23 rfl (fun K hK => ?_)
    go_simp; refine (HO1'.out _ (bstep hb0 hS)).mono ?_; rintro e wB ⟨rfl, hbB⟩; replace hS := bstep hS hbB
    refine hK _ _ (hS) ?_; clear hK K; try simp only [nrm]
    refine WpT.tl 27 rfl (yields_eqB (b := b) (by rfl) rfl (by rfl) (by rfl) (fun W => by cases b <;> kernel_rfl)) (hS) ?_
    try simp only [nrm]
    refine WpT.tk 28 (hS) ?_
    try simp only [nrm]
    refine WpT.tk 29 (hS) ?_
    try simp only [nrm]
    refine WpT.tl 30 rfl (yields_loadKW (us := fcL F) (by rfl) rfl rfl aggFc (by rw [sizeFc, h23F]) hc7) (hS) ?_
    try simp only [nrm]
    refine WpT.tl 31 rfl (yields_loadKW (us := evL r) (by rfl) rfl rfl aggEv (by rw [sizeEv, h25]) hce) (hS) ?_
    try simp only [nrm]
    refine WpT.on 32 rfl (fun K hK => ?_)
    go_simp; refine (HO2'.out _ (bstep hb0 hS)).mono ?_; rintro e wC ⟨rfl, hbC⟩; replace hS := bstep hS hbC
    refine hK _ _ (hS) ?_; clear hK K; try simp only [nrm]
    refine WpT.tk 33 (hS) ?_
    try simp only [nrm]
    refine WpT.ta 34 rfl (fun K hK => ?_)
    go_simp; (try go_bits)
    refine hK _ _ ?_; clear hK K; try simp only [nrm]
    refine WpT.done (by kernel_rfl) ?_ _
    skip
    go_wp2_with fail
    go_ret
    exact ⟨rfl, bstep hb0 hS⟩
end Go.Proofs.YtcapckngikekpaaGreatDoor
