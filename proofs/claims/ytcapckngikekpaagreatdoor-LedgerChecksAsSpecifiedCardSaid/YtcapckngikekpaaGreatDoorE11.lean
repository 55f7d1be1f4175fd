/-
  Known of the functions of this seat's laws, joined. Conditions: each theorem's own.
-/
import Derived.Test.YtcapckngikekpaaGreatDoorE10
namespace Go.Proofs.YtcapckngikekpaaGreatDoor
set_option linter.unusedSimpArgs false
set_option linter.unusedVariables false
set_option maxRecDepth 100000
set_option maxHeartbeats 16000000
section
open Merk
def z1l (nd : Nat → Nat → Nat) (leaf i n : Nat) (l : List Nat) : Nat × Bool :=
 if h : 2 ≤ n then
  if hl : l = [] then (0, false)
  else if i < split n then (nd (z1l nd leaf i (split n) l.dropLast).1 (l.getLast hl), (z1l nd leaf i (split n) l.dropLast).2)
  else (nd (l.getLast hl) (z1l nd leaf (i - split n) (n - split n) l.dropLast).1, (z1l nd leaf (i - split n) (n - split n) l.dropLast).2)
 else (leaf, decide (l = []))
termination_by n
decreasing_by
 all_goals first | exact split_lt h | (have := split_pos n; omega)
theorem z8q (nd : Nat → Nat → Nat) (leaf i n : Nat) (l : List Nat) (h : ¬ 2 ≤ n) : z1l nd leaf i n l = (leaf, decide (l = [])) := by rw [z1l.eq_def, dif_neg h]
theorem zdu (nd : Nat → Nat → Nat) (leaf i n : Nat) (h : 2 ≤ n) : z1l nd leaf i n [] = (0, false) := by rw [z1l.eq_def, dif_pos h, dif_pos rfl]
theorem zbp (nd : Nat → Nat → Nat) (leaf i n : Nat) (l : List Nat) (x : Nat) (h : 2 ≤ n) (hi : i < split n) : z1l nd leaf i n (l ++ [x]) = (nd (z1l nd leaf i (split n) l).1 x, (z1l nd leaf i (split n) l).2) := by
 rw [z1l.eq_def, dif_pos h, dif_neg (by simp), if_pos hi]; simp
theorem zdv (nd : Nat → Nat → Nat) (leaf i n : Nat) (l : List Nat) (x : Nat) (h : 2 ≤ n) (hi : ¬ i < split n) : z1l nd leaf i n (l ++ [x]) = (nd x (z1l nd leaf (i - split n) (n - split n) l).1, (z1l nd leaf (i - split n) (n - split n) l).2) := by
 rw [z1l.eq_def, dif_pos h, dif_neg (by simp), if_neg hi]; simp
theorem znr (nd : Nat → Nat → Nat) (k : Nat) : ∀ (leaf i n : Nat) (l : List Nat), n ≤ k →
  (z1l nd leaf i n l).2 = (!(z0g nd leaf i n ⟨l, false⟩).2.short && decide ((z0g nd leaf i n ⟨l, false⟩).2.l = [])) ∧ ((z1l nd leaf i n l).2 = true → (z1l nd leaf i n l).1 = (z0g nd leaf i n ⟨l, false⟩).1) := by
 induction k with
 | zero => intro leaf i n l h; rw [z8q nd leaf i n l (by omega), z0g, dif_neg (by omega)]; simp
 | succ k ih =>
  intro leaf i n l h
  by_cases h2 : 2 ≤ n
  ·have k1 := split_lt h2
   have k2 := split_pos n
   rw [z0g, dif_pos h2]
   rcases List.eq_nil_or_concat l with rfl | ⟨l, x, rfl⟩
   ·rw [zdu nd leaf i n h2, z90]
    split
    ·rw [zgw nd k leaf i (split n) ⟨[], true⟩ (by omega) rfl]; simp
    ·rw [zgw nd k leaf (i - split n) (n - split n) ⟨[], true⟩ (by omega) rfl]; simp
   ·rw [List.concat_eq_append, z6k]
    by_cases hi : i < split n
    ·have := ih leaf i (split n) l (by omega)
     rw [zbp nd leaf i n l x h2 hi, if_pos hi]
     dsimp only at this ⊢
     exact ⟨this.1, fun h => by rw [this.2 h]⟩
    ·have := ih leaf (i - split n) (n - split n) l (by omega)
     rw [zdv nd leaf i n l x h2 hi, if_neg hi]
     dsimp only at this ⊢
     exact ⟨this.1, fun h => by rw [this.2 h]⟩
  ·rw [z8q nd leaf i n l h2, z0g, dif_neg h2]; simp
theorem zgs (nd : Nat → Nat → Nat) (leaf i n root : Nat) (l : List Nat) (h1 : 1 ≤ n) (h2 : n ≤ 1099511627776) (hi : i < n) : z43 nd leaf (i : Int) (n : Int) l root = ((z1l nd leaf i n l).2 && decide ((z1l nd leaf i n l).1 = root)) := by
 unfold z43
 rw [if_pos (by omega), Int.toNat_natCast, Int.toNat_natCast]
 have h := znr nd n leaf i n l (Nat.le_refl _)
 unfold z3v
 rw [← h.1]
 cases hb : (z1l nd leaf i n l).2 with
 | false => simp
 | true => rw [h.2 hb]; simp
def z0z (nd : Nat → Nat → Nat) (old m n : Nat) (mark : Bool) (l : List Nat) : Nat × Nat × Bool :=
 if m = n ∧ mark = true then (old, old, decide (l = []))
 else if hl : l = [] then (0, 0, false)
 else if m = n then (l.getLast hl, l.getLast hl, decide (l.dropLast = []))
 else if h : 2 ≤ n then
  if m ≤ split n then ((z0z nd old m (split n) mark l.dropLast).1, nd (z0z nd old m (split n) mark l.dropLast).2.1 (l.getLast hl), (z0z nd old m (split n) mark l.dropLast).2.2)
  else (nd (l.getLast hl) (z0z nd old (m - split n) (n - split n) false l.dropLast).1, nd (l.getLast hl) (z0z nd old (m - split n) (n - split n) false l.dropLast).2.1, (z0z nd old (m - split n) (n - split n) false l.dropLast).2.2)
 else (0, 0, false)
termination_by n
decreasing_by
 all_goals first | exact split_lt h | (have := split_pos n; omega)
section
variable (nd : Nat → Nat → Nat) (old m n : Nat) (mark : Bool) (l : List Nat) (x : Nat)
theorem zbn : z0z nd old n n true l = (old, old, decide (l = [])) := by rw [z0z.eq_def, if_pos ⟨rfl, rfl⟩]
theorem z7x (h : ¬ (m = n ∧ mark = true)) : z0z nd old m n mark [] = (0, 0, false) := by rw [z0z.eq_def, if_neg h, dif_pos rfl]
theorem zdf : z0z nd old n n false (l ++ [x]) = (x, x, decide (l = [])) := by rw [z0z.eq_def, if_neg (by simp), dif_neg (by simp), if_pos rfl]; simp
theorem zdg (h : m < n) (h1 : 1 ≤ m) (hk : m ≤ split n) : z0z nd old m n mark (l ++ [x]) = ((z0z nd old m (split n) mark l).1, nd (z0z nd old m (split n) mark l).2.1 x, (z0z nd old m (split n) mark l).2.2) := by
 rw [z0z.eq_def, if_neg (by omega), dif_neg (by simp), if_neg (by omega), dif_pos (by omega), if_pos hk]; simp
theorem zdh (h : m < n) (h1 : 1 ≤ m) (hk : ¬ m ≤ split n) : z0z nd old m n mark (l ++ [x]) = (nd x (z0z nd old (m - split n) (n - split n) false l).1, nd x (z0z nd old (m - split n) (n - split n) false l).2.1, (z0z nd old (m - split n) (n - split n) false l).2.2) := by
 rw [z0z.eq_def, if_neg (by omega), dif_neg (by simp), if_neg (by omega), dif_pos (by omega), if_neg hk]; simp
end
theorem zgv (nd : Nat → Nat → Nat) (k : Nat) : ∀ (old m n : Nat) (mark : Bool) (p : Pth), n ≤ k → 1 ≤ m → m ≤ n → p.short = true → (z00 nd old m n mark p).2.2.short = true := by
 induction k with
 | zero => intro old m n mark p h h1 h2; omega
 | succ k ih =>
  intro old m n mark p h h1 h2 hs
  have hl : p.last.2.short = true := by unfold Pth.last; split <;> first | rfl | exact hs
  by_cases he : m = n
  ·subst he
   cases mark with
   | true => rw [zae]; exact hs
   | false => rw [z8p]; exact hl
  ·have h3 := split_lt (n := n) (by omega)
   have h4 := split_pos n
   have h5 := zfb (n := n)
   by_cases hk : m ≤ split n
   ·rw [z77 nd old mark p (by omega) h1 hk]
    exact ih old m (split n) mark _ (by omega) h1 hk hl
   ·rw [z78 nd old mark p (by omega) h1 hk]
    exact ih old (m - split n) (n - split n) false _ (by omega) (by omega) (by omega) hl
theorem zm7 (nd : Nat → Nat → Nat) (k : Nat) : ∀ (old m n : Nat) (mark : Bool) (l : List Nat), n ≤ k → 1 ≤ m → m ≤ n →
  (z0z nd old m n mark l).2.2 = (!(z00 nd old m n mark ⟨l, false⟩).2.2.short && decide ((z00 nd old m n mark ⟨l, false⟩).2.2.l = [])) ∧
  ((z0z nd old m n mark l).2.2 = true → (z0z nd old m n mark l).1 = (z00 nd old m n mark ⟨l, false⟩).1 ∧ (z0z nd old m n mark l).2.1 = (z00 nd old m n mark ⟨l, false⟩).2.1) := by
 induction k with
 | zero => intro old m n mark l h h1 h2; omega
 | succ k ih =>
  intro old m n mark l h h1 h2
  by_cases he : m = n
  ·subst he
   cases mark with
   | true => rw [zbn, zae]; simp
   | false =>
    rw [z8p]
    rcases List.eq_nil_or_concat l with rfl | ⟨l, x, rfl⟩
    ·rw [z7x nd old m m false (by simp), z90]; simp
    ·rw [List.concat_eq_append, z6k, zdf]; simp
  ·have h3 := split_lt (n := n) (by omega)
   have h4 := split_pos n
   have h5 := zfb (n := n)
   by_cases hk : m ≤ split n
   ·rw [z77 nd old mark _ (by omega) h1 hk]
    rcases List.eq_nil_or_concat l with rfl | ⟨l, x, rfl⟩
    ·rw [z7x nd old m n mark (by omega), z90]
     dsimp only
     rw [zgv nd k old m (split n) mark ⟨[], true⟩ (by omega) h1 hk rfl]; simp
    ·rw [List.concat_eq_append, z6k, zdg nd old m n mark l x (by omega) h1 hk]
     have := ih old m (split n) mark l (by omega) h1 hk
     dsimp only at this ⊢
     exact ⟨this.1, fun h => ⟨(this.2 h).1, by rw [(this.2 h).2]⟩⟩
   ·rw [z78 nd old mark _ (by omega) h1 hk]
    rcases List.eq_nil_or_concat l with rfl | ⟨l, x, rfl⟩
    ·rw [z7x nd old m n mark (by omega), z90]
     dsimp only
     rw [zgv nd k old (m - split n) (n - split n) false ⟨[], true⟩ (by omega) (by omega) (by omega) rfl]; simp
    ·rw [List.concat_eq_append, z6k, zdh nd old m n mark l x (by omega) h1 hk]
     have := ih old (m - split n) (n - split n) false l (by omega) (by omega) (by omega)
     dsimp only at this ⊢
     exact ⟨this.1, fun h => ⟨by rw [(this.2 h).1], by rw [(this.2 h).2]⟩⟩
theorem zn9 (nd : Nat → Nat → Nat) (em m n old root : Nat) (l : List Nat) (h1 : 1 ≤ m) (h2 : n ≤ 1099511627776) (hm : m ≤ n) :
  z3p nd em (m : Int) (n : Int) old root l = ((z0z nd old m n true l).2.2 && (decide ((z0z nd old m n true l).1 = old) && decide ((z0z nd old m n true l).2.1 = root))) := by
 unfold z3p
 rw [if_pos (by omega), if_neg (by omega), Int.toNat_natCast, Int.toNat_natCast]
 have h := zm7 nd n old m n true l (Nat.le_refl _) h1 hm
 unfold z3v
 rw [← h.1]
 cases hb : (z0z nd old m n true l).2.2 with
 | false => simp
 | true => rw [(h.2 hb).1, (h.2 hb).2]; simp
end
section
open Go.RowKit Exch Merk Ring
def z9m : Nat := val (8 :: List.replicate 15 0)
def z1b : Ev := ⟨1, 1, 5, 7, 3, 9, 0, [1, 2], [], z9m⟩
def z30 : Ev := ⟨5, 2, 9, 0, 0, 0, 0, [], [], 0⟩
def z62 : Ev := ⟨5, 4, 9, 0, 0, 0, 0, [], [], 0⟩
def z61 : Ev := ⟨5, 3, 8, 0, 0, 0, 0, [], [], 0⟩
theorem zt7 : dg z9m = 8 :: List.replicate 15 0 := zah (by rfl)
theorem zt8 : z9m < 2 ^ 128 := by have := z7m (8 :: List.replicate 15 0); rwa [show (8 :: List.replicate 15 (0 : UInt8)).length = 16 by rfl, zap] at this
theorem big1 : big 1 = 1 := by decide +kernel
theorem big2 : big 2 = 2 := by decide +kernel
theorem z63 : Merk.split 2 = 1 := by decide +kernel
theorem zp9 : z1u 1 1 = true := by decide +kernel
theorem zjn (nd : Nat → Nat → Nat) (em x : Nat) : z12 nd em [x] = [x] := by
 rw [z4l nd em (by simp), show big [x].length = 1 from big1]
 simp [root_one, z38]
theorem zjo (nd : Nat → Nat → Nat) (em x y : Nat) : z12 nd em [x, y] = [nd x y] := by
 rw [z4l nd em (by simp), show big [x, y].length = 2 from big2]
 rw [show ([x, y] : List Nat).take 2 = [x, y] by rfl, show ([x, y] : List Nat).drop 2 = [] by rfl, z38, root_two nd em (by simp), show Merk.split [x, y].length = 1 from z63]
 simp [root_one]
theorem zkb (nd : Nat → Nat → Nat) (em x y : Nat) : root nd em [x, y] = nd x y := by
 rw [root_two nd em (by simp), show Merk.split [x, y].length = 1 from z63]
 simp [root_one]
theorem app0 (nd : Nat → Nat → Nat) (x : Nat) : z3e nd 0 [] x = (1, [x], 0) := by
 have := zdb nd 0 [] x (by simp)
 rw [z38, List.nil_append, zjn] at this
 exact this
theorem app1 (nd : Nat → Nat → Nat) (x y : Nat) : z3e nd 1 [x] y = (2, [nd x y], 0) := by
 have := zdb nd 0 [x] y (by simp)
 rw [zjn, show ([x] : List Nat) ++ [y] = [x, y] by rfl, zjo] at this
 exact this
theorem top1 (nd : Nat → Nat → Nat) (em x : Nat) : z3g nd em 1 [x] = (x, 0) := by
 unfold z3g
 rw [if_pos (by show z1u 1 1 = true; exact zp9)]
 rfl
theorem zpa : z1u 2 1 = true := by decide +kernel
theorem top2 (nd : Nat → Nat → Nat) (em x : Nat) : z3g nd em 2 [x] = (x, 0) := by
 unfold z3g
 rw [if_pos (by show z1u 2 1 = true; exact zpa)]
 rfl
theorem zf9 : z4g z0a 2 = true := by decide +kernel
section
variable (H : He)
def sA : Nat := H.lf (yt H z1b)
def sB : Nat := H.lf (yt H z30)
def sHa : Hd := ⟨2, 1, 5, sA H, 1, H.sh ⟨#[99]⟩ 2 1 5 1 (sA H)⟩
def sHb : Hd := ⟨2, 2, 9, H.nd (sA H) (sB H), 1, H.sh ⟨#[99]⟩ 2 2 9 1 (H.nd (sA H) (sB H))⟩
def sRc : Rc := ⟨2, yt H z1b, 1, H.sr ⟨#[99]⟩ 2 1 (sA H)⟩
def sL0 : Lg := ⟨2, [], 0, [], []⟩
def sL1 : Lg := ⟨2, [z1b], 1, [sA H], []⟩
def sL2 : Lg := ⟨2, [z1b], 1, [sA H], [sHa H]⟩
def sL3 : Lg := ⟨2, [z1b, z30], 2, [H.nd (sA H) (sB H)], [sHa H]⟩
def sL4 : Lg := ⟨2, [z1b, z30], 2, [H.nd (sA H) (sB H)], [sHa H, sHb H]⟩
theorem zt9 : z4s H sL0 z1b = (sL1 H, 0) := by
 unfold z4s
 rw [if_pos (by decide)]
 rw [show (sL0).size = 0 from rfl, show sL0.tops = [] from rfl, app0]
 rfl
theorem ztm : z9g H (sL1 H) z0a 1 = (sRc H, 0) := by
 unfold z9g
 have hm : z4g z0a (sL1 H).office = true := zf9
 rw [if_pos hm, if_pos ⟨by decide, by show (1 : Int) ≤ 1; decide⟩]
 rfl
theorem ztp : z6u H (sL1 H) z0a = (sL2 H, sHa H, 0) := by
 unfold z6u
 have hm : z4g z0a (sL1 H).office = true := zf9
 rw [if_pos hm, show (sL1 H).size = 1 from rfl, show (sL1 H).tops = [sA H] from rfl, top1]
 rfl
theorem zta : z4s H (sL2 H) z30 = (sL3 H, 0) := by
 unfold z4s
 rw [if_pos (by show follows [z1b] z30 = 0; decide)]
 rw [show (sL2 H).size = 1 from rfl, show (sL2 H).tops = [sA H] from rfl, app1]
 rfl
theorem ztq : z6u H (sL3 H) z0a = (sL4 H, sHb H, 0) := by
 unfold z6u
 have hm : z4g z0a (sL3 H).office = true := zf9
 rw [if_pos hm, show (sL3 H).size = 2 from rfl, show (sL3 H).tops = [H.nd (sA H) (sB H)] from rfl, top2]
 rfl
theorem zkn : z0c H [z1b, z30] = [sA H, sB H] := rfl
theorem ztk : z3f H.nd H.em [sA H, sB H] 0 = ([sB H], 0) := by
 unfold z3f
 rw [if_pos (by simp), show (0 : Int).toNat = 0 by rfl, Merk.incl_left H.nd H.em (by simp) (by rw [show Merk.split [sA H, sB H].length = 1 from z63]; omega), show Merk.split [sA H, sB H].length = 1 from z63, Merk.incl_one H.nd H.em (by simp)]
 simp [root_one]
theorem s_csy : z6f H.nd H.em [sA H, sB H] 1 = ([sB H], 0) := by
 unfold z6f
 rw [if_pos (by simp), if_neg (by simp), show (1 : Int).toNat = 1 by rfl, Merk.csy_left H.nd H.em true (by simp) (by simp) (by rw [show Merk.split [sA H, sB H].length = 1 from z63]; omega), show Merk.split [sA H, sB H].length = 1 from z63, Merk.csy_true H.nd H.em (by simp)]
 simp [root_one]
theorem s_inA : sHa H ∈ (sL4 H).heads := by simp [sL4]
theorem zkm : sHb H ∈ (sL4 H).heads := by simp [sL4]
def sSh : Sh := ⟨yt H z1b, [sB H], sHb H⟩
def z4m : Fc := { yt H z1b with til := 8 }
def z6s : Sh := ⟨z4m H, [sB H], sHb H⟩
theorem ztl : z9f H (sL4 H) 1 (sHb H) = (sSh H, 0) := by
 unfold z9f
 rw [if_pos (zkm H), if_pos ⟨by decide, by show (1 : Int) ≤ 2; decide⟩]
 rw [show (z0c H (sL4 H).events).take (sHb H).commit.toNat = [sA H, sB H] from rfl, show (1 : Int) - 1 = 0 by decide, ztk]
 rfl
theorem zth : zaf H (sL4 H) (sHa H) (sHb H) = ([sB H], 0) := by
 unfold zaf
 rw [if_pos ⟨s_inA H, zkm H⟩, if_pos (by show (1 : Int) ≤ 2; decide), show (z0c H (sL4 H).events).take (sHb H).commit.toNat = [sA H, sB H] from rfl]
 exact s_csy H
theorem ztc : z4s H (sL4 H) z62 = (sL4 H, 9) := by
 unfold z4s
 have h : follows (sL4 H).events z62 = 9 := by show follows [z1b, z30] z62 = 9; decide
 rw [if_neg (by rw [h]; decide), h]
theorem ztb : z4s H (sL4 H) z61 = (sL4 H, 9) := by
 unfold z4s
 have h : follows (sL4 H).events z61 = 9 := by show follows [z1b, z30] z61 = 9; decide
 rw [if_neg (by rw [h]; decide), h]
theorem zf8 : z0r (z4a (z2g 2) 1) [z0a] = some z0a := by rfl
theorem zkl : z3q z0a 5 = true := by decide +kernel
theorem ztg : z3q z0a 9 = true := by decide +kernel
theorem zte : z10 H [z0a] (sHa H) = 0 := by
 show z2o [z0a] (z2g 2) 1 5 (fun s => H.sh s 2 1 5 1 (sA H)) (H.sh ⟨#[99]⟩ 2 1 5 1 (sA H)) = 0
 unfold z2o
 rw [zf8]
 show (if z3q z0a 5 = true then (if H.sh ⟨#[99]⟩ 2 1 5 1 (sA H) = H.sh ⟨#[99]⟩ 2 1 5 1 (sA H) then (0 : Int) else 8) else 9) = 0
 rw [if_pos zkl, if_pos rfl]
theorem zf7 : z10 H [z0a] (sHb H) = 0 := by
 show z2o [z0a] (z2g 2) 1 9 (fun s => H.sh s 2 2 9 1 (H.nd (sA H) (sB H))) (H.sh ⟨#[99]⟩ 2 2 9 1 (H.nd (sA H) (sB H))) = 0
 unfold z2o
 rw [zf8]
 show (if z3q z0a 9 = true then (if H.sh ⟨#[99]⟩ 2 2 9 1 (H.nd (sA H) (sB H)) = H.sh ⟨#[99]⟩ 2 2 9 1 (H.nd (sA H) (sB H)) then (0 : Int) else 8) else 9) = 0
 rw [if_pos ztg, if_pos rfl]
theorem ztf : z5d H [z0a] (sRc H) = 0 := by
 show z2o [z0a] (z2g 2) 1 5 (fun s => H.sr s 2 1 (sA H)) (H.sr ⟨#[99]⟩ 2 1 (sA H)) = 0
 unfold z2o
 rw [zf8]
 show (if z3q z0a 5 = true then (if H.sr ⟨#[99]⟩ 2 1 (sA H) = H.sr ⟨#[99]⟩ 2 1 (sA H) then (0 : Int) else 8) else 9) = 0
 rw [if_pos zkl, if_pos rfl]
theorem zkk (x : Nat) : z43 H.nd x 0 2 [sB H] (H.nd (sA H) (sB H)) = decide (H.nd x (sB H) = H.nd (sA H) (sB H)) := by
 have h := zgs H.nd x 0 2 (H.nd (sA H) (sB H)) [sB H] (by omega) (by omega) (by omega)
 have h2 := zbp H.nd x 0 2 [] (sB H) (by omega) (by rw [z63]; omega)
 rw [List.nil_append] at h2
 rw [show ((0 : Nat) : Int) = 0 by rfl, show ((2 : Nat) : Int) = 2 by rfl] at h
 rw [h, h2, show Merk.split 2 = 1 from z63, z8q H.nd x 0 1 [] (by omega)]
 simp
theorem ztd : z3p H.nd H.em 1 2 (sA H) (H.nd (sA H) (sB H)) [sB H] = true := by
 have h := zn8 H.nd H.em [sA H, sB H] 1 (by simp) (by simp) (by simp) (sA H) (.inr (.inr (.inl (by simp [root_one]))))
 have h2 : zca H.nd H.em [sA H, sB H] 1 = [sB H] := by
  unfold zca
  rw [if_neg (by simp), Merk.csy_left H.nd H.em true (by simp) (by simp) (by rw [show Merk.split [sA H, sB H].length = 1 from z63]; omega), show Merk.split [sA H, sB H].length = 1 from z63, Merk.csy_true H.nd H.em (by simp)]
  simp [root_one]
 rw [h2, zkb, show ([sA H, sB H].take 1) = [sA H] by rfl, root_one, decide_eq_true rfl] at h
 exact h
theorem ztr : z3k H [z0a] (sSh H) = 0 := by
 unfold z3k
 rw [if_pos ⟨by show (1 : Int) ≤ 1; decide, by show (1 : Int) ≤ 2; decide⟩, show (sSh H).head = sHb H from rfl, if_pos (zf7 H)]
 have h := zkk H (sA H)
 rw [decide_eq_true rfl] at h
 rw [if_pos (show z43 H.nd (H.lf (sSh H).face) ((sSh H).face.commit - 1) (sHb H).commit (sSh H).path (sHb H).root = true from h)]
theorem zts (hne : H.nd (H.lf (z4m H)) (sB H) ≠ H.nd (sA H) (sB H)) : z3k H [z0a] (z6s H) = 3 := by
 unfold z3k
 rw [if_pos ⟨by show (1 : Int) ≤ 1; decide, by show (1 : Int) ≤ 2; decide⟩, show (z6s H).head = sHb H from rfl, if_pos (zf7 H)]
 have h := zkk H (H.lf (z4m H))
 rw [decide_eq_false hne] at h
 rw [if_neg (by rw [show z43 H.nd (H.lf (z6s H).face) ((z6s H).face.commit - 1) (sHb H).commit (z6s H).path (sHb H).root = false from h]; decide)]
theorem ztj : z7y H [z0a] (sHa H) (sHb H) [sB H] = 0 := by
 unfold z7y
 rw [if_pos ⟨rfl, by show (1 : Int) ≤ 2; decide, by show (5 : Int) ≤ 9; decide⟩, if_pos (zte H), if_pos (zf7 H), if_pos (show z3p H.nd H.em (sHa H).commit (sHb H).commit (sHa H).root (sHb H).root [sB H] = true from ztd H)]
theorem ztn : z5h H [z0a] (sRc H) (sSh H) = false := by
 unfold z5h
 rw [show decide ((sRc H).face = (sSh H).face) = true by rw [decide_eq_true_eq]; rfl]
 simp
theorem zto (hne : H.nd (H.lf (z4m H)) (sB H) ≠ H.nd (sA H) (sB H)) : z5h H [z0a] (sRc H) (z6s H) = false := by
 unfold z5h
 rw [zts H hne]
 simp
theorem ztt : zb1 H (sL4 H) = true := by
 unfold zb1
 rw [show decide (0 ≤ (sL4 H).office ∧ (sL4 H).office < 32 ∧ (sL4 H).events.length ≤ 65536) = true by rw [decide_eq_true_eq]; exact ⟨by show (0 : Int) ≤ 2; omega, by show (2 : Int) < 32; omega, by show 2 ≤ 65536; omega⟩]
 rw [show z45 0 0 (sL4 H).events = true by show z45 0 0 [z1b, z30] = true; decide]
 rw [show z0c H (sL4 H).events = [sA H, sB H] from rfl, zjo]
 rw [show decide ((sL4 H).size = ((sL4 H).events.length : Int)) = true from rfl, show decide ([H.nd (sA H) (sB H)] = (sL4 H).tops) = true by rw [decide_eq_true_eq]; rfl]
 have h : z36 H (sL4 H).office (sL4 H).events 0 (sL4 H).heads = true := by
  show z36 H 2 [z1b, z30] 0 [sHa H, sHb H] = true
  unfold z36
  rw [if_pos ⟨rfl, by show (0 : Int) ≤ 1; decide, by show (1 : Int) ≤ 2; decide, rfl, by rw [zkn]; show root H.nd H.em [sA H] = sA H; rw [root_one]⟩]
  unfold z36
  rw [if_pos ⟨rfl, by show (1 : Int) ≤ 2; decide, by show (2 : Int) ≤ 2; decide, rfl, by rw [zkn]; exact zkb H.nd H.em (sA H) (sB H)⟩]
  rfl
 rw [h]
 rfl
theorem zti : z6i H [z0a] (sHa H) (sHb H) = false := by
 unfold z6i
 rw [show decide ((sHa H).commit = (sHb H).commit) = false from rfl]
 simp
end
theorem zn3 {w : World} {p : Addr} {v : Value} (h : w.cell? p = some v) : p.block < w.heap.size := by
 rcases Nat.lt_or_ge p.block w.heap.size with hl | hl
 ·exact hl
 ·exfalso
  have : w.cell? p = none := by
   have hn : w.heap[p.block]? = none := Array.getElem?_eq_none hl
   simp [World.cell?, World.cells?, hn]
  rw [this] at h; cases h
structure Kp (g : Nat) (w w' : World) : Prop where
 below : ∀ B, B ≤ g → B ≤ w.heap.size → Below B w w'
 size : w.heap.size ≤ w'.heap.size
 far : ∀ k, k < w.heap.size → k ≠ g → w'.heap[k]? = w.heap[k]?
section
variable {g : Nat} {w w1 w2 : World}
theorem Kp.of (h : Below w.heap.size w w1) : Kp g w w1 := ⟨fun B _ hB => h.mono hB, h.size, fun k hk _ => h.block k hk⟩
theorem Kp.turn (h : Kp g w w1) (ht : z0n g w1 w2) : Kp g w w2 := ⟨fun B h1 h2 => (h.below B h1 h2).trans (ht.below B h1), by rw [ht.size]; exact h.size, fun k hk hn => (ht.far k hn).trans (h.far k hk hn)⟩
theorem Kp.turnNew {k : Nat} (h : Kp g w w1) (ht : z0n k w1 w2) (hk : w.heap.size ≤ k) : Kp g w w2 := ⟨fun B h1 h2 => (h.below B h1 h2).trans (ht.below B (by omega)), by rw [ht.size]; exact h.size, fun j hj hn => (ht.far j (by omega)).trans (h.far j hj hn)⟩
theorem Kp.step (h : Kp g w w1) (hb : Below w1.heap.size w1 w2) : Kp g w w2 := ⟨fun B h1 h2 => (h.below B h1 h2).trans (hb.mono (by have := h.size; omega)), by have := h.size; have := hb.size; omega, fun k hk hn => (hb.block k (by have := h.size; omega)).trans (h.far k hk hn)⟩
theorem Kp.blk (h : Kp g w w1) {k : Nat} {T : TypeId} {cs : Array Value} (hb : Blk w k T cs) (hk : k ≠ g) : Blk w1 k T cs := (h.far k hb.lt hk).trans hb
theorem Kp.rd (h : Kp g w w1) {A : Option Addr} {n : Nat} {xs : List Value} (hr : Rd w A n xs) (ha : z2h A g) : Rd w1 A n xs :=
 ⟨hr.len, fun k u hk => by
  obtain ⟨ad, e, hc⟩ := hr.at_ k u hk
  refine ⟨ad, e, ?_⟩
  have hlt : (ad.add k).block < w.heap.size := by
   rcases Nat.lt_or_ge (ad.add k).block w.heap.size with hl | hl
   ·exact hl
   ·exfalso
    have : w.cell? (ad.add k) = none := by
     have hn : w.heap[(ad.add k).block]? = none := Array.getElem?_eq_none hl
     simp [World.cell?, World.cells?, hn]
    rw [this] at hc; cases hc
  rw [World.cell?_of_block (h.far _ hlt (by rw [zbm]; exact ha ad e))]
  exact hc⟩
theorem Kp.rdN (h : Kp g w w1) {A : Option Addr} {n : Nat} {xs : List Value} (hr : Rd w A n xs) (ha : n ≠ 0 → z2h A g) : Rd w1 A n xs := by
 by_cases h0 : n = 0
 ·exact zjy hr h0 w1
 ·exact h.rd hr (ha h0)
theorem Kp.ev (h : Kp g w w1) {v : EvR} (hv : z24 w v) (ha : z7v g v) : z24 w1 v :=
 ⟨hv.vlen, h.rdN hv.vrd ha.1, hv.vcap, hv.vmax, ⟨hv.ard.len, h.rdN hv.ard.rd (fun h0 => ha.2 (fun e => h0 (by rw [e])))⟩, hv.acap, hv.amax, hv.non⟩
end
theorem zvc {P : Program} {w : World} {ops : Array Oper} {rest : List Oper} {o : Oper} {a : Act} {Q : Exit → Act → World → Prop} (hgd : o.guard = none) {T : TypeId} {i0 i1 i2 i3 i4 i5 i6 i7 : Nat} {x0 x1 x2 x3 x4 x5 x6 x7 : Operand} {v0 v1 v2 v3 v4 v5 v6 v7 v : Value} (ho : o.op = .build T #[(i0, x0), (i1, x1), (i2, x2), (i3, x3), (i4, x4), (i5, x5), (i6, x6), (i7, x7)]) (h0 : a.eval x0 = v0) (h1 : a.eval x1 = v1) (h2 : a.eval x2 = v2) (h3 : a.eval x3 = v3) (h4 : a.eval x4 = v4) (h5 : a.eval x5 = v5) (h6 : a.eval x6 = v6) (h7 : a.eval x7 = v7)
  (hr : ∀ W, (Instr.build T #[(i0, v0), (i1, v1), (i2, v2), (i3, v3), (i4, v4), (i5, v5), (i6, v6), (i7, v7)]).run P W = .ok v W) (h : wpList P ops Q rest (a.put o.dst v) w) : wpList P ops Q (o :: rest) a w := by
 refine wpList_plain hgd fun K hK => ?_
 unfold Oper.wp execOp
 simp only [ho, List.map_toArray, List.map_cons, List.map_nil, h0, h1, h2, h3, h4, h5, h6, h7, Sem.run_bind, hr, Result.andThen_ok, Sem.run_pure]
 exact hK _ _ h
theorem zmz (A : Option Addr) (n : Nat) (W : World) : (Instr.build 27 #[(0, .int .i64 1), (1, .int .i64 1), (2, .int .i64 5), (3, .int .i64 7), (4, .int .i64 3), (5, .int .i64 9), (7, .slice A 2 2), (9, dgV n)]).run Tryz.prog W = .ok (evV ⟨⟨1, 1, 5, 7, 3, 9, 0, [1, 2], [], n⟩, A, 2, 2, none, 0, 0⟩) W := by kernel_rfl
theorem zdk (k c d : Int) (W : World) : (Instr.build 27 #[(0, .int .i64 k), (1, .int .i64 c), (2, .int .i64 d)]).run Tryz.prog W = .ok (evV ⟨⟨k, c, d, 0, 0, 0, 0, [], [], 0⟩, none, 0, 0, none, 0, 0⟩) W := by kernel_rfl
theorem zmy (W : World) : (Instr.build 25 #[(0, .int .u8 8)]).run Tryz.prog W = .ok (dgV z9m) W := by
 rw [show dgV z9m = .agg (bv (8 :: List.replicate 15 0)).toArray by rw [dg_bv, zt7]]
 kernel_rfl
theorem zmh (k : Key) (W : World) : (Instr.buildSlice 82 1 #[(0, z0v k)]).run Tryz.prog W = .ok (.slice (some ⟨W.heap.size, 0, none⟩) 1 1) (W.alloc (.cells (z0p k) 44)) := by kernel_rfl
theorem zvh {w : World} {ops : Array Oper} {rest : List Oper} {o : Oper} {a : Act} {Q : Exit → Act → World → Prop} (hgd : o.guard = none) {x : Operand} {k : Key} (ho : o.op = .buildSlice 82 1 #[(0, x)]) (hx : a.eval x = z0v k)
  (h : ∀ w' g, RdK w' (some ⟨g, 0, none⟩) 1 [k] → Below w.heap.size w w' → wpList Tryz.prog ops Q rest (a.put o.dst (.slice (some ⟨g, 0, none⟩) 1 1)) w') : wpList Tryz.prog ops Q (o :: rest) a w := by
 have hr := z5b (xs := kv k) (Blk.new w 44 (kv k).toArray)
 have h2 := h _ _ ⟨rfl, by rw [z8z] at hr; simpa [kvs] using hr⟩ ((Below.refl _ _).alloc (Nat.le_refl _) _)
 refine wpList_plain hgd fun K hK => ?_
 unfold Oper.wp execOp
 simp only [ho, List.map_toArray, List.map_cons, List.map_nil, hx, zmh, Sem.run_bind, Result.andThen_ok, Sem.run_pure]
 exact hK _ _ h2
theorem zaj {l : List EvR} {es : List Ev} (h : yg l = es) (hf : ∀ e ∈ es, z1s e ∧ z1r e) : z5n l := fun x hx => hf x.e (by rw [← h]; exact List.mem_map_of_mem hx)
theorem ze5 (k c d i o t f : Int) (n : Nat) (h : z0x [k, c, d, i, o, t, f]) : z1s ⟨k, c, d, i, o, t, f, [], [], n⟩ ∧ z1r ⟨k, c, d, i, o, t, f, [], [], n⟩ :=
 ⟨⟨fun x hx => absurd hx List.not_mem_nil, fun x hx => absurd hx List.not_mem_nil, h⟩, ⟨Nat.zero_le _, Nat.zero_le _, fun x hx => absurd hx List.not_mem_nil⟩⟩
theorem z5t {l : List Int} (h : l.all (fun x => decide (-9223372036854775808 ≤ x) && decide (x ≤ 9223372036854775807)) = true) : z0x l := by
 intro x hx
 have := List.all_eq_true.1 h x hx
 rw [Bool.and_eq_true, decide_eq_true_eq, decide_eq_true_eq] at this
 exact this
theorem zak : z1s z1b ∧ z1r z1b := ⟨⟨z5t (by decide), fun x hx => absurd hx List.not_mem_nil, z5t (by decide)⟩, ⟨by decide, by decide, fun x hx => absurd hx List.not_mem_nil⟩⟩
theorem zhn : z1s z30 ∧ z1r z30 := ze5 _ _ _ _ _ _ _ _ (z5t (by decide))
theorem zp6 : z1s z62 ∧ z1r z62 := ze5 _ _ _ _ _ _ _ _ (z5t (by decide))
theorem zp5 : z1s z61 ∧ z1r z61 := ze5 _ _ _ _ _ _ _ _ (z5t (by decide))
abbrev z42 (e : Ev) : EvR := ⟨e, none, 0, 0, none, 0, 0⟩
theorem zdc (W : World) (k c d : Int) : z24 W (z42 ⟨k, c, d, 0, 0, 0, 0, [], [], 0⟩) := ⟨rfl, Rd.none_ W, Nat.le_refl _, Nat.zero_le _, ⟨rfl, Rd.none_ W⟩, Nat.le_refl _, Nat.zero_le _, by show 0 < 2 ^ 128; decide⟩
theorem zgb (g : Nat) (e : Ev) : z7v g (z42 e) := ⟨fun _ => z2h.none g, fun _ => z2h.none g⟩
structure z6a (r : LgR) (L : Lg) : Prop where
 off : r.o = L.office
 en : r.en = L.events.length
 tn : r.tn = L.tops.length
 hn : r.hn = L.heads.length
 ev : yg r.es = L.events
 hs : r.hs = L.heads
theorem z6a.of {W : World} {r : LgR} {L : Lg} (h : z0w W r) (e : z07 r = L) : z6a r L := by
 subst e
 exact ⟨rfl, by show r.en = (yg r.es).length; rw [z3s, h.ev.len], h.tp.len.symm, h.hd.len.symm, rfl, rfl⟩
theorem zqt (r : ShR) (v : Int) : (shC r).setIfInBounds 5 (.int .i64 v) = shC ⟨⟨{ r.s.face with til := v }, r.s.path, r.s.head⟩, r.A, r.n, r.c⟩ := by simp [shC, shL, fcL]
theorem zl7 : WfK z0a := ⟨by decide, by decide, by decide, by decide, by decide⟩
theorem z53 : z2d [z0a] ∧ (∀ k ∈ [z0a], z14 k = true) := ⟨by simp [z2d], fun k hk => by rw [List.mem_singleton.1 hk]; decide +kernel⟩
theorem zdt {H : He} (L : Les H) (ring : List Key) (A : Option Addr) (n c : Nat) (s : ShR) (w : World) (hn : n ≤ 1000) (hr : RdK w A n ring) (hs : z2d ring) (hv : ∀ k ∈ ring, z14 k = true) (hsf : z2s s.s.face) (hsh : z2a s.s.head) (hk : z2c w s) (hm : s.n ≤ 1000) (hg : GCon w) :
  Calls Tryz.prog 38 #[.slice A n c, shV s] w fun e w' => e = .returned (.int .i64 (z3k H ring s.s)) ∧ Below w.heap.size w w' := by
 obtain ⟨wa, hwa, hb0, q1⟩ := zko w s
 have HWA := y8 hwa
 have HQ := y8 (fun W (h : Below wa.heap.size wa W) => q1.below h)
 have c1 := z54 q1
 have c25 := zcu q1
 have HH := y8 (fun W (h : Below w.heap.size w W) => z8n L ring A n c s.s.head W hn (hr.below h) hs hv hsh.all hk.hd.sig (hg.below h))
 have HL := y8 (fun W (h : Below w.heap.size w W) => zc3 L s.s.face W hsf.all (hg.below h))
 have HC := y8 (fun W (h : Below w.heap.size w W) => znc L.nds (H.lf s.s.face) s.s.head.root (s.s.face.commit - 1) s.s.head.commit s.s.path s.A s.n s.c W (L.llt _) hk.hd.root (by omega) (hk.below h).rd hk.nc hk.cm (hg.below h))
 have hfc := hsf.commit
 have hfa := z2k s.s.face
 have hla := z1k s.s.head
 have HV : Hid (z3k H ring s.s = if 1 ≤ s.s.face.commit ∧ s.s.face.commit ≤ s.s.head.commit then (if z10 H ring s.s.head = 0 then (if z43 H.nd (H.lf s.s.face) (s.s.face.commit - 1) s.s.head.commit s.s.path s.s.head.root = true then 0 else 3) else z10 H ring s.s.head) else 1) := y8 rfl
 generalize z3k H ring s.s = X at *
 generalize z10 H ring s.s.head = RA at *
 generalize z43 H.nd (H.lf s.s.face) (s.s.face.commit - 1) s.s.head.commit s.s.path s.s.head.root = K at *
 unfold isD BIs at *
 generalize H.lf s.s.face = LF at *
 obtain ⟨fc, hfce⟩ : ∃ x, s.s.face.commit = x := ⟨_, rfl⟩
 obtain ⟨hc, hhce⟩ : ∃ x, s.s.head.commit = x := ⟨_, rfl⟩
 rw [hfce] at HC HV c1 hfc
 rw [hhce] at HC HV c25
 have HF := y8 hfce
 have HHC := y8 hhce
 clear hwa q1 hr hv hsf hsh hk hg L hfce hhce
 by_cases hin : 1 ≤ fc ∧ fc ≤ hc
 ·have hd1 : decide (fc < 1) = false := by rw [decide_eq_false_iff_not]; omega
  have hd2 : decide (hc < fc) = false := by rw [decide_eq_false_iff_not]; omega
  have HV2 : Hid (X = if RA = 0 then (if K = true then 0 else 3) else RA) := y8 (by rw [HV.out, if_pos hin])
  clear HV
  have hwr : Go.IntKind.i64.wrap (fc - 1) = fc - 1 := by rw [IntKind.wrap_i64]; omega
  clear hin hfc
  rcases z3i RA with ⟨hra, e1, f1, d1⟩ | ⟨hra, e1, f1, d1⟩
  ·have HV3 : Hid (X = if K = true then 0 else 3) := y8 (by rw [HV2.out, if_pos hra])
   clear HV2 hra
   go_enter Tryz.func38, Tryz.ntmps38
   go_upto_region 1 with fail
   change Code.wp _ _ _ _ (w.alloc (.cells (shC s) 63))
   rw [← HWA.out]
   have hch := zay (HQ.out _ (Below.refl _ _))
   go_wp2_with ((with_reducible show sl 21); refine yk (us := hdL s.s.head) rfl rfl rfl yo (by rw [yl, hla]) hch ?_)
   refine (HH.out _ hb0).mono ?_
   rintro e w1 ⟨rfl, hb1⟩
   clear hch
   have d1 := z54 (HQ.out _ hb1)
   have d25 := zcu (HQ.out _ hb1)
   rw [HF.out] at d1
   rw [HHC.out] at d25
   have d23 := zct (HQ.out _ hb1)
   have df := z4n (HQ.out _ hb1)
   have dr := zkr (HQ.out _ hb1)
   replace hb0 := y9 hb0 hb1
   clear c1 c25 hb1
   go_upto_region 6 with fail
   have hS : Below w1.heap.size w1 w1.drew := (Below.refl _ _).drew
   refine yp 17 (by kernel_rfl) ?_
   refine WpT.tk 0 hS ?_
   simp only [nrm]
   refine WpT.tl 1 rfl (yv (us := fcL s.s.face) rfl rfl rfl z1z (by rw [z0y, hfa]) df) hS ?_
   simp only [nrm]
   refine WpT.tk 3 hS ?_
   simp only [nrm]
   refine WpT.tk 4 hS ?_
   simp only [nrm]
   refine WpT.tl 5 rfl (ye rfl rfl rfl (by kernel_rfl) d1) hS ?_
   simp only [nrm]
   refine WpT.tk 6 hS ?_
   simp only [nrm]
   refine WpT.tk 7 hS ?_
   simp only [nrm]
   refine WpT.tk 8 hS ?_
   simp only [nrm]
   refine WpT.tl 9 rfl (ye rfl rfl rfl (by kernel_rfl) d25) hS ?_
   simp only [nrm]
   refine WpT.tk 10 hS ?_
   simp only [nrm]
   refine WpT.tl 11 rfl (ye rfl rfl rfl (by kernel_rfl) d23) hS ?_
   simp only [nrm]
   refine WpT.tk 12 hS ?_
   simp only [nrm]
   refine WpT.tk 13 hS ?_
   simp only [nrm]
   refine WpT.tl 14 rfl (yv (us := bv (dg s.s.head.root)) rfl rfl rfl yc (by rw [yb, yf]) dr) hS ?_
   simp only [nrm]
   refine WpT.on 2 rfl (fun K hK => ?_)
   go_simp; refine (HL.out _ (y9 hb0 hS)).mono ?_; rintro e w4 ⟨rfl, hb4⟩; replace hS := y9 hS hb4
   refine hK _ _ hS ?_; clear hK K; try simp only [nrm]
   refine WpT.on 15 rfl (fun K hK => ?_)
   go_simp; refine (HC.out _ (y9 hb0 hS)).mono ?_; rintro e w5 ⟨rfl, hb5⟩; replace hS := y9 hS hb5
   refine hK _ _ hS ?_; clear hK K; try simp only [nrm]
   refine WpT.tk 16 hS ?_
   simp only [nrm]
   refine WpT.done (by kernel_rfl) ?_ _
   skip
   rcases K with _ | _
   all_goals (have hX := HV3.out; simp at hX; subst hX; go_wp2_with fail; go_ret; exact ⟨rfl, y9 hb0 hS⟩)
  ·have hX : X = RA := by rw [HV2.out, if_neg hra]
   subst hX
   clear HV2 hra
   go_enter Tryz.func38, Tryz.ntmps38
   go_upto_region 1 with fail
   change Code.wp _ _ _ _ (w.alloc (.cells (shC s) 63))
   rw [← HWA.out]
   have hch := zay (HQ.out _ (Below.refl _ _))
   go_wp2_with ((with_reducible show sl 21); refine yk (us := hdL s.s.head) rfl rfl rfl yo (by rw [yl, hla]) hch ?_)
   refine (HH.out _ hb0).mono ?_
   rintro e w1 ⟨rfl, hb1⟩
   go_wp2_with fail
   go_ret
   exact ⟨rfl, y9 hb0 hb1⟩
 ·have hX : X = 1 := by rw [HV.out, if_neg hin]
  subst hX
  clear HV
  by_cases h1 : fc < 1
  ·have hd1 : decide (fc < 1) = true := by rw [decide_eq_true_eq]; omega
   clear hin
   go_enter Tryz.func38, Tryz.ntmps38
   go_upto_region 1 with fail
   change Code.wp _ _ _ _ (w.alloc (.cells (shC s) 63))
   rw [← HWA.out]
   go_wp2_with fail
   go_ret
   exact ⟨rfl, hb0⟩
  ·have hd1 : decide (fc < 1) = false := by rw [decide_eq_false_iff_not]; omega
   have hd2 : decide (hc < fc) = true := by rw [decide_eq_true_eq]; omega
   clear hin h1
   go_enter Tryz.func38, Tryz.ntmps38
   go_upto_region 1 with fail
   change Code.wp _ _ _ _ (w.alloc (.cells (shC s) 63))
   rw [← HWA.out]
   go_wp2_with fail
   go_ret
   exact ⟨rfl, hb0⟩
theorem zf0 {H : He} (L : Les H) (ring : List Key) (A : Option Addr) (n c : Nat) (r : Rc) (s : ShR) (w : World) (hn : n ≤ 1000) (hr : RdK w A n ring) (hso : z2d ring) (hv : ∀ k ∈ ring, z14 k = true) (hf : z0x [r.office, r.serial]) (hrf : z2s r.face) (hrs : r.sig < 2 ^ 128) (hrb : r.face.blind < 2 ^ 128) (hsf : z2s s.s.face) (hsh : z2a s.s.head) (hs : z2c w s) (hm : s.n ≤ 1000) (hg : GCon w) :
  Calls Tryz.prog 44 #[.slice A n c, rcV r, shV s] w fun e w' => e = .returned (.bool (z5h H ring r s.s)) ∧ Below w.heap.size w w' := by
 obtain ⟨wa, hwa, hb0, q1, q2⟩ := z5c w (rcC r) (shC s) 69 63
 have HWA := y8 hwa
 have HQ1 := y8 (fun W (h : Below wa.heap.size wa W) => q1.below h)
 have HQ2 := y8 (fun W (h : Below wa.heap.size wa W) => q2.below h)
 have HA := y8 (fun W (h : Below w.heap.size w W) => zds L ring A n c r W hn (hr.below h) hso hv hf hrf.all hrs (hg.below h))
 have HB := y8 (fun W (h : Below w.heap.size w W) => zdt L ring A n c s W hn (hr.below h) hso hv hsf hsh (hs.below h) hm (hg.below h))
 have ra := hrb
 have rb := hs.bl
 have hla := z5x r
 have hlb := zax s
 have hfa := z2k r.face
 have hfb := z2k s.s.face
 have hca := yh (xs := rcL r) q1
 have HV : Hid (z5h H ring r s.s = (decide (z5d H ring r = 0) && (decide (z3k H ring s.s = 0) && (decide (r.office = s.s.head.office) && (decide (r.face.commit = s.s.face.commit) && !decide (r.face = s.s.face)))))) := y8 rfl
 generalize z5h H ring r s.s = X at *
 generalize z5d H ring r = RA at *
 generalize z3k H ring s.s = RB at *
 clear hwa q1 q2 hr hv hf hrf hrs hrb hsf hsh hs hg L
 rcases z3i RA with ⟨-, e1, f1, d1⟩ | ⟨-, e1, f1, d1⟩
 rotate_left
 ·have hX : X = false := by rw [HV.out]; simp only [d1]; simp
  rw [hX]
  clear hX HV
  go_enter Tryz.func44, Tryz.ntmps44
  go_upto_region 1 with fail
  change Code.wp _ _ _ _ ((w.alloc (.cells (rcC r) 69)).alloc (.cells (shC s) 63))
  rw [← HWA.out]
  go_wp2_with ((with_reducible show sl 8); refine yk (us := rcL r) rfl rfl rfl z1t (by rw [z13, hla]) hca ?_)
  refine (HA.out _ hb0).mono ?_
  rintro e w1 ⟨rfl, hS⟩
  go_wp2_with fail
  go_ret
  exact ⟨rfl, y9 hb0 hS⟩
 rcases z3i RB with ⟨-, e2, f2, d2⟩ | ⟨-, e2, f2, d2⟩
 rotate_left
 ·have hX : X = false := by rw [HV.out]; simp only [d1, d2]; simp
  rw [hX]
  clear hX HV
  go_enter Tryz.func44, Tryz.ntmps44
  go_upto_region 1 with fail
  change Code.wp _ _ _ _ ((w.alloc (.cells (rcC r) 69)).alloc (.cells (shC s) 63))
  rw [← HWA.out]
  go_wp2_with ((with_reducible show sl 8); refine yk (us := rcL r) rfl rfl rfl z1t (by rw [z13, hla]) hca ?_)
  refine (HA.out _ hb0).mono ?_
  rintro e w1 ⟨rfl, hS⟩
  have hcb := yh (xs := shL s) (HQ2.out _ hS)
  go_wp2_with ((with_reducible show sl 13); refine yu (us := shL s) (by rfl) rfl rfl z2t (by rw [z1o, hlb]) hcb ?_)
  refine (HB.out _ (y9 hb0 hS)).mono ?_
  rintro e w2 ⟨rfl, hb2⟩
  replace hS := y9 hS hb2
  have ca0 := z51 (HQ1.out _ hS)
  have ca2 := z7j (HQ1.out _ hS)
  have ca3 := z5y (HQ1.out _ hS)
  have cb0 := z7k (HQ2.out _ hS)
  have cb1 := z54 (HQ2.out _ hS)
  have cb3 := z4n (HQ2.out _ hS)
  go_wp2_with fail
  go_ret
  exact ⟨rfl, y9 hb0 hS⟩
 rcases z3l r.office s.s.head.office with ⟨-, e3, f3, d3⟩ | ⟨-, e3, f3, d3⟩
 rotate_left
 ·have hX : X = false := by rw [HV.out]; simp only [d1, d2, d3]; simp
  rw [hX]
  clear hX HV
  go_enter Tryz.func44, Tryz.ntmps44
  go_upto_region 1 with fail
  change Code.wp _ _ _ _ ((w.alloc (.cells (rcC r) 69)).alloc (.cells (shC s) 63))
  rw [← HWA.out]
  go_wp2_with ((with_reducible show sl 8); refine yk (us := rcL r) rfl rfl rfl z1t (by rw [z13, hla]) hca ?_)
  refine (HA.out _ hb0).mono ?_
  rintro e w1 ⟨rfl, hS⟩
  have hcb := yh (xs := shL s) (HQ2.out _ hS)
  go_wp2_with ((with_reducible show sl 13); refine yu (us := shL s) (by rfl) rfl rfl z2t (by rw [z1o, hlb]) hcb ?_)
  refine (HB.out _ (y9 hb0 hS)).mono ?_
  rintro e w2 ⟨rfl, hb2⟩
  replace hS := y9 hS hb2
  have ca0 := z51 (HQ1.out _ hS)
  have ca2 := z7j (HQ1.out _ hS)
  have ca3 := z5y (HQ1.out _ hS)
  have cb0 := z7k (HQ2.out _ hS)
  have cb1 := z54 (HQ2.out _ hS)
  have cb3 := z4n (HQ2.out _ hS)
  go_wp2_with fail
  go_ret
  exact ⟨rfl, y9 hb0 hS⟩
 rcases z3l r.face.commit s.s.face.commit with ⟨-, e4, f4, d4⟩ | ⟨-, e4, f4, d4⟩
 rotate_left
 ·have hX : X = false := by rw [HV.out]; simp only [d1, d2, d3, d4]; simp
  rw [hX]
  clear hX HV
  go_enter Tryz.func44, Tryz.ntmps44
  go_upto_region 1 with fail
  change Code.wp _ _ _ _ ((w.alloc (.cells (rcC r) 69)).alloc (.cells (shC s) 63))
  rw [← HWA.out]
  go_wp2_with ((with_reducible show sl 8); refine yk (us := rcL r) rfl rfl rfl z1t (by rw [z13, hla]) hca ?_)
  refine (HA.out _ hb0).mono ?_
  rintro e w1 ⟨rfl, hS⟩
  have hcb := yh (xs := shL s) (HQ2.out _ hS)
  go_wp2_with ((with_reducible show sl 13); refine yu (us := shL s) (by rfl) rfl rfl z2t (by rw [z1o, hlb]) hcb ?_)
  refine (HB.out _ (y9 hb0 hS)).mono ?_
  rintro e w2 ⟨rfl, hb2⟩
  replace hS := y9 hS hb2
  have ca0 := z51 (HQ1.out _ hS)
  have ca2 := z7j (HQ1.out _ hS)
  have ca3 := z5y (HQ1.out _ hS)
  have cb0 := z7k (HQ2.out _ hS)
  have cb1 := z54 (HQ2.out _ hS)
  have cb3 := z4n (HQ2.out _ hS)
  go_wp2_with fail
  go_ret
  exact ⟨rfl, y9 hb0 hS⟩
 obtain ⟨fx, hface⟩ : ∃ x, (!decide (r.face = s.s.face)) = x := ⟨_, rfl⟩
 ·have hX : X = fx := by rw [HV.out]; simp only [d1, d2, d3, d4, hface]; simp
  rw [hX]
  clear hX HV
  go_enter Tryz.func44, Tryz.ntmps44
  go_upto_region 1 with fail
  change Code.wp _ _ _ _ ((w.alloc (.cells (rcC r) 69)).alloc (.cells (shC s) 63))
  rw [← HWA.out]
  go_wp2_with ((with_reducible show sl 8); refine yk (us := rcL r) rfl rfl rfl z1t (by rw [z13, hla]) hca ?_)
  refine (HA.out _ hb0).mono ?_
  rintro e w1 ⟨rfl, hS⟩
  have hcb := yh (xs := shL s) (HQ2.out _ hS)
  go_wp2_with ((with_reducible show sl 13); refine yu (us := shL s) (by rfl) rfl rfl z2t (by rw [z1o, hlb]) hcb ?_)
  refine (HB.out _ (y9 hb0 hS)).mono ?_
  rintro e w2 ⟨rfl, hb2⟩
  replace hS := y9 hS hb2
  have ca0 := z51 (HQ1.out _ hS)
  have ca2 := z7j (HQ1.out _ hS)
  have ca3 := z5y (HQ1.out _ hS)
  have cb0 := z7k (HQ2.out _ hS)
  have cb1 := z54 (HQ2.out _ hS)
  have cb3 := z4n (HQ2.out _ hS)
  go_wp2_with (first
   | ((with_reducible show sl 36); refine yu (us := fcL r.face) (by rfl) rfl rfl z1z (by rw [z0y, hfa]) ca3 ?_)
   | ((with_reducible show sl 38); refine yu (us := fcL s.s.face) (by rfl) rfl rfl z1z (by rw [z0y, hfb]) cb3 ?_)
   | ((with_reducible show sl 39); refine z67 (v := .bool fx) (by rfl) rfl rfl rfl (fun W => by kernel_rfl) (by rw [← hface]; exact zim ra rb _) ?_))
  go_ret
  exact ⟨rfl, y9 hb0 hS⟩
theorem ztv {H : He} (L : Les H) (hne : H.nd (H.lf (z4m H)) (sB H) ≠ H.nd (sA H) (sB H)) (w : World) (hg : GCon w) (hrc : RCon w) (hgb : GBru w) :
  Calls Tryz.prog 11 #[] w (BIs true w) := by
 have HNE := y8 hne
 have HNW : Hid (∀ W, Calls Tryz.prog 18 #[.int .i64 2] W fun e w' => e = .returned (.tuple #[lgV (z0s 2), .int .i64 0]) ∧ Below W.heap.size W w') := y8 (fun W => by
  have := zqi 2 W
  rw [if_pos (by decide), if_pos (by decide)] at this
  exact this)
 have HKY := y8 (fun W => zpr W)
 have HAPP := y8 (fun (r : LgR) (M : Lg) (v : EvR) (W : World) (hb : Below w.heap.size w W) (h : z0w W r) (e : z07 r = M) (hv : z24 W v) (hf : z1s v.e ∧ z1r v.e) (h1 : M.events.length ≤ 100) (h2 : M.tops.length ≤ 100) => (by
  have z := z6a.of h e
  have := zlx L r v W h hv (by rw [z.en]; omega) (by rw [z.tn]; omega) hf.1 hf.2 (hg.below hb) (hgb.below hb)
  rw [e] at this; exact this : Calls Tryz.prog 23 #[lgV r, evV v] W (z7w r v (z4s H M v.e) W)))
 have HSEA := y8 (fun (r : LgR) (M : Lg) (W : World) (hb : Below w.heap.size w W) (h : z0w W r) (e : z07 r = M) (ho : M.office = 2) (hf : ∀ e ∈ M.events, z1s e ∧ z1r e) (h1 : M.events.length ≤ 100) (h2 : M.tops.length ≤ 100) (h3 : M.heads.length ≤ 100) => (by
  have z := z6a.of h e
  have := zty L r z0a W h (by rw [z.en]; omega) (by rw [z.hn]; omega) (by rw [z.tn]; omega) (zaj z.ev hf) zl7 (by decide) (by rw [z.off, ho]; decide) (hg.below hb)
  rw [e] at this; exact this : Calls Tryz.prog 24 #[lgV r, z0v z0a] W (z8i r (z6u H M z0a) W)))
 have HRCP := y8 (fun (r : LgR) (M : Lg) (W : World) (hb : Below w.heap.size w W) (h : z0w W r) (e : z07 r = M) (ho : M.office = 2) (hf : ∀ e ∈ M.events, z1s e ∧ z1r e) (h1 : M.events.length ≤ 100) => (by
  have z := z6a.of h e
  have := zrs L r z0a 1 W h (by rw [z.en]; omega) (zaj z.ev hf) zl7 (by decide) (by rw [z.off, ho]; decide) (hg.below hb)
  rw [e] at this; exact this : Calls Tryz.prog 29 #[lgV r, z0v z0a, .int .i64 1] W (z8h (z9g H M z0a 1) W)))
 have HF4 : ∀ e ∈ (sL4 H).events, z1s e ∧ z1r e := by intro e he; simp only [sL4, List.mem_cons, List.not_mem_nil, or_false] at he; rcases he with rfl | rfl; exact zak; exact zhn
 have HHI : ∀ (r : LgR), z6a r (sL4 H) → zbg r := fun r z x hx => by
  rw [z.hs] at hx; rw [z.en]
  simp only [sL4, List.mem_cons, List.not_mem_nil, or_false] at hx
  rcases hx with rfl | rfl
  ·exact ⟨by show (0 : Int) ≤ 1; decide, by show (1 : Int) ≤ 2; decide⟩
  ·exact ⟨by show (0 : Int) ≤ 2; decide, by show (2 : Int) ≤ 2; decide⟩
 have HPRF := y8 (fun (r : LgR) (W : World) (hb : Below w.heap.size w W) (h : z0w W r) (e : z07 r = sL4 H) (hl : z0e (sHb H)) => (by
  have z := z6a.of h e
  have := zrn L r 1 (sHb H) W h (by rw [z.en]; show 2 ≤ 1000000; omega) (by rw [z.hn]; show 2 ≤ 1000000; omega) (zaj z.ev HF4) (HHI r z) hl (hg.below hb)
  rw [e, ztl] at this; exact this : Calls Tryz.prog 27 #[lgV r, .int .i64 1, hdV (sHb H)] W (ShIs (sSh H, 0) W)))
 have HCNS := y8 (fun (r : LgR) (W : World) (hb : Below w.heap.size w W) (h : z0w W r) (e : z07 r = sL4 H) (hla : z0e (sHa H)) (hlb : z0e (sHb H)) => (by
  have z := z6a.of h e
  have := zo3 L r (sHa H) (sHb H) W h (by rw [z.en]; show 2 ≤ 1000000; omega) (by rw [z.hn]; show 2 ≤ 1000000; omega) (zaj z.ev HF4) (HHI r z) hla hlb (hg.below hb)
  rw [e, zth] at this; exact this : Calls Tryz.prog 28 #[lgV r, hdV (sHa H), hdV (sHb H)] W (z31 ([sB H], 0) W)))
 have HVAL := y8 (fun (r : LgR) (W : World) (hb : Below w.heap.size w W) (h : z0w W r) (e : z07 r = sL4 H) => (by
  have z := z6a.of h e
  have := zuv L r W h (by rw [z.en]; show 2 ≤ 1000000; omega) (by rw [z.hn]; show 2 ≤ 1000000; omega) (by rw [z.tn]; show 1 ≤ 1000; omega) (zaj z.ev HF4) (hg.below hb) (hgb.below hb)
  rw [e, ztt] at this; exact this : Calls Tryz.prog 22 #[lgV r] W (BIs true W)))
 have HF1 : Hid (∀ e ∈ (sL1 H).events, z1s e ∧ z1r e) := y8 (by intro e he; simp only [sL1, List.mem_cons, List.not_mem_nil, or_false] at he; subst he; exact zak)
 have HF3 : Hid (∀ e ∈ (sL3 H).events, z1s e ∧ z1r e) := y8 HF4
 have HLF := y8 (fun f W (hf : z2s f) (hb : Below w.heap.size w W) => zey L f W hf.all (hrc.below hb))
 have hfb : z2s (z4m H) ∧ z2s (yt H z1b) := ⟨⟨z5t (by rfl)⟩, ⟨z5t (by rfl)⟩⟩
 have hfh : z2a (sHa H) ∧ z2a (sHb H) := ⟨⟨z5t (by rfl)⟩, ⟨z5t (by rfl)⟩⟩
 have hfr : z0x [(sRc H).office, (sRc H).serial] := z5t (by rfl)
 have hfl : (sRc H).face.blind < 2 ^ 128 := zdz L z1b
 have hrl : (sRc H).sig < 2 ^ 128 := L.rlt ⟨#[99]⟩ 2 1 (sA H)
 have HFB := y8 hfb
 have HLL := y8 L.llt
 have HCS := y8 (fun (A : Option Addr) (s : ShR) (W : World) (hb : Below w.heap.size w W) (hr : RdK W A 1 [z0a]) (hs : z2c W s) (e : s.s = sSh H) => (by
  have := zdt L [z0a] A 1 1 s W (by omega) hr z53.1 z53.2 (by rw [e]; exact hfb.2) (by rw [e]; exact hfh.2) hs (by have := hs.rd.len; rw [e] at this; have h1 : (sSh H).path.length = 1 := rfl; omega) (hg.below hb)
  rw [e, ztr] at this; exact this : Calls Tryz.prog 38 #[.slice A 1 1, shV s] W fun e w' => e = .returned (.int .i64 0) ∧ Below W.heap.size W w'))
 have HCH := y8 (fun (A B : Option Addr) (c : Nat) (W : World) (hb : Below w.heap.size w W) (hr : RdK W A 1 [z0a]) (hp : RdD W B 1 [sB H]) (h1 : 1 ≤ c) (h2 : c ≤ maxLen) (hla : z0e (sHa H)) (hlb : z0e (sHb H)) => (by
  have := zgr L [z0a] A 1 1 (sHa H) (sHb H) [sB H] B 1 c W (by omega) hr z53.1 z53.2 hfh.1 hfh.2 hla hlb (by omega) hp (fun x hx => by rw [List.mem_singleton.1 hx]; exact L.llt _) h1 h2 (hg.below hb)
  rw [ztj] at this; exact this : Calls Tryz.prog 40 #[.slice A 1 1, hdV (sHa H), hdV (sHb H), .slice B 1 c] W fun e w' => e = .returned (.int .i64 0) ∧ Below W.heap.size W w'))
 have HCR := y8 (fun (A : Option Addr) (W : World) (hb : Below w.heap.size w W) (hr : RdK W A 1 [z0a]) => (by
  have := zds L [z0a] A 1 1 (sRc H) W (by omega) hr z53.1 z53.2 hfr hfb.2.all hrl (hg.below hb)
  rw [ztf] at this; exact this : Calls Tryz.prog 42 #[.slice A 1 1, rcV (sRc H)] W fun e w' => e = .returned (.int .i64 0) ∧ Below W.heap.size W w'))
 have HRF := y8 (fun (A : Option Addr) (s : ShR) (W : World) (hb : Below w.heap.size w W) (hr : RdK W A 1 [z0a]) (hs : z2c W s) (e : s.s = sSh H) => (by
  have := zf0 L [z0a] A 1 1 (sRc H) s W (by omega) hr z53.1 z53.2 hfr hfb.2 hrl hfl (by rw [e]; exact hfb.2) (by rw [e]; exact hfh.2) hs (by have := hs.rd.len; rw [e] at this; have h1 : (sSh H).path.length = 1 := rfl; omega) (hg.below hb)
  rw [e, ztn] at this; exact this : Calls Tryz.prog 44 #[.slice A 1 1, rcV (sRc H), shV s] W fun e w' => e = .returned (.bool false) ∧ Below W.heap.size W w'))
 have HRB := y8 (fun (A : Option Addr) (s : ShR) (W : World) (hb : Below w.heap.size w W) (hr : RdK W A 1 [z0a]) (hs : z2c W s) (e : s.s = z6s H) => (by
  have := zf0 L [z0a] A 1 1 (sRc H) s W (by omega) hr z53.1 z53.2 hfr hfb.2 hrl hfl (by rw [e]; exact hfb.1) (by rw [e]; exact hfh.2) hs (by have := hs.rd.len; rw [e] at this; have h1 : (z6s H).path.length = 1 := rfl; omega) (hg.below hb)
  rw [e, zto H hne] at this; exact this : Calls Tryz.prog 44 #[.slice A 1 1, rcV (sRc H), shV s] W fun e w' => e = .returned (.bool false) ∧ Below W.heap.size W w'))
 have HFK := y8 (fun (A : Option Addr) (W : World) (hb : Below w.heap.size w W) (hr : RdK W A 1 [z0a]) (hla : z0e (sHa H)) (hlb : z0e (sHb H)) => (by
  have := zhq L [z0a] A 1 1 (sHa H) (sHb H) W (by omega) hr z53.1 z53.2 hfh.1 hfh.2 hla hlb (hg.below hb)
  rw [zti] at this; exact this : Calls Tryz.prog 46 #[.slice A 1 1, hdV (sHa H), hdV (sHb H)] W fun e w' => e = .returned (.bool false) ∧ Below W.heap.size W w'))
 have HOP := y8 (fun (v : EvR) (W : World) (hb : Below w.heap.size w W) (hv : z24 W v) (e : v.e = z1b) => (by
  have := zr3 L (yt H z1b) v W hfl hv (by rw [e]; exact zak.1) (by rw [e]; exact zak.2) (hg.below hb)
  rw [e, decide_eq_true rfl] at this; exact this : Calls Tryz.prog 16 #[fcV (yt H z1b), evV v] W fun e w' => e = .returned (.bool true) ∧ Below W.heap.size W w'))
 obtain ⟨NN, hNN⟩ : ∃ x, x = z9m := ⟨_, rfl⟩
 have HD8 := y8 (fun W => (by rw [hNN]; exact zmy W : (Instr.build 25 #[(0, .int .u8 8)]).run Tryz.prog W = .ok (dgV NN) W))
 have HNN : Hid ((⟨1, 1, 5, 7, 3, 9, 0, [1, 2], [], NN⟩ : Ev) = z1b) := y8 (by rw [hNN]; rfl)
 have HNL : Hid (NN < 2 ^ 128) := y8 (by rw [hNN]; exact zt8)
 clear hNN
 have hlg5 := z7f
 have hsz : ∀ r' : LgR, (lgC r').size = 5 := z4x
 have hsh : ∀ h' : Hd, (hdC h').size = 36 := z4u
 have hs25 : ∀ r' : EvR, (evC r').size = 25 := z5r
 have hs41 : ∀ r' : Rc, (rcC r').size = 41 := zju
 have hs60 : ∀ r' : ShR, (shC r').size = 60 := zkp
 have h25 := z3r
 have h36 := z1k
 have h41 := z5x
 have h60 := zax
 have h23 := z2k
 clear hg hrc hgb hne L hfb hfh hfr hfl hrl HF4 HHI
 unfold BIs at *
 unfold isD at HLF
 go_enter Tryz.func11, Tryz.ntmps11
 go_wp2_with fail
 refine (HNW.out _).mono ?_
 rintro e w1 ⟨rfl, hb1⟩
 go_upto_region 3 with (first
  | ((with_reducible show sl 1); refine z18 (z := lgC (z0s 0)) (vs := lgC (z0s 2)) rfl rfl rfl rfl (z72 _) (fun _ => rfl) (fun _ => rfl) rfl (by rw [z0b, hsz]) (z2m _) ?_; intro w2 g1 hg1 b1 hb2 lt2; have HG1 : Hid (w.heap.size ≤ g1 ∧ g1 < w2.heap.size) := y8 ⟨by have := hb1.size; omega, lt2⟩; clear hg1 lt2)
  | ((with_reducible show sl 27); refine zvj (p := 1) (q := 2) (by rfl) rfl rfl rfl ?_; intro w3 gv hgv rv hb3; have HGV : Hid (g1 < gv) := y8 (by have := HG1.out; omega); clear hgv)
  | ((with_reducible show sl 28); refine zb5 rfl rfl rfl HD8.out ?_)
  | ((with_reducible show sl 29); refine zvc rfl rfl rfl rfl rfl rfl rfl rfl rfl rfl (zmz _ NN) ?_)
  | ((with_reducible show sl 3); refine z18 (z := evC z8b) (vs := evC ⟨⟨1, 1, 5, 7, 3, 9, 0, [1, 2], [], NN⟩, some ⟨gv, 0, none⟩, 2, 2, none, 0, 0⟩) rfl rfl rfl rfl (zfw _) (fun _ => rfl) (fun _ => rfl) (by rw [hs25, hs25]) (by rw [z2w, hs25]) (zen _) ?_; intro w4 g3 hg3 b3 hb4 lt4; have HN3 : Hid (g3 ≠ g1) := y8 (by have := HG1.out; have := hb3.size; omega); clear hg3 lt4))
 have hb24 := y9 hb3 hb4
 replace b1 := b1.below hb24
 have hev : z24 w4 ⟨⟨1, 1, 5, 7, 3, 9, 0, [1, 2], [], NN⟩, some ⟨gv, 0, none⟩, 2, 2, none, 0, 0⟩ := ⟨rfl, rv.below hb4, Nat.le_refl _, by simp [maxLen], ⟨rfl, Rd.none_ _⟩, Nat.le_refl _, Nat.zero_le _, HNL.out⟩
 have HGV4 : Hid (gv < w4.heap.size) := y8 (by have := rv.get (k := 0) (by omega); obtain ⟨ad, e, hc⟩ := this; injection e with e; subst e; have := hb4.size; exact Nat.lt_of_lt_of_le (zn3 hc) this)
 have HEA : Hid (z7v g1 ⟨⟨1, 1, 5, 7, 3, 9, 0, [1, 2], [], NN⟩, some ⟨gv, 0, none⟩, 2, 2, none, 0, 0⟩) := y8 ⟨fun _ ad e h => by injection e with e; subst e; have := HGV.out; exact absurd h (by show gv ≠ g1; omega), fun _ => z2h.none g1⟩
 have HEU : Hid (∀ g, w4.heap.size ≤ g → z7v g ⟨⟨1, 1, 5, 7, 3, 9, 0, [1, 2], [], NN⟩, some ⟨gv, 0, none⟩, 2, 2, none, 0, 0⟩) := y8 (fun g hg => ⟨fun _ ad e h => by injection e with e; subst e; have := HGV4.out; exact absurd h (by show gv ≠ g; omega), fun _ => z2h.none g⟩)
 have hbw : Below w.heap.size w w4 := y9 (y9 hb1 hb2) hb24
 have hok : z0w w4 (z0s 2) := z0w.new w4 2
 clear rv hb1 hb2 hb3 hb4 hb24
 obtain ⟨eR, heR⟩ : ∃ x : EvR, x = ⟨⟨1, 1, 5, 7, 3, 9, 0, [1, 2], [], NN⟩, some ⟨gv, 0, none⟩, 2, 2, none, 0, 0⟩ := ⟨_, rfl⟩
 have HER : Hid (eR.e = z1b) := y8 (by rw [heR]; exact HNN.out)
 rw [← heR] at b3 hev HEA HEU ⊢
 have HFE : Hid (z1s eR.e ∧ z1r eR.e) := y8 (by rw [HER.out]; exact zak)
 clear heR HGV HGV4
 have hlr := z2f b1
 have hle := yh (xs := evL eR) b3
 have hAP1 : Hid (Calls Tryz.prog 23 #[lgV (z0s 2), evV eR] w4 (z7w (z0s 2) eR (sL1 H, 0) w4)) := y8 (by
  have := HAPP.out (z0s 2) sL0 eR w4 hbw hok rfl hev HFE.out (by decide) (by decide)
  rw [HER.out, zt9] at this
  exact this)
 go_wp2_with (first
  | ((with_reducible show sl 31); refine yk (us := lgL (z0s 2)) rfl rfl rfl z16 (by rw [z0b, hlg5]) hlr ?_)
  | ((with_reducible show sl 32); refine yk (us := evL eR) rfl rfl rfl z3d (by rw [z2w, h25]) hle ?_))
 refine hAP1.out.mono ?_
 rintro e w5 ⟨r1, rfl, he1, hok1, hb5, haw1⟩
 have HAW1 := y8 (haw1 g1 (.inl b1.lt) (z1e.new g1 2) HEA.out)
 have HUN1 : Hid (∀ g, w5.heap.size ≤ g → z1e g r1) := y8 (fun g hg => haw1 g (.inr hg) (z1e.new g 2) (HEU.out g (by have := hb5.size; omega)))
 replace b1 := b1.below hb5
 clear hok haw1 hlr hle hAP1
 go_upto_region 4 with ((with_reducible show sn); refine z05 (vs := lgC r1) rfl rfl rfl rfl b1 (by rw [hsz, hsz]) (by rw [z0b, hsz]) (z2m _) ?_; intro w6 ht6 b6)
 have kp : Kp g1 w4 w6 := (Kp.of hb5).turn ht6
 replace hok1 := hok1.turned ht6 HAW1.out
 replace HUN1 : Hid (∀ g, w6.heap.size ≤ g → z1e g r1) := y8 (fun g hg => HUN1.out g (by rw [← ht6.size]; exact hg))
 clear b1 hb5 ht6
 replace b3 := kp.blk b3 HN3.out
 replace hev := kp.ev hev HEA.out
 replace HEU := y8 (fun g (hg : w6.heap.size ≤ g) => HEU.out g (by have := kp.size; omega))
 replace hbw := hbw.trans (kp.below _ HG1.out.1 hbw.size)
 clear kp
 have hlr := z2f b6
 have hRC := y8 (fun W (hb : Below w6.heap.size w6 W) => (by
  have := HRCP.out r1 (sL1 H) W (y9 hbw hb) (hok1.below hb) he1 rfl HF1.out (by show 1 ≤ 100; omega)
  rw [ztm] at this
  exact this : Calls Tryz.prog 29 #[lgV r1, z0v z0a, .int .i64 1] W (z8h (sRc H, 0) W)))
 unfold z8h at hRC
 go_cut [5, 6] (fun v5 v6 wx => ∃ g5, v5 = .pointer (some ⟨g5, 0, none⟩) ∧ v6 = .int .i64 0 ∧ w6.heap.size ≤ g5 ∧ Blk wx g5 69 (rcC (sRc H)) ∧ Below w6.heap.size w6 wx)
 case first =>
  have hS : Below w6.heap.size w6 w6.drew := (Below.refl _ _).drew
  refine yp 7 (by kernel_rfl) ?_
  refine WpT.tl 0 rfl (yv (us := lgL r1) rfl rfl rfl z16 (by rw [z0b, hlg5]) hlr) hS ?_
  simp only [nrm]
  refine WpT.fork (i := 1) (j := 6) rfl rfl (by kernel_rfl) (fun K hK => ?_) (fun K hK => ?_)
  ·go_simp; refine (HKY.out _).mono ?_; rintro e w8 ⟨rfl, hb8⟩; (try replace bV := bV.below hb8); replace hS := y9 hS hb8
   refine hK _ _ hS ?_; clear hK K; try simp only [nrm]
   refine WpT.fork (i := 2) (j := 6) rfl rfl (by kernel_rfl) (fun K hK => ?_) (fun K hK => ?_)
   ·go_simp; refine (hRC.out _ hS).mono ?_; rintro e w9 ⟨rfl, hb9⟩; (try replace bV := bV.below hb9); replace hS := y9 hS hb9
    refine hK _ _ hS ?_; clear hK K; try simp only [nrm]
    refine WpT.tk 3 hS ?_
    simp only [nrm]
    refine WpT.tk 4 hS ?_
    simp only [nrm]
    refine WpT.tp 5 (hS) ?_
    simp only [nrm]
    refine WpT.on 6 rfl (fun K hK => ?_)
    refine z3h rfl zbf ?_; intro wV gV hgV bV hbV; have hgB : w6.heap.size ≤ gV := (by have := hS.size; omega); clear hgV; replace hS := y9 hS hbV
    refine hK _ _ hS ?_; clear hK K; try simp only [nrm]
    refine WpT.ta 7 rfl (fun K hK => ?_)
    refine z02 (vs := rcC (sRc H)) rfl (by rfl) (by rfl) bV (by rw [hs41, hs41]) (by rw [z13, hs41]) (z6q _) ?_; intro w13 ht13 b13
    refine hK _ _ ?_; clear hK K; try simp only [nrm]
    refine WpT.ta 8 rfl (fun K hK => ?_)
    go_simp; (try go_bits)
    refine hK _ _ ?_; clear hK K; try simp only [nrm]
    refine WpT.done (by kernel_rfl) ?_ _
    go_wp2_with fail; go_meet; exact ⟨gV, rfl, rfl, hgB, b13, hS.trans (ht13.below _ hgB)⟩
   ·refine z3h rfl zbf ?_; intro wV gV hgV bV hbV; have hgB : w6.heap.size ≤ gV := (by have := hS.size; omega); clear hgV; replace hS := y9 hS hbV
    refine hK _ _ hS ?_; clear hK K; try simp only [nrm]
    refine WpT.on 2 rfl (fun K hK => ?_)
    go_simp; refine (hRC.out _ hS).mono ?_; rintro e w9 ⟨rfl, hb9⟩; (try replace bV := bV.below hb9); replace hS := y9 hS hb9
    refine hK _ _ hS ?_; clear hK K; try simp only [nrm]
    refine WpT.tk 3 hS ?_
    simp only [nrm]
    refine WpT.tk 4 hS ?_
    simp only [nrm]
    refine WpT.tp 5 (hS) ?_
    simp only [nrm]
    refine WpT.ta 7 rfl (fun K hK => ?_)
    refine z02 (vs := rcC (sRc H)) rfl (by rfl) (by rfl) bV (by rw [hs41, hs41]) (by rw [z13, hs41]) (z6q _) ?_; intro w13 ht13 b13
    refine hK _ _ ?_; clear hK K; try simp only [nrm]
    refine WpT.ta 8 rfl (fun K hK => ?_)
    go_simp; (try go_bits)
    refine hK _ _ ?_; clear hK K; try simp only [nrm]
    refine WpT.done (by kernel_rfl) ?_ _
    go_wp2_with fail; go_meet; exact ⟨gV, rfl, rfl, hgB, b13, hS.trans (ht13.below _ hgB)⟩
  ·refine z3h rfl zbf ?_; intro wV gV hgV bV hbV; have hgB : w6.heap.size ≤ gV := (by have := hS.size; omega); clear hgV; replace hS := y9 hS hbV
   refine hK _ _ hS ?_; clear hK K; try simp only [nrm]
   refine WpT.on 1 rfl (fun K hK => ?_)
   go_simp; refine (HKY.out _).mono ?_; rintro e w8 ⟨rfl, hb8⟩; (try replace bV := bV.below hb8); replace hS := y9 hS hb8
   refine hK _ _ hS ?_; clear hK K; try simp only [nrm]
   refine WpT.on 2 rfl (fun K hK => ?_)
   go_simp; refine (hRC.out _ hS).mono ?_; rintro e w9 ⟨rfl, hb9⟩; (try replace bV := bV.below hb9); replace hS := y9 hS hb9
   refine hK _ _ hS ?_; clear hK K; try simp only [nrm]
   refine WpT.tk 3 hS ?_
   simp only [nrm]
   refine WpT.tk 4 hS ?_
   simp only [nrm]
   refine WpT.tp 5 (hS) ?_
   simp only [nrm]
   refine WpT.ta 7 rfl (fun K hK => ?_)
   refine z02 (vs := rcC (sRc H)) rfl (by rfl) (by rfl) bV (by rw [hs41, hs41]) (by rw [z13, hs41]) (z6q _) ?_; intro w13 ht13 b13
   refine hK _ _ ?_; clear hK K; try simp only [nrm]
   refine WpT.ta 8 rfl (fun K hK => ?_)
   go_simp; (try go_bits)
   refine hK _ _ ?_; clear hK K; try simp only [nrm]
   refine WpT.done (by kernel_rfl) ?_ _
   go_wp2_with fail; go_meet; exact ⟨gV, rfl, rfl, hgB, b13, hS.trans (ht13.below _ hgB)⟩
 case rest =>
 obtain ⟨g5, rfl, rfl, hg5, b5, hb7⟩ := hcut
 have HN5 : Hid (g5 ≠ g1) := y8 (by have := b6.lt; omega)
 replace b6 := b6.below hb7
 replace hok1 := hok1.below hb7
 replace HUN1 : Hid (∀ g, wc.heap.size ≤ g → z1e g r1) := y8 (fun g hg => HUN1.out g (by have := hb7.size; omega))
 replace b3 := b3.below hb7
 replace hev := hev.below hb7
 replace HEU := y8 (fun g (hg : wc.heap.size ≤ g) => HEU.out g (by have := hb7.size; omega))
 replace hbw := y9 hbw hb7
 clear hb7 hlr hg5 hRC
 obtain ⟨w7, hw7⟩ : ∃ x : World, x = wc := ⟨_, rfl⟩
 rw [← hw7] at b6 hok1 HUN1 b3 hev HEU hbw b5 ⊢
 clear hw7
 go_upto_region 5 with fail
 have hlr := z2f b6
 have hSL := y8 (fun W (hb : Below w7.heap.size w7 W) => (by
  have := HSEA.out r1 (sL1 H) W (y9 hbw hb) (hok1.below hb) he1 rfl HF1.out (by show 1 ≤ 100; omega) (by show 1 ≤ 100; omega) (by show 0 ≤ 100; omega)
  rw [ztp] at this
  exact this : Calls Tryz.prog 24 #[lgV r1, z0v z0a] W (z8i r1 (sL2 H, sHa H, 0) W)))
 have HB1 := y8 (fun W (hb : Below w7.heap.size w7 W) => b6.below hb)
 have HL1 : Hid (g1 < w7.heap.size) := y8 b6.lt
 unfold z8i at hSL
 go_cut [7, 8] (fun v7 v8 wx => ∃ (g7 : Nat) (r' : LgR), v7 = .pointer (some ⟨g7, 0, none⟩) ∧ v8 = .int .i64 0 ∧ w7.heap.size ≤ g7 ∧ Blk wx g7 51 (hdC (sHa H)) ∧ Blk wx g1 42 (lgC r') ∧ z0w wx r' ∧ z07 r' = sL2 H ∧ z1e g1 r' ∧ (∀ g, wx.heap.size ≤ g → z1e g r') ∧ z0e (sHa H) ∧ Kp g1 w7 wx)
 case first =>
  have hS : Below w7.heap.size w7 w7.drew := (Below.refl _ _).drew
  refine yp 8 (by kernel_rfl) ?_
  refine WpT.tl 0 rfl (yv (us := lgL r1) rfl rfl rfl z16 (by rw [z0b, hlg5]) hlr) hS ?_
  simp only [nrm]
  refine WpT.fork (i := 1) (j := 7) rfl rfl (by kernel_rfl) (fun K hK => ?_) (fun K hK => ?_)
  ·go_simp; refine (HKY.out _).mono ?_; rintro e w8 ⟨rfl, hb8⟩; (try replace bV := bV.below hb8); replace hS := y9 hS hb8
   refine hK _ _ hS ?_; clear hK K; try simp only [nrm]
   refine WpT.fork (i := 2) (j := 7) rfl rfl (by kernel_rfl) (fun K hK => ?_) (fun K hK => ?_)
   ·go_simp; refine (hSL.out _ hS).mono ?_; rintro e w9 ⟨r', rfl, he', hok', hlt', hb9, haw'⟩; have haw2 := haw' g1 (.inl (by have := HL1.out; have := hS.size; omega)) HAW1.out; have hun2 : ∀ g, w9.heap.size ≤ g → z1e g r' := (fun g hg => haw' g (.inr hg) (HUN1.out g (by have := hS.size; have := hb9.size; omega))); (try have hawV := haw' gV (.inl bV.lt) (HUN1.out gV hgB)); (try replace bV := bV.below hb9); replace hS := y9 hS hb9
    refine hK _ _ hS ?_; clear hK K; try simp only [nrm]
    refine WpT.tk 3 hS ?_
    simp only [nrm]
    refine WpT.tk 4 hS ?_
    simp only [nrm]
    refine WpT.tp 5 (hS) ?_
    simp only [nrm]
    refine WpT.tp 6 (hS) ?_
    simp only [nrm]
    refine WpT.on 7 rfl (fun K hK => ?_)
    refine z3h rfl z4q ?_; intro wV gV hgV bV hbV; have hgB : w7.heap.size ≤ gV := (by have := hS.size; omega); (try have hawV := hun2 gV hgV); (try replace hun2 : ∀ g, wV.heap.size ≤ g → z1e g r' := (fun g hg => hun2 g (by have := hbV.size; omega))); clear hgV; (try replace hok' := z0w.below hok' hbV); replace hS := y9 hS hbV
    refine hK _ _ hS ?_; clear hK K; try simp only [nrm]
    refine WpT.ta 8 rfl (fun K hK => ?_)
    refine z02 (vs := lgC r') rfl (by rfl) (by rfl) (HB1.out _ hS) (by rw [hsz, hsz]) (by rw [z0b, hsz]) (z2m _) ?_; intro w12 ht12 b12; have bV2 := ht12.blk bV (by have := HL1.out; omega); have hok2 := hok'.turned ht12 haw2; have kp2 := (Kp.of (g := g1) hS).turn ht12
    refine hK _ _ ?_; clear hK K; try simp only [nrm]
    refine WpT.ta 9 rfl (fun K hK => ?_)
    refine z02 (vs := hdC (sHa H)) rfl (by rfl) (by rfl) bV2 (by rw [hsh, hsh]) (by rw [yl, hsh]) (z4j _) ?_; intro w13 ht13 b13; have b14 := ht13.blk b12 (by have := HL1.out; omega); have hok3 := hok2.turned ht13 hawV
    refine hK _ _ ?_; clear hK K; try simp only [nrm]
    refine WpT.ta 10 rfl (fun K hK => ?_)
    go_simp; (try go_bits)
    refine hK _ _ ?_; clear hK K; try simp only [nrm]
    refine WpT.done (by kernel_rfl) ?_ _
    go_wp2_with fail; go_meet; exact ⟨gV, r', rfl, rfl, hgB, b13, b14, hok3, he', haw2, fun g hg => hun2 g (by rw [← ht12.size, ← ht13.size]; exact hg), hlt', kp2.turnNew ht13 hgB⟩
   ·refine z3h rfl z4q ?_; intro wV gV hgV bV hbV; have hgB : w7.heap.size ≤ gV := (by have := hS.size; omega); (try have hawV := hun2 gV hgV); (try replace hun2 : ∀ g, wV.heap.size ≤ g → z1e g r' := (fun g hg => hun2 g (by have := hbV.size; omega))); clear hgV; (try replace hok' := z0w.below hok' hbV); replace hS := y9 hS hbV
    refine hK _ _ hS ?_; clear hK K; try simp only [nrm]
    refine WpT.on 2 rfl (fun K hK => ?_)
    go_simp; refine (hSL.out _ hS).mono ?_; rintro e w9 ⟨r', rfl, he', hok', hlt', hb9, haw'⟩; have haw2 := haw' g1 (.inl (by have := HL1.out; have := hS.size; omega)) HAW1.out; have hun2 : ∀ g, w9.heap.size ≤ g → z1e g r' := (fun g hg => haw' g (.inr hg) (HUN1.out g (by have := hS.size; have := hb9.size; omega))); (try have hawV := haw' gV (.inl bV.lt) (HUN1.out gV hgB)); (try replace bV := bV.below hb9); replace hS := y9 hS hb9
    refine hK _ _ hS ?_; clear hK K; try simp only [nrm]
    refine WpT.tk 3 hS ?_
    simp only [nrm]
    refine WpT.tk 4 hS ?_
    simp only [nrm]
    refine WpT.tp 5 (hS) ?_
    simp only [nrm]
    refine WpT.tp 6 (hS) ?_
    simp only [nrm]
    refine WpT.ta 8 rfl (fun K hK => ?_)
    refine z02 (vs := lgC r') rfl (by rfl) (by rfl) (HB1.out _ hS) (by rw [hsz, hsz]) (by rw [z0b, hsz]) (z2m _) ?_; intro w12 ht12 b12; have bV2 := ht12.blk bV (by have := HL1.out; omega); have hok2 := hok'.turned ht12 haw2; have kp2 := (Kp.of (g := g1) hS).turn ht12
    refine hK _ _ ?_; clear hK K; try simp only [nrm]
    refine WpT.ta 9 rfl (fun K hK => ?_)
    refine z02 (vs := hdC (sHa H)) rfl (by rfl) (by rfl) bV2 (by rw [hsh, hsh]) (by rw [yl, hsh]) (z4j _) ?_; intro w13 ht13 b13; have b14 := ht13.blk b12 (by have := HL1.out; omega); have hok3 := hok2.turned ht13 hawV
    refine hK _ _ ?_; clear hK K; try simp only [nrm]
    refine WpT.ta 10 rfl (fun K hK => ?_)
    go_simp; (try go_bits)
    refine hK _ _ ?_; clear hK K; try simp only [nrm]
    refine WpT.done (by kernel_rfl) ?_ _
    go_wp2_with fail; go_meet; exact ⟨gV, r', rfl, rfl, hgB, b13, b14, hok3, he', haw2, fun g hg => hun2 g (by rw [← ht12.size, ← ht13.size]; exact hg), hlt', kp2.turnNew ht13 hgB⟩
  ·refine z3h rfl z4q ?_; intro wV gV hgV bV hbV; have hgB : w7.heap.size ≤ gV := (by have := hS.size; omega); (try have hawV := hun2 gV hgV); (try replace hun2 : ∀ g, wV.heap.size ≤ g → z1e g r' := (fun g hg => hun2 g (by have := hbV.size; omega))); clear hgV; (try replace hok' := z0w.below hok' hbV); replace hS := y9 hS hbV
   refine hK _ _ hS ?_; clear hK K; try simp only [nrm]
   refine WpT.on 1 rfl (fun K hK => ?_)
   go_simp; refine (HKY.out _).mono ?_; rintro e w8 ⟨rfl, hb8⟩; (try replace bV := bV.below hb8); replace hS := y9 hS hb8
   refine hK _ _ hS ?_; clear hK K; try simp only [nrm]
   refine WpT.on 2 rfl (fun K hK => ?_)
   go_simp; refine (hSL.out _ hS).mono ?_; rintro e w9 ⟨r', rfl, he', hok', hlt', hb9, haw'⟩; have haw2 := haw' g1 (.inl (by have := HL1.out; have := hS.size; omega)) HAW1.out; have hun2 : ∀ g, w9.heap.size ≤ g → z1e g r' := (fun g hg => haw' g (.inr hg) (HUN1.out g (by have := hS.size; have := hb9.size; omega))); (try have hawV := haw' gV (.inl bV.lt) (HUN1.out gV hgB)); (try replace bV := bV.below hb9); replace hS := y9 hS hb9
   refine hK _ _ hS ?_; clear hK K; try simp only [nrm]
   refine WpT.tk 3 hS ?_
   simp only [nrm]
   refine WpT.tk 4 hS ?_
   simp only [nrm]
   refine WpT.tp 5 (hS) ?_
   simp only [nrm]
   refine WpT.tp 6 (hS) ?_
   simp only [nrm]
   refine WpT.ta 8 rfl (fun K hK => ?_)
   refine z02 (vs := lgC r') rfl (by rfl) (by rfl) (HB1.out _ hS) (by rw [hsz, hsz]) (by rw [z0b, hsz]) (z2m _) ?_; intro w12 ht12 b12; have bV2 := ht12.blk bV (by have := HL1.out; omega); have hok2 := hok'.turned ht12 haw2; have kp2 := (Kp.of (g := g1) hS).turn ht12
   refine hK _ _ ?_; clear hK K; try simp only [nrm]
   refine WpT.ta 9 rfl (fun K hK => ?_)
   refine z02 (vs := hdC (sHa H)) rfl (by rfl) (by rfl) bV2 (by rw [hsh, hsh]) (by rw [yl, hsh]) (z4j _) ?_; intro w13 ht13 b13; have b14 := ht13.blk b12 (by have := HL1.out; omega); have hok3 := hok2.turned ht13 hawV
   refine hK _ _ ?_; clear hK K; try simp only [nrm]
   refine WpT.ta 10 rfl (fun K hK => ?_)
   go_simp; (try go_bits)
   refine hK _ _ ?_; clear hK K; try simp only [nrm]
   refine WpT.done (by kernel_rfl) ?_ _
   go_wp2_with fail; go_meet; exact ⟨gV, r', rfl, rfl, hgB, b13, b14, hok3, he', haw2, fun g hg => hun2 g (by rw [← ht12.size, ← ht13.size]; exact hg), hlt', kp2.turnNew ht13 hgB⟩
 case rest =>
 obtain ⟨g7, r2, rfl, rfl, hgx, b7, c2, hok2, he2, haw2, hun2, hlt2, kp⟩ := hcut
 have HN7 : Hid (g7 ≠ g1) := y8 (by have := HL1.out; omega)
 have HAW2 := y8 haw2
 have HUN2 := y8 hun2
 have HLT2 := y8 hlt2
 replace b3 := kp.blk b3 HN3.out
 replace b5 := kp.blk b5 HN5.out
 replace hev := kp.ev hev HEA.out
 replace HEU := y8 (fun g (hg : wc.heap.size ≤ g) => HEU.out g (by have := kp.size; omega))
 replace hbw := hbw.trans (kp.below _ HG1.out.1 hbw.size)
 clear kp hlr hSL HB1 HL1 hgx haw2 hun2 hlt2 b6 hok1 HAW1 HUN1 he1
 obtain ⟨w10, hnw⟩ : ∃ x : World, x = wc := ⟨_, rfl⟩
 rw [← hnw] at b3 b5 b7 c2 hok2 HUN2 hev HEU hbw ⊢
 clear hnw
 have hlr := z2f c2
 have hAP2 : Hid (Calls Tryz.prog 23 #[lgV r2, evV (z42 z30)] w10 (z7w r2 (z42 z30) (sL3 H, 0) w10)) := y8 (by
  have := HAPP.out r2 (sL2 H) (z42 z30) w10 hbw hok2 he2 (zdc w10 5 2 9) zhn (by show 1 ≤ 100; omega) (by show 1 ≤ 100; omega)
  rw [show (z42 z30).e = z30 from rfl, zta] at this
  exact this)
 have HL1 : Hid (g1 < w10.heap.size) := y8 c2.lt
 go_wp2_with (first
  | ((with_reducible show sl 50); refine yk (us := lgL r2) rfl rfl rfl z16 (by rw [z0b, hlg5]) hlr ?_)
  | ((with_reducible show sl 51); refine zfo rfl rfl rfl rfl rfl (zdk 5 2 9) ?_))
 refine hAP2.out.mono ?_
 rintro e w11 ⟨r3, rfl, he3, hok3, hb11, haw3⟩
 have HAW3 := y8 (haw3 g1 (.inl HL1.out) HAW2.out (zgb g1 z30))
 have HUN3 : Hid (∀ g, w11.heap.size ≤ g → z1e g r3) := y8 (fun g hg => haw3 g (.inr hg) (HUN2.out g (by have := hb11.size; omega)) (zgb g z30))
 replace c2 := c2.below hb11
 clear hok2 haw3 hlr hAP2 HAW2 HUN2 he2
 go_upto_region 7 with ((with_reducible show sn); refine z05 (vs := lgC r3) rfl rfl rfl rfl c2 (by rw [hsz, hsz]) (by rw [z0b, hsz]) (z2m _) ?_; intro w12 ht12 c3)
 have kp : Kp g1 w10 w12 := (Kp.of hb11).turn ht12
 replace hok3 := hok3.turned ht12 HAW3.out
 replace HUN3 : Hid (∀ g, w12.heap.size ≤ g → z1e g r3) := y8 (fun g hg => HUN3.out g (by rw [← ht12.size]; exact hg))
 clear c2 hb11 ht12
 replace b3 := kp.blk b3 HN3.out
 replace b5 := kp.blk b5 HN5.out
 replace b7 := kp.blk b7 HN7.out
 replace hev := kp.ev hev HEA.out
 replace HEU := y8 (fun g (hg : w12.heap.size ≤ g) => HEU.out g (by have := kp.size; omega))
 replace hbw := hbw.trans (kp.below _ HG1.out.1 hbw.size)
 clear kp HL1
 have hlr := z2f c3
 have hSL := y8 (fun W (hb : Below w12.heap.size w12 W) => (by
  have := HSEA.out r3 (sL3 H) W (y9 hbw hb) (hok3.below hb) he3 rfl HF3.out (by show 2 ≤ 100; omega) (by show 1 ≤ 100; omega) (by show 1 ≤ 100; omega)
  rw [ztq] at this
  exact this : Calls Tryz.prog 24 #[lgV r3, z0v z0a] W (z8i r3 (sL4 H, sHb H, 0) W)))
 have HB1 := y8 (fun W (hb : Below w12.heap.size w12 W) => c3.below hb)
 have HL1 : Hid (g1 < w12.heap.size) := y8 c3.lt
 unfold z8i at hSL
 go_cut [10, 11] (fun v7 v8 wx => ∃ (g7 : Nat) (r' : LgR), v7 = .pointer (some ⟨g7, 0, none⟩) ∧ v8 = .int .i64 0 ∧ w12.heap.size ≤ g7 ∧ Blk wx g7 51 (hdC (sHb H)) ∧ Blk wx g1 42 (lgC r') ∧ z0w wx r' ∧ z07 r' = sL4 H ∧ z1e g1 r' ∧ (∀ g, wx.heap.size ≤ g → z1e g r') ∧ z0e (sHb H) ∧ Kp g1 w12 wx)
 case first =>
  have hS : Below w12.heap.size w12 w12.drew := (Below.refl _ _).drew
  refine yp 8 (by kernel_rfl) ?_
  refine WpT.tl 0 rfl (yv (us := lgL r3) rfl rfl rfl z16 (by rw [z0b, hlg5]) hlr) hS ?_
  simp only [nrm]
  refine WpT.fork (i := 1) (j := 7) rfl rfl (by kernel_rfl) (fun K hK => ?_) (fun K hK => ?_)
  ·go_simp; refine (HKY.out _).mono ?_; rintro e w8 ⟨rfl, hb8⟩; (try replace bV := bV.below hb8); replace hS := y9 hS hb8
   refine hK _ _ hS ?_; clear hK K; try simp only [nrm]
   refine WpT.fork (i := 2) (j := 7) rfl rfl (by kernel_rfl) (fun K hK => ?_) (fun K hK => ?_)
   ·go_simp; refine (hSL.out _ hS).mono ?_; rintro e w9 ⟨r', rfl, he', hok', hlt', hb9, haw'⟩; have haw2 := haw' g1 (.inl (by have := HL1.out; have := hS.size; omega)) HAW3.out; have hun2 : ∀ g, w9.heap.size ≤ g → z1e g r' := (fun g hg => haw' g (.inr hg) (HUN3.out g (by have := hS.size; have := hb9.size; omega))); (try have hawV := haw' gV (.inl bV.lt) (HUN3.out gV hgB)); (try replace bV := bV.below hb9); replace hS := y9 hS hb9
    refine hK _ _ hS ?_; clear hK K; try simp only [nrm]
    refine WpT.tk 3 hS ?_
    simp only [nrm]
    refine WpT.tk 4 hS ?_
    simp only [nrm]
    refine WpT.tp 5 (hS) ?_
    simp only [nrm]
    refine WpT.tp 6 (hS) ?_
    simp only [nrm]
    refine WpT.on 7 rfl (fun K hK => ?_)
    refine z3h rfl z4q ?_; intro wV gV hgV bV hbV; have hgB : w12.heap.size ≤ gV := (by have := hS.size; omega); (try have hawV := hun2 gV hgV); (try replace hun2 : ∀ g, wV.heap.size ≤ g → z1e g r' := (fun g hg => hun2 g (by have := hbV.size; omega))); clear hgV; (try replace hok' := z0w.below hok' hbV); replace hS := y9 hS hbV
    refine hK _ _ hS ?_; clear hK K; try simp only [nrm]
    refine WpT.ta 8 rfl (fun K hK => ?_)
    refine z02 (vs := lgC r') rfl (by rfl) (by rfl) (HB1.out _ hS) (by rw [hsz, hsz]) (by rw [z0b, hsz]) (z2m _) ?_; intro w12 ht12 b12; have bV2 := ht12.blk bV (by have := HL1.out; omega); have hok2 := hok'.turned ht12 haw2; have kp2 := (Kp.of (g := g1) hS).turn ht12
    refine hK _ _ ?_; clear hK K; try simp only [nrm]
    refine WpT.ta 9 rfl (fun K hK => ?_)
    refine z02 (vs := hdC (sHb H)) rfl (by rfl) (by rfl) bV2 (by rw [hsh, hsh]) (by rw [yl, hsh]) (z4j _) ?_; intro w13 ht13 b13; have b14 := ht13.blk b12 (by have := HL1.out; omega); have hok3 := hok2.turned ht13 hawV
    refine hK _ _ ?_; clear hK K; try simp only [nrm]
    refine WpT.ta 10 rfl (fun K hK => ?_)
    go_simp; (try go_bits)
    refine hK _ _ ?_; clear hK K; try simp only [nrm]
    refine WpT.done (by kernel_rfl) ?_ _
    go_wp2_with fail; go_meet; exact ⟨gV, r', rfl, rfl, hgB, b13, b14, hok3, he', haw2, fun g hg => hun2 g (by rw [← ht12.size, ← ht13.size]; exact hg), hlt', kp2.turnNew ht13 hgB⟩
   ·refine z3h rfl z4q ?_; intro wV gV hgV bV hbV; have hgB : w12.heap.size ≤ gV := (by have := hS.size; omega); (try have hawV := hun2 gV hgV); (try replace hun2 : ∀ g, wV.heap.size ≤ g → z1e g r' := (fun g hg => hun2 g (by have := hbV.size; omega))); clear hgV; (try replace hok' := z0w.below hok' hbV); replace hS := y9 hS hbV
    refine hK _ _ hS ?_; clear hK K; try simp only [nrm]
    refine WpT.on 2 rfl (fun K hK => ?_)
    go_simp; refine (hSL.out _ hS).mono ?_; rintro e w9 ⟨r', rfl, he', hok', hlt', hb9, haw'⟩; have haw2 := haw' g1 (.inl (by have := HL1.out; have := hS.size; omega)) HAW3.out; have hun2 : ∀ g, w9.heap.size ≤ g → z1e g r' := (fun g hg => haw' g (.inr hg) (HUN3.out g (by have := hS.size; have := hb9.size; omega))); (try have hawV := haw' gV (.inl bV.lt) (HUN3.out gV hgB)); (try replace bV := bV.below hb9); replace hS := y9 hS hb9
    refine hK _ _ hS ?_; clear hK K; try simp only [nrm]
    refine WpT.tk 3 hS ?_
    simp only [nrm]
    refine WpT.tk 4 hS ?_
    simp only [nrm]
    refine WpT.tp 5 (hS) ?_
    simp only [nrm]
    refine WpT.tp 6 (hS) ?_
    simp only [nrm]
    refine WpT.ta 8 rfl (fun K hK => ?_)
    refine z02 (vs := lgC r') rfl (by rfl) (by rfl) (HB1.out _ hS) (by rw [hsz, hsz]) (by rw [z0b, hsz]) (z2m _) ?_; intro w12 ht12 b12; have bV2 := ht12.blk bV (by have := HL1.out; omega); have hok2 := hok'.turned ht12 haw2; have kp2 := (Kp.of (g := g1) hS).turn ht12
    refine hK _ _ ?_; clear hK K; try simp only [nrm]
    refine WpT.ta 9 rfl (fun K hK => ?_)
    refine z02 (vs := hdC (sHb H)) rfl (by rfl) (by rfl) bV2 (by rw [hsh, hsh]) (by rw [yl, hsh]) (z4j _) ?_; intro w13 ht13 b13; have b14 := ht13.blk b12 (by have := HL1.out; omega); have hok3 := hok2.turned ht13 hawV
    refine hK _ _ ?_; clear hK K; try simp only [nrm]
    refine WpT.ta 10 rfl (fun K hK => ?_)
    go_simp; (try go_bits)
    refine hK _ _ ?_; clear hK K; try simp only [nrm]
    refine WpT.done (by kernel_rfl) ?_ _
    go_wp2_with fail; go_meet; exact ⟨gV, r', rfl, rfl, hgB, b13, b14, hok3, he', haw2, fun g hg => hun2 g (by rw [← ht12.size, ← ht13.size]; exact hg), hlt', kp2.turnNew ht13 hgB⟩
  ·refine z3h rfl z4q ?_; intro wV gV hgV bV hbV; have hgB : w12.heap.size ≤ gV := (by have := hS.size; omega); (try have hawV := hun2 gV hgV); (try replace hun2 : ∀ g, wV.heap.size ≤ g → z1e g r' := (fun g hg => hun2 g (by have := hbV.size; omega))); clear hgV; (try replace hok' := z0w.below hok' hbV); replace hS := y9 hS hbV
   refine hK _ _ hS ?_; clear hK K; try simp only [nrm]
   refine WpT.on 1 rfl (fun K hK => ?_)
   go_simp; refine (HKY.out _).mono ?_; rintro e w8 ⟨rfl, hb8⟩; (try replace bV := bV.below hb8); replace hS := y9 hS hb8
   refine hK _ _ hS ?_; clear hK K; try simp only [nrm]
   refine WpT.on 2 rfl (fun K hK => ?_)
   go_simp; refine (hSL.out _ hS).mono ?_; rintro e w9 ⟨r', rfl, he', hok', hlt', hb9, haw'⟩; have haw2 := haw' g1 (.inl (by have := HL1.out; have := hS.size; omega)) HAW3.out; have hun2 : ∀ g, w9.heap.size ≤ g → z1e g r' := (fun g hg => haw' g (.inr hg) (HUN3.out g (by have := hS.size; have := hb9.size; omega))); (try have hawV := haw' gV (.inl bV.lt) (HUN3.out gV hgB)); (try replace bV := bV.below hb9); replace hS := y9 hS hb9
   refine hK _ _ hS ?_; clear hK K; try simp only [nrm]
   refine WpT.tk 3 hS ?_
   simp only [nrm]
   refine WpT.tk 4 hS ?_
   simp only [nrm]
   refine WpT.tp 5 (hS) ?_
   simp only [nrm]
   refine WpT.tp 6 (hS) ?_
   simp only [nrm]
   refine WpT.ta 8 rfl (fun K hK => ?_)
   refine z02 (vs := lgC r') rfl (by rfl) (by rfl) (HB1.out _ hS) (by rw [hsz, hsz]) (by rw [z0b, hsz]) (z2m _) ?_; intro w12 ht12 b12; have bV2 := ht12.blk bV (by have := HL1.out; omega); have hok2 := hok'.turned ht12 haw2; have kp2 := (Kp.of (g := g1) hS).turn ht12
   refine hK _ _ ?_; clear hK K; try simp only [nrm]
   refine WpT.ta 9 rfl (fun K hK => ?_)
   refine z02 (vs := hdC (sHb H)) rfl (by rfl) (by rfl) bV2 (by rw [hsh, hsh]) (by rw [yl, hsh]) (z4j _) ?_; intro w13 ht13 b13; have b14 := ht13.blk b12 (by have := HL1.out; omega); have hok3 := hok2.turned ht13 hawV
   refine hK _ _ ?_; clear hK K; try simp only [nrm]
   refine WpT.ta 10 rfl (fun K hK => ?_)
   go_simp; (try go_bits)
   refine hK _ _ ?_; clear hK K; try simp only [nrm]
   refine WpT.done (by kernel_rfl) ?_ _
   go_wp2_with fail; go_meet; exact ⟨gV, r', rfl, rfl, hgB, b13, b14, hok3, he', haw2, fun g hg => hun2 g (by rw [← ht12.size, ← ht13.size]; exact hg), hlt', kp2.turnNew ht13 hgB⟩
 case rest =>
 obtain ⟨g10, r4, rfl, rfl, hgx, b10, c4, hok4, he4, haw4, hun4, hlt4, kp⟩ := hcut
 have HN10 : Hid (g10 ≠ g1) := y8 (by have := HL1.out; omega)
 have HAW4 := y8 haw4
 have HUN4 := y8 hun4
 have HLT4 := y8 hlt4
 replace b3 := kp.blk b3 HN3.out
 replace b5 := kp.blk b5 HN5.out
 replace b7 := kp.blk b7 HN7.out
 replace hev := kp.ev hev HEA.out
 replace HEU := y8 (fun g (hg : wc.heap.size ≤ g) => HEU.out g (by have := kp.size; omega))
 replace hbw := hbw.trans (kp.below _ HG1.out.1 hbw.size)
 clear kp hlr hSL HB1 HL1 hgx haw4 hun4 hlt4 c3 hok3 HAW3 HUN3 he3
 obtain ⟨w14, hnw⟩ : ∃ x : World, x = wc := ⟨_, rfl⟩
 rw [← hnw] at b3 b5 b7 b10 c4 hok4 HUN4 hev HEU hbw ⊢
 clear hnw
 have hlr := z2f c4
 have hlb := yh (xs := hdL (sHb H)) b10
 go_wp2_with (first
  | ((with_reducible show sl 63); refine yk (us := lgL r4) rfl rfl rfl z16 (by rw [z0b, hlg5]) hlr ?_)
  | ((with_reducible show sl 64); refine yk (us := hdL (sHb H)) rfl rfl rfl yo (by rw [yl, h36]) hlb ?_))
 refine (HPRF.out r4 w14 hbw hok4 he4 HLT4.out).mono ?_
 rintro e w15 ⟨s12, rfl, hs12, hsk, -, hb15⟩
 go_upto_region 9 with ((with_reducible show sl 12); refine z18 (z := shC z3n) (vs := shC s12) rfl rfl rfl rfl (zlo _) (fun _ => rfl) (fun _ => rfl) (by rw [hs60, hs60]) (by rw [z1o, hs60]) (z9c _) ?_; intro w16 g12 hg12 b12 hb16 lt16; clear hg12 lt16)
 have hbx := y9 hb15 hb16
 replace hsk := hsk.below hb16
 replace b3 := b3.below hbx
 replace b5 := b5.below hbx
 replace b7 := b7.below hbx
 replace b10 := b10.below hbx
 replace c4 := c4.below hbx
 replace hev := hev.below hbx
 replace HEU := y8 (fun g (hg : w16.heap.size ≤ g) => HEU.out g (by have := hbx.size; omega))
 replace hok4 := hok4.below hbx
 replace hbw := y9 hbw hbx
 clear hbx hb15 hb16 hlr hlb
 have hlr := z2f c4
 have hla := yh (xs := hdL (sHa H)) b7
 have hlb := yh (xs := hdL (sHb H)) b10
 go_wp2_with (first
  | ((with_reducible show sl 69); refine yk (us := lgL r4) rfl rfl rfl z16 (by rw [z0b, hlg5]) hlr ?_)
  | ((with_reducible show sl 70); refine yk (us := hdL (sHa H)) rfl rfl rfl yo (by rw [yl, h36]) hla ?_)
  | ((with_reducible show sl 71); refine yk (us := hdL (sHb H)) rfl rfl rfl yo (by rw [yl, h36]) hlb ?_))
 refine (HCNS.out r4 w16 hbw hok4 he4 HLT2.out HLT4.out).mono ?_
 rintro e w17 ⟨v14, rfl, o14, hb17⟩
 obtain ⟨A14, c14, rfl, n14, m14, r14⟩ := yq.formN o14 (n := 1) rfl
 clear o14
 replace b3 := b3.below hb17
 replace b5 := b5.below hb17
 replace b7 := b7.below hb17
 replace b10 := b10.below hb17
 replace c4 := c4.below hb17
 replace b12 := b12.below hb17
 replace hev := hev.below hb17
 replace HEU := y8 (fun g (hg : w17.heap.size ≤ g) => HEU.out g (by have := hb17.size; omega))
 replace hok4 := hok4.below hb17
 replace hsk := hsk.below hb17
 replace hbw := y9 hbw hb17
 clear hb17 hlr hla hlb
 have hlr := z2f c4
 have hAP : Hid (Calls Tryz.prog 23 #[lgV r4, evV (z42 z62)] w17 (z7w r4 (z42 z62) (sL4 H, 9) w17)) := y8 (by
  have := HAPP.out r4 (sL4 H) (z42 z62) w17 hbw hok4 he4 (zdc w17 5 4 9) zp6 (by show 2 ≤ 100; omega) (by show 1 ≤ 100; omega)
  rw [show (z42 z62).e = z62 from rfl, ztc] at this
  exact this)
 go_wp2_with (first
  | ((with_reducible show sl 76); refine yk (us := lgL r4) rfl rfl rfl z16 (by rw [z0b, hlg5]) hlr ?_)
  | ((with_reducible show sl 77); refine zfo rfl rfl rfl rfl rfl (zdk 5 4 9) ?_))
 refine hAP.out.mono ?_
 rintro e w18 ⟨rx, rfl, -, -, hbx, -⟩
 go_upto_region 11 with ((with_reducible show sl 16); refine z18 (z := lgC (z0s 0)) (vs := lgC rx) rfl rfl rfl rfl (z72 _) (fun _ => rfl) (fun _ => rfl) (by rw [hsz, hsz]) (by rw [z0b, hsz]) (z2m _) ?_; intro w19 gx hgx bx hby ltx; clear hgx ltx bx)
 replace hbx := y9 hbx hby
 replace b3 := b3.below hbx
 replace b5 := b5.below hbx
 replace b7 := b7.below hbx
 replace b10 := b10.below hbx
 replace c4 := c4.below hbx
 replace b12 := b12.below hbx
 replace hev := hev.below hbx
 replace HEU := y8 (fun g (hg : w19.heap.size ≤ g) => HEU.out g (by have := hbx.size; omega))
 replace hok4 := hok4.below hbx
 replace hsk := hsk.below hbx
 replace r14 := r14.below hbx
 replace hbw := y9 hbw hbx
 clear hbx hby hlr hAP
 have hlr := z2f c4
 have hAP : Hid (Calls Tryz.prog 23 #[lgV r4, evV (z42 z61)] w19 (z7w r4 (z42 z61) (sL4 H, 9) w19)) := y8 (by
  have := HAPP.out r4 (sL4 H) (z42 z61) w19 hbw hok4 he4 (zdc w19 5 3 8) zp5 (by show 2 ≤ 100; omega) (by show 1 ≤ 100; omega)
  rw [show (z42 z61).e = z61 from rfl, ztb] at this
  exact this)
 go_wp2_with (first
  | ((with_reducible show sl 82); refine yk (us := lgL r4) rfl rfl rfl z16 (by rw [z0b, hlg5]) hlr ?_)
  | ((with_reducible show sl 83); refine zfo rfl rfl rfl rfl rfl (zdk 5 3 8) ?_))
 refine hAP.out.mono ?_
 rintro e w20 ⟨rx, rfl, -, -, hbx, -⟩
 go_upto_region 12 with ((with_reducible show sl 18); refine z18 (z := lgC (z0s 0)) (vs := lgC rx) rfl rfl rfl rfl (z72 _) (fun _ => rfl) (fun _ => rfl) (by rw [hsz, hsz]) (by rw [z0b, hsz]) (z2m _) ?_; intro w21 gx hgx bx hby ltx; clear hgx ltx bx)
 replace hbx := y9 hbx hby
 replace b3 := b3.below hbx
 replace b5 := b5.below hbx
 replace b7 := b7.below hbx
 replace b10 := b10.below hbx
 replace c4 := c4.below hbx
 replace b12 := b12.below hbx
 replace hev := hev.below hbx
 replace HEU := y8 (fun g (hg : w21.heap.size ≤ g) => HEU.out g (by have := hbx.size; omega))
 replace hok4 := hok4.below hbx
 replace hsk := hsk.below hbx
 replace r14 := r14.below hbx
 replace hbw := y9 hbw hbx
 clear hbx hby hlr hAP
 go_wp2_with fail
 refine (HKY.out _).mono ?_
 rintro e w22 ⟨rfl, hb22⟩
 have hN12 : s12.s.face = yt H z1b := by rw [hs12]; rfl
 have b12x : Blk w22 g12 63 (shC s12) := b12.below hb22
 have hl12 := yh (xs := shL s12) b12x
 have hl60 := h60 s12
 go_upto_region 16 with (first
  | ((with_reducible show sl 126); refine zvh rfl rfl rfl ?_; intro w23 gr hr hb23; replace hl12 := fun j u h => cell_later hb23 (hl12 j u h))
  | ((with_reducible show sl 127); refine yk (us := shL s12) rfl rfl rfl z2t (by rw [z1o, hl60]) hl12 ?_)
  | ((with_reducible show sl 21); refine z18 (z := shC z3n) (vs := shC s12) rfl rfl rfl rfl (zlo _) (fun _ => rfl) (fun _ => rfl) (by rw [hs60, hs60]) (by rw [z1o, hs60]) (z9c _) ?_; intro w24 g21 hg21 b21 hb24 lt24; have hg21' : w23.heap.size ≤ g21 := (by omega); clear hg21 lt24))
 have HG21 : Hid (w23.heap.size ≤ g21) := y8 hg21'
 have hb23' := y9 hb22 hb23
 clear hg21' hl12 b12x
 go_upto_region 17 with ((with_reducible show sn); refine z1p (cs' := shC ⟨⟨{ s12.s.face with til := 8 }, s12.s.path, s12.s.head⟩, s12.A, s12.n, s12.c⟩) rfl rfl (by kernel_rfl) rfl rfl rfl b21 (by rw [hs60]; omega) (zqt s12 8) ?_; intro w25 ht25 b25)
 have hb25 : Below w23.heap.size w23 w25 := hb24.trans (ht25.below _ HG21.out)
 replace hr := hr.below hb25
 have hbx := y9 hb23' hb25
 replace b3 := b3.below hbx
 replace b5 := b5.below hbx
 replace b7 := b7.below hbx
 replace b10 := b10.below hbx
 replace c4 := c4.below hbx
 replace b12 := b12.below hbx
 replace hev := hev.below hbx
 replace HEU := y8 (fun g (hg : w25.heap.size ≤ g) => HEU.out g (by have := hbx.size; omega))
 replace hok4 := hok4.below hbx
 replace hsk := hsk.below hbx
 replace r14 := r14.below hbx
 replace hbw := y9 hbw hbx
 clear hbx hb22 hb23 hb24 hb25 hb23' ht25 b21
 obtain ⟨bR, hbR⟩ : ∃ x : ShR, x = ⟨⟨{ s12.s.face with til := 8 }, s12.s.path, s12.s.head⟩, s12.A, s12.n, s12.c⟩ := ⟨_, rfl⟩
 have HBR : Hid (bR.s = z6s H) := y8 (by rw [hbR]; show (⟨{ s12.s.face with til := 8 }, s12.s.path, s12.s.head⟩ : Sh) = _; rw [hs12]; rfl)
 have hbk : z2c w25 bR := by rw [hbR]; exact ⟨hsk.rd, hsk.nc, hsk.cm, hsk.lt, hsk.bl, hsk.hd⟩
 rw [← hbR] at b25
 have HS12 := y8 hs12
 have hf12 := z4n b12
 have hf25 := z4n b25
 have hfe : bR.s.face = z4m H := by rw [HBR.out]; rfl
 rw [hN12] at hf12
 rw [hfe] at hf25
 have HN12 := y8 hN12
 clear hbR hs12 hfe hN12
 have hLA := y8 (fun W (hb : Below w25.heap.size w25 W) => HLF.out (yt H z1b) W HFB.out.2 (y9 hbw hb))
 have hLB := y8 (fun W (hb : Below w25.heap.size w25 W) => HLF.out (z4m H) W HFB.out.1 (y9 hbw hb))
 have HLT : Hid (H.lf (z4m H) < 2 ^ 128 ∧ H.lf (yt H z1b) < 2 ^ 128) := y8 ⟨HLL.out _, HLL.out _⟩
 have h23a := h23 (yt H z1b)
 have h23b := h23 (z4m H)
 generalize H.lf (z4m H) = LB at *
 generalize H.lf (yt H z1b) = LA at *
 obtain ⟨ot, hot⟩ : ∃ x, (!decide (LB = LA)) = x := ⟨_, rfl⟩
 have hS : Below w25.heap.size w25 w25.drew := (Below.refl _ _).drew
 refine yp 7 (by kernel_rfl) ?_
 refine WpT.tk 0 hS ?_
 simp only [nrm]
 refine WpT.tl 1 rfl (yv (us := fcL (z4m H)) rfl rfl rfl z1z (by rw [z0y, h23b]) hf25) hS ?_
 simp only [nrm]
 refine WpT.tk 3 hS ?_
 simp only [nrm]
 refine WpT.tl 4 rfl (yv (us := fcL (yt H z1b)) rfl rfl rfl z1z (by rw [z0y, h23a]) hf12) hS ?_
 simp only [nrm]
 refine WpT.on 2 rfl (fun K hK => ?_)
 go_simp; refine (hLB.out _ hS).mono ?_; rintro e w4 ⟨rfl, hb4⟩; replace hS := y9 hS hb4
 refine hK _ _ hS ?_; clear hK K; try simp only [nrm]
 refine WpT.on 5 rfl (fun K hK => ?_)
 go_simp; refine (hLA.out _ hS).mono ?_; rintro e w26 ⟨rfl, hb5⟩; replace hS := y9 hS hb5
 refine hK _ _ hS ?_; clear hK K; try simp only [nrm]
 refine WpT.tl 6 rfl (zfu (by rfl) rfl (by rfl) (by rfl) HLT.out.1 HLT.out.2 hot (fun W => by kernel_rfl)) hS ?_
 simp only [nrm]
 refine WpT.ta 7 rfl (fun K hK => ?_)
 go_simp; (try go_bits)
 refine hK _ _ ?_; clear hK K; try simp only [nrm]
 refine WpT.done (by kernel_rfl) ?_ _
 skip
 replace hbk := hbk.below hS
 replace hr := hr.below hS
 replace b25 := b25.below hS
 replace b3 := b3.below hS
 replace b5 := b5.below hS
 replace b7 := b7.below hS
 replace b10 := b10.below hS
 replace c4 := c4.below hS
 replace b12 := b12.below hS
 replace hev := hev.below hS
 replace HEU := y8 (fun g (hg : w26.heap.size ≤ g) => HEU.out g (by have := hS.size; omega))
 replace hok4 := hok4.below hS
 replace hsk := hsk.below hS
 replace r14 := r14.below hS
 replace hbw := y9 hbw hS
 clear hS hf12 hf25 hLA hLB hot
 rcases ot with _ | _
 ·go_wp2_with fail
  go_ret
  exact ⟨rfl, hbw⟩
 have HP1 : Hid (s12.n = 1) := y8 (by have := hsk.rd.len; rw [HS12.out] at this; exact this.symm)
 have x23 := zct b12
 rw [HP1.out] at x23
 have hl12 := yh (xs := shL s12) b12
 go_wp2_with ((with_reducible show sl 145); refine yu (us := shL s12) (by rfl) rfl rfl z2t (by rw [z1o, hl60]) hl12 ?_)
 refine (HCS.out _ s12 w26 hbw hr hsk HS12.out).mono ?_
 rintro e w27 ⟨rfl, hbx⟩
 replace b3 := b3.below hbx
 replace b5 := b5.below hbx
 replace b7 := b7.below hbx
 replace b10 := b10.below hbx
 replace c4 := c4.below hbx
 replace b12 := b12.below hbx
 replace b25 := b25.below hbx
 replace hev := hev.below hbx
 replace HEU := y8 (fun g (hg : w27.heap.size ≤ g) => HEU.out g (by have := hbx.size; omega))
 replace hok4 := hok4.below hbx
 replace hsk := hsk.below hbx
 replace r14 := r14.below hbx
 replace hr := hr.below hbx
 replace hbk := hbk.below hbx
 replace hbw := y9 hbw hbx
 clear hbx
 clear hl12 x23
 have hla := yh (xs := hdL (sHa H)) b7
 have hlb := yh (xs := hdL (sHb H)) b10
 go_wp2_with (first
  | ((with_reducible show sl 151); refine yu (us := hdL (sHa H)) (by rfl) rfl rfl yo (by rw [yl, h36]) hla ?_)
  | ((with_reducible show sl 152); refine yu (us := hdL (sHb H)) (by rfl) rfl rfl yo (by rw [yl, h36]) hlb ?_))
 refine (HCH.out _ _ _ w27 hbw hr r14 n14 m14 HLT2.out HLT4.out).mono ?_
 rintro e w28 ⟨rfl, hbx⟩
 replace b3 := b3.below hbx
 replace b5 := b5.below hbx
 replace b7 := b7.below hbx
 replace b10 := b10.below hbx
 replace c4 := c4.below hbx
 replace b12 := b12.below hbx
 replace b25 := b25.below hbx
 replace hev := hev.below hbx
 replace HEU := y8 (fun g (hg : w28.heap.size ≤ g) => HEU.out g (by have := hbx.size; omega))
 replace hok4 := hok4.below hbx
 replace hsk := hsk.below hbx
 replace r14 := r14.below hbx
 replace hr := hr.below hbx
 replace hbk := hbk.below hbx
 replace hbw := y9 hbw hbx
 clear hbx
 clear hla hlb
 have hl5 := yh (xs := rcL (sRc H)) b5
 go_wp2_with ((with_reducible show sl 159); refine yu (us := rcL (sRc H)) (by rfl) rfl rfl z1t (by rw [z13, h41]) hl5 ?_)
 refine (HCR.out _ w28 hbw hr).mono ?_
 rintro e w29 ⟨rfl, hbx⟩
 replace b3 := b3.below hbx
 replace b5 := b5.below hbx
 replace b7 := b7.below hbx
 replace b10 := b10.below hbx
 replace c4 := c4.below hbx
 replace b12 := b12.below hbx
 replace b25 := b25.below hbx
 replace hev := hev.below hbx
 replace HEU := y8 (fun g (hg : w29.heap.size ≤ g) => HEU.out g (by have := hbx.size; omega))
 replace hok4 := hok4.below hbx
 replace hsk := hsk.below hbx
 replace r14 := r14.below hbx
 replace hr := hr.below hbx
 replace hbk := hbk.below hbx
 replace hbw := y9 hbw hbx
 clear hbx
 replace hl5 := yh (xs := rcL (sRc H)) b5
 have hl12 := yh (xs := shL s12) b12
 go_wp2_with (first
  | ((with_reducible show sl 165); refine yu (us := rcL (sRc H)) (by rfl) rfl rfl z1t (by rw [z13, h41]) hl5 ?_)
  | ((with_reducible show sl 166); refine yu (us := shL s12) (by rfl) rfl rfl z2t (by rw [z1o, hl60]) hl12 ?_))
 refine (HRF.out _ s12 w29 hbw hr hsk HS12.out).mono ?_
 rintro e w30 ⟨rfl, hbx⟩
 replace b3 := b3.below hbx
 replace b5 := b5.below hbx
 replace b7 := b7.below hbx
 replace b10 := b10.below hbx
 replace c4 := c4.below hbx
 replace b12 := b12.below hbx
 replace b25 := b25.below hbx
 replace hev := hev.below hbx
 replace HEU := y8 (fun g (hg : w30.heap.size ≤ g) => HEU.out g (by have := hbx.size; omega))
 replace hok4 := hok4.below hbx
 replace hsk := hsk.below hbx
 replace r14 := r14.below hbx
 replace hr := hr.below hbx
 replace hbk := hbk.below hbx
 replace hbw := y9 hbw hbx
 clear hbx
 replace hl5 := yh (xs := rcL (sRc H)) b5
 replace hl12 := yh (xs := shL bR) b25
 have hl60b := h60 bR
 go_wp2_with (first
  | ((with_reducible show sl 172); refine yu (us := rcL (sRc H)) (by rfl) rfl rfl z1t (by rw [z13, h41]) hl5 ?_)
  | ((with_reducible show sl 173); refine yu (us := shL bR) (by rfl) rfl rfl z2t (by rw [z1o, hl60b]) hl12 ?_))
 refine (HRB.out _ bR w30 hbw hr hbk HBR.out).mono ?_
 rintro e w31 ⟨rfl, hbx⟩
 replace b3 := b3.below hbx
 replace b5 := b5.below hbx
 replace b7 := b7.below hbx
 replace b10 := b10.below hbx
 replace c4 := c4.below hbx
 replace b12 := b12.below hbx
 replace b25 := b25.below hbx
 replace hev := hev.below hbx
 replace HEU := y8 (fun g (hg : w31.heap.size ≤ g) => HEU.out g (by have := hbx.size; omega))
 replace hok4 := hok4.below hbx
 replace hsk := hsk.below hbx
 replace r14 := r14.below hbx
 replace hr := hr.below hbx
 replace hbk := hbk.below hbx
 replace hbw := y9 hbw hbx
 clear hbx
 clear hl5 hl12
 have hf12 := z4n b12
 rw [HN12.out] at hf12
 have hle := yh (xs := evL eR) b3
 go_wp2_with (first
  | ((with_reducible show sl 179); refine yu (us := fcL (yt H z1b)) (by rfl) rfl rfl z1z (by rw [z0y, h23a]) hf12 ?_)
  | ((with_reducible show sl 180); refine yu (us := evL eR) (by rfl) rfl rfl z3d (by rw [z2w, h25]) hle ?_))
 refine (HOP.out eR w31 hbw hev HER.out).mono ?_
 rintro e w32 ⟨rfl, hbx⟩
 replace b3 := b3.below hbx
 replace b5 := b5.below hbx
 replace b7 := b7.below hbx
 replace b10 := b10.below hbx
 replace c4 := c4.below hbx
 replace b12 := b12.below hbx
 replace b25 := b25.below hbx
 replace hev := hev.below hbx
 replace HEU := y8 (fun g (hg : w32.heap.size ≤ g) => HEU.out g (by have := hbx.size; omega))
 replace hok4 := hok4.below hbx
 replace hsk := hsk.below hbx
 replace r14 := r14.below hbx
 replace hr := hr.below hbx
 replace hbk := hbk.below hbx
 replace hbw := y9 hbw hbx
 clear hbx
 clear hf12 hle
 have hlr := z2f c4
 go_wp2_with ((with_reducible show sl 184); refine yu (us := lgL r4) (by rfl) rfl rfl z16 (by rw [z0b, hlg5]) hlr ?_)
 refine (HVAL.out r4 w32 hbw hok4 he4).mono ?_
 rintro e w33 ⟨rfl, hbx⟩
 replace b3 := b3.below hbx
 replace b5 := b5.below hbx
 replace b7 := b7.below hbx
 replace b10 := b10.below hbx
 replace c4 := c4.below hbx
 replace b12 := b12.below hbx
 replace b25 := b25.below hbx
 replace hev := hev.below hbx
 replace HEU := y8 (fun g (hg : w33.heap.size ≤ g) => HEU.out g (by have := hbx.size; omega))
 replace hok4 := hok4.below hbx
 replace hsk := hsk.below hbx
 replace r14 := r14.below hbx
 replace hr := hr.below hbx
 replace hbk := hbk.below hbx
 replace hbw := y9 hbw hbx
 clear hbx
 clear hlr
 have hla := yh (xs := hdL (sHa H)) b7
 have hlb := yh (xs := hdL (sHb H)) b10
 go_wp2_with (first
  | ((with_reducible show sl 189); refine yu (us := hdL (sHa H)) (by rfl) rfl rfl yo (by rw [yl, h36]) hla ?_)
  | ((with_reducible show sl 190); refine yu (us := hdL (sHb H)) (by rfl) rfl rfl yo (by rw [yl, h36]) hlb ?_))
 refine (HFK.out _ w33 hbw hr HLT2.out HLT4.out).mono ?_
 rintro e w34 ⟨rfl, hbx⟩
 go_wp2_with fail
 go_ret
 exact ⟨rfl, y9 hbw hbx⟩

theorem hneW : z1c.nd (z1c.lf (z4m z1c)) (sB z1c) ≠ z1c.nd (sA z1c) (sB z1c) := by decide +kernel
theorem sane (w : World) (hg : GCon w) (hrc : RCon w) (hgb : GBru w) : Calls Tryz.prog 11 #[] w (BIs true w) := ztv lds hneW w hg hrc hgb
theorem zt1 (b : Bool) (W : World) : (binOp .eql 4 (.bool b) (.bool b)).run Tryz.prog W = .ok (.bool true) W := by cases b <;> kernel_rfl
theorem zlm {ops : Array Oper} {S : World → Prop} {o : Oper} {a : Act} {x y : Operand} {u : TypeId} {b : Bool} (hw : Region.wanted o (yielded ops a.tmps) = true) (ho : o.op = .binOp .eql 4 x y u) (hx : a.eval x = .bool b) (hy : a.eval y = .bool b)
  (hg : ∀ W, (eqGuard .eql 4 x y (.bool b) (.bool b)).run Tryz.prog W = .ok () W) : YieldsIf Tryz.prog ops S o (.bool true) a := by
 refine .inl ⟨hw, fun w hS => ?_⟩
 unfold execOp
 simp only [ho, hx, hy, Sem.run_bind, hg, zt1, Result.andThen_ok, Sem.run_pure]
end
end Go.Proofs.YtcapckngikekpaaGreatDoor
