/-
  Known of the functions of this seat's laws, joined. Conditions: each theorem's own.
-/
import Derived.Test.YtcapckngikekpaaGreatDoorF6
namespace Go.Proofs.YtcapckngikekpaaGreatDoor
set_option linter.unusedSimpArgs false
set_option linter.unusedVariables false
set_option maxRecDepth 100000
set_option maxHeartbeats 16000000
section
open Go.RowKit Ring
abbrev z0f (z : Key) : Array Value := #[.int .i64 z.party, .int .i64 z.serial, .string z.secret, .int .i64 z.frm, .int .i64 z.til]
theorem zv6 (A : Option Addr) (n c : Nat) (l : List Key) (z : Key) (w : World) (hn : n ≤ 100000) (hr : RdK w A n l) (hs : z3h l) :
  Calls Tryz.prog 165 #[.slice A n c, z10 z, .func (.func 166) #[] #[]] w fun e w' => e = .returned (.tuple #[.int .i64 (low z l), .bool (z14 z l).isSome]) ∧ Below w.heap.size w w' := by
 have HL := ya hr.len
 have HO := ya (fun a W => zs6 a z W)
 have HI := ya (zrb z l hs)
 have HF : Hid ((z14 z l).isSome = if h : low z l < l.length then decide (z25 l[low z l] z) else false) := ya (by
  rw [zez z l hs]
  by_cases h : low z l < l.length
  ·rw [dif_pos h, dif_pos h]
   by_cases hx : z25 l[low z l] z <;> simp [hx]
  ·rw [dif_neg h, dif_neg h]; rfl)
 generalize low z l = L at *
 generalize (z14 z l).isSome = F at *
 go_enter Tryz.func165, Tryz.ntmps165
 go_wp2_with fail
 have hb0 := (Below.refl w.heap.size w).alloc (Nat.le_refl _) (.cells (z0f z) 44)
 have hz0 := Blk.new w 44 (z0f z)
 go_loopw [9, 10, 11] (fun vi vj _ wr => ∃ i j : Nat, i ≤ j ∧ j ≤ n ∧ vi = .int .i64 i ∧ vj = .int .i64 j ∧ Below w.heap.size w wr ∧ Blk wr w.heap.size 44 (z0f z) ∧ Hid (∀ (m : Nat) (h : m < l.length), m < i → lt l[m] z) ∧ Hid (∀ (m : Nat) (h : m < l.length), j ≤ m → ¬ lt l[m] z)) (fun vi vj _ _ => (intOf vj - intOf vi).toNat)
 case atStart => exact ⟨0, n, Nat.zero_le _, Nat.le_refl _, rfl, rfl, hb0, hz0, ya (fun _ _ h => by omega), ya (fun m h h' => by have := HL.out; omega)⟩
 case round =>
  clear hb0 hz0
  obtain ⟨i, j, hij, hjn, rfl, rfl, hbw, hz, hlo, hhi⟩ := hrel
  by_cases hlt : i < j
  ·go_upto_region 5 with (fail)
   obtain ⟨h, hh⟩ : ∃ h : Nat, ((i : Int) + j) / 2 = h := ⟨((i : Int) + j).toNat / 2, by omega⟩
   have h1 : i ≤ h := by omega
   have h2 : h < j := by omega
   rw [hh]
   clear hh
   obtain ⟨ad, rfl, hc⟩ := (hr.below hbw).elem (i := h) (by have := HL.out; omega)
   have HLT : Hid (lt (l[h]'(by have := HL.out; omega)) z → ∀ (m : Nat) (hm : m < l.length), m < h + 1 → lt l[m] z) := ya (fun h0 m hm hmh => by
    rcases Nat.lt_or_ge m h with hx | hx
    ·exact zfk (List.pairwise_iff_getElem.1 hs m h hm (by have := HL.out; omega) hx) h0
    ·obtain rfl : m = h := by omega
     exact h0)
   have HGE : Hid (¬ lt (l[h]'(by have := HL.out; omega)) z → ∀ (m : Nat) (hm : m < l.length), h ≤ m → ¬ lt l[m] z) := ya (fun h0 m hm hmh h3 => by
    rcases Nat.lt_or_ge h m with hx | hx
    ·exact h0 (zfk (List.pairwise_iff_getElem.1 hs h m (by have := HL.out; omega) hm hx) h3)
    ·obtain rfl : m = h := by omega
     exact h0 h3)
   generalize (l[h]'(by have := HL.out; omega)) = x at *
   have HO1 := ya (HO.out x)
   have HX := ya (zs5 x z)
   generalize z5x x z = V at *
   have hS0 : Below wr.heap.size wr wr.drew := (Below.refl _ wr).drew
   refine yq 8 (by kernel_rfl) ?_
   refine WpT.tk 0 ((Below.refl _ _).drew) ?_
   simp only [nrm]
   refine WpT.tk 1 ((Below.refl _ _).drew) ?_
   simp only [nrm]
   refine WpT.tk 2 ((Below.refl _ _).drew) ?_
   simp only [nrm]
   refine WpT.tk 3 ((Below.refl _ _).drew) ?_
   simp only [nrm]
   refine WpT.tl 4 rfl (z07 rfl rfl rfl (by kernel_rfl) (by kernel_rfl) (us := kv x) hc) ((Below.refl _ _).drew) ?_
   simp only [nrm]
   refine WpT.tl 5 rfl (z5l rfl rfl rfl (by kernel_rfl) (by kernel_rfl) (by assumption)) ((Below.refl _ _).drew) ?_
   simp only [nrm]
   refine WpT.on 6 rfl (fun K hK => ?_)
   go_simp; refine (HO1.out _).mono ?_; rintro e w' ⟨rfl, hb1⟩; have hS1 := yb hS0 hb1
   refine hK _ _ hS1 ?_; clear hK K; try simp only [nrm]
   refine WpT.tk 7 hS1 ?_
   simp only [nrm]
   refine WpT.done (by kernel_rfl) ?_ _
   have hbn := hbw.trans (hS1.mono hbw.size)
   have hzn := hz.below hS1
   by_cases hV : V < 0
   ·have d : decide (V < 0) = true := by simpa using hV
    have HN := ya (HLT.out (HX.out.1 hV))
    clear hz hbw hS0 hb1 hS1 hc HLT HGE HX HO1 hlo
    go_wp2_with fail
    exact ⟨⟨h + 1, j, by omega, by omega, by go_num, rfl, hbn, hzn, HN, hhi⟩, by simp [intOf]; omega⟩
   ·have d : decide (V < 0) = false := by simpa using hV
    have HN := ya (HGE.out (fun hx => hV (HX.out.2 hx)))
    clear hz hbw hS0 hb1 hS1 hc HLT HGE HX HO1 hhi
    go_wp2_with fail
    exact ⟨⟨i, h, by omega, by omega, rfl, rfl, hbn, hzn, hlo, HN⟩, by simp [intOf]; omega⟩
  ·obtain rfl : i = j := by omega
   obtain rfl := HI.out i (by have := HL.out; omega) hlo.out hhi.out
   clear hlo hhi hs HI
   by_cases hin : i < n
   ·obtain ⟨ad, rfl, hc⟩ := (hr.below hbw).elem (i := i) (by have := HL.out; omega)
    have HF2 : Hid (F = decide (z25 (l[i]'(by have := HL.out; omega)) z)) := ya (by rw [HF.out, dif_pos (by have := HL.out; omega)])
    clear HF
    generalize (l[i]'(by have := HL.out; omega)) = x at *
    have HX : Hid (F = decide (z5x x z = 0)) := ya (by rw [HF2.out, decide_eq_decide]; exact (zs4 x z).symm)
    have HO1 := ya (HO.out x)
    generalize z5x x z = V at *
    clear HF2
    have hS0 : Below wr.heap.size wr wr.drew := (Below.refl _ wr).drew
    have hE : (V == 0) = F := by rw [HX.out]; rfl
    clear HX
    go_upto_region 8 with (fail)
    refine yq 15 (by kernel_rfl) ?_
    refine WpT.tk 0 ((Below.refl _ _).drew) ?_
    simp only [nrm]
    refine WpT.tk 1 ((Below.refl _ _).drew) ?_
    simp only [nrm]
    refine WpT.tk 2 ((Below.refl _ _).drew) ?_
    simp only [nrm]
    refine WpT.tk 3 ((Below.refl _ _).drew) ?_
    simp only [nrm]
    refine WpT.tk 4 ((Below.refl _ _).drew) ?_
    simp only [nrm]
    refine WpT.tk 5 ((Below.refl _ _).drew) ?_
    simp only [nrm]
    refine WpT.tk 6 ((Below.refl _ _).drew) ?_
    simp only [nrm]
    refine WpT.tk 7 ((Below.refl _ _).drew) ?_
    simp only [nrm]
    refine WpT.tk 8 ((Below.refl _ _).drew) ?_
    simp only [nrm]
    refine WpT.tl 9 rfl (z54 (by rfl) rfl rfl (by kernel_rfl) (by kernel_rfl) (us := kv x) hc) ((Below.refl _ _).drew) ?_
    simp only [nrm]
    refine WpT.tl 10 rfl (zxb (by rfl) rfl rfl (by kernel_rfl) (by kernel_rfl) (by assumption)) ((Below.refl _ _).drew) ?_
    simp only [nrm]
    refine WpT.on 11 rfl (fun K hK => ?_)
    go_simp; refine (HO1.out _).mono ?_; rintro e w' ⟨rfl, hb1⟩; have hS1 := yb hS0 hb1
    refine hK _ _ hS1 ?_; clear hK K; try simp only [nrm]
    refine WpT.tk 12 hS1 ?_
    simp only [nrm]
    refine WpT.tk 13 hS1 ?_
    simp only [nrm]
    refine WpT.on 14 rfl (fun K hK => ?_)
    go_simp; (try go_bits)
    refine hK _ _ hS1 ?_; clear hK K; try simp only [nrm]
    refine WpT.ta 15 rfl (fun K hK => ?_)
    go_simp; (try go_bits)
    refine hK _ _ ?_; clear hK K; try simp only [nrm]
    refine WpT.done (by kernel_rfl) ?_ _
    go_wp2_with fail
    go_ret2
    exact ⟨rfl, hbw.trans (hS1.mono hbw.size)⟩
   ·obtain rfl : i = n := by omega
    obtain rfl : F = false := by rw [HF.out, dif_neg (by have := HL.out; omega)]
    clear HF
    go_upto_region 8 with (fail)
    go_quiet (fail)
    go_wp2_with fail
    go_ret2
    exact ⟨rfl, hbw.trans ⟨rfl, rfl, rfl, Nat.le_refl _, fun _ _ => rfl⟩⟩
theorem zsh (A : Option Addr) (n c : Nat) (l : List Key) (p s : Int) (w : World) (hn : n ≤ 100000) (hr : RdK w A n l) (hs : z3h l) :
  Calls Tryz.prog 157 #[.slice A n c, .int .i64 p, .int .i64 s] w fun e w' => e = .returned (.tuple #[.int .i64 (low ⟨p, s, ⟨#[]⟩, 0, 0⟩ l), .bool (z14 ⟨p, s, ⟨#[]⟩, 0, 0⟩ l).isSome]) ∧ Below w.heap.size w w' := by
 have HQ := ya (zv6 A n c l ⟨p, s, ⟨#[]⟩, 0, 0⟩ w hn hr hs)
 generalize low ⟨p, s, ⟨#[]⟩, 0, 0⟩ l = L at *
 generalize (z14 ⟨p, s, ⟨#[]⟩, 0, 0⟩ l).isSome = F at *
 have hbuild : ∀ W, (Instr.build 44 #[(0, .int .i64 p), (1, .int .i64 s)]).run Tryz.prog W = .ok (z10 ⟨p, s, ⟨#[]⟩, 0, 0⟩) W := fun W => by kernel_rfl
 go_enter Tryz.func157, Tryz.ntmps157
 go_wp2_with fail
 refine HQ.out.mono ?_
 rintro e w' ⟨rfl, hb1⟩
 go_wp2_with fail
 go_ret2
 exact ⟨rfl, hb1⟩
theorem zgp {w : World} {ops : Array Oper} {rest : List Oper} {o : Oper} {a : Act} {Q : Exit → Act → World → Prop} (hgd : o.guard = none) (ho : o.op = .alloc 44)
  (h : ∀ w' g, g = w.heap.size → Blk w' g 44 (z0f ⟨0, 0, ⟨#[]⟩, 0, 0⟩) → Below w.heap.size w w' → g < w'.heap.size → wpList Tryz.prog ops Q rest (a.put o.dst (.pointer (some ⟨g, 0, none⟩))) w') : wpList Tryz.prog ops Q (o :: rest) a w :=
 wpList_plain hgd fun _ hK => z7y (z := .agg (z0f ⟨0, 0, ⟨#[]⟩, 0, 0⟩)) ho (by kernel_rfl) (hK _ _ (h _ _ rfl (Blk.new _ _ _) ((Below.refl _ _).alloc (Nat.le_refl _) _) (Blk.new _ _ _).lt))
theorem zrn (k : Key) : (z0f k).all (·.oneCell') = true := by simp [z0f, Value.oneCell']
theorem zbr {w : World} {ops : Array Oper} {rest : List Oper} {o : Oper} {a : Act} {Q : Exit → Act → World → Prop} (hgd : o.guard = none) {x y : Operand} (ho : o.op = .store 44 x y) {g : Nat} (hx : a.eval x = .pointer (some ⟨g, 0, none⟩))
  {k k' : Key} (hy : a.eval y = .agg (kv k).toArray) (hb : Blk w g 44 (z0f k'))
  (h : ∀ w', Blk w' g 44 (z0f k) → Below g w w' → wpList Tryz.prog ops Q rest (a.put o.dst undef) w') : wpList Tryz.prog ops Q (o :: rest) a w :=
 z2f (o := 0) (vs := z0f k) hgd ho hx hy hb (by simp) (by kernel_rfl) (zrn k) (h _ (hb.all (z0f k) rfl) (z0v (Below.refl _ _) (Nat.le_refl _) 0 _))
theorem z2q {w : World} {ops : Array Oper} {rest : List Oper} {o : Oper} {a : Act} {Q : Exit → Act → World → Prop} (hgd : o.guard = none) {x : Operand} (ho : o.op = .load 44 x) {p : Addr} (ha : a.eval x = .pointer (some p)) {k : Key}
  (hc : ∀ j u, (kv k)[j]? = some u → w.cell? (p.add j) = some u) (h : wpList Tryz.prog ops Q rest (a.put o.dst (.agg (z0f k))) w) : wpList Tryz.prog ops Q (o :: rest) a w :=
 yj (us := kv k) hgd ho ha z6o z7v hc h
def z4e : Key := ⟨0, 0, ⟨#[]⟩, 0, 0⟩
def z7m (o : Option Key) : Key := o.getD z4e
def z7k (o : Option Key) (e : Int) : Int := if o.isSome then 0 else e
theorem zq4 (A : Option Addr) (n c : Nat) (l : List Key) (p s : Int) (w : World) (hn : n ≤ 100000) (hr : RdK w A n l) (hs : z3h l) :
  Calls Tryz.prog 129 #[.slice A n c, .int .i64 p, .int .i64 s] w fun e w' => e = .returned (.tuple #[z10 (z7m (z14 ⟨p, s, ⟨#[]⟩, 0, 0⟩ l)), .int .i64 (z7k (z14 ⟨p, s, ⟨#[]⟩, 0, 0⟩ l) 5)]) ∧ Below w.heap.size w w' := by
 have HQ := ya (fun W hr => zsh A n c l p s W hn hr hs)
 have HL := ya hr.len
 have HF : Hid (z14 ⟨p, s, ⟨#[]⟩, 0, 0⟩ l = none ∨ ∃ (h : low ⟨p, s, ⟨#[]⟩, 0, 0⟩ l < l.length), z14 ⟨p, s, ⟨#[]⟩, 0, 0⟩ l = some l[low ⟨p, s, ⟨#[]⟩, 0, 0⟩ l]) := ya (by
  rw [zez _ l hs]
  by_cases h : low ⟨p, s, ⟨#[]⟩, 0, 0⟩ l < l.length
  ·rw [dif_pos h]
   by_cases hx : z25 l[low ⟨p, s, ⟨#[]⟩, 0, 0⟩ l] ⟨p, s, ⟨#[]⟩, 0, 0⟩
   ·rw [if_pos hx]; exact .inr ⟨h, rfl⟩
   ·rw [if_neg hx]; exact .inl rfl
  ·rw [dif_neg h]; exact .inl rfl)
 generalize low ⟨p, s, ⟨#[]⟩, 0, 0⟩ l = L at *
 generalize z14 ⟨p, s, ⟨#[]⟩, 0, 0⟩ l = F at *
 have hb0 := (Below.refl w.heap.size w).alloc (Nat.le_refl _) (.cells (z0f z4e) 44)
 have hz0 := Blk.new w 44 (z0f z4e)
 rcases HF.out with rfl | ⟨hL, rfl⟩
 ·go_enter Tryz.func129, Tryz.ntmps129
  go_wp2_with fail
  refine (HQ.out _ (hr.below hb0)).mono ?_
  rintro e w' ⟨rfl, hb1⟩
  have hz1 := hz0.below hb1
  have hb2 := yb hb0 hb1
  clear hz0 hb0
  go_wp2_with (refine zbr (k := z4e) rfl rfl rfl rfl hz1 ?_; intro w3 hbk3 hb3)
  refine z3d rfl rfl rfl hbk3 z6o z7v ⟨rfl, hb2.trans hb3⟩
 ·obtain ⟨ad, rfl, _⟩ := hr.elem hL
  have HE : Hid (∀ W', Below w.heap.size w W' → ∀ j u, (kv l[L])[j]? = some u → W'.cell? ((ad.add (L * 5)).add j) = some u) := ya (fun W' hb => by
   obtain ⟨ad', e', hc'⟩ := (hr.below hb).elem hL
   injection e' with e'
   subst e'
   exact hc')
  have hL2 : L < n := by have := HL.out; omega
  generalize l[L] = x at *
  go_enter Tryz.func129, Tryz.ntmps129
  go_wp2_with fail
  refine (HQ.out _ (hr.below hb0)).mono ?_
  rintro e w' ⟨rfl, hb1⟩
  have hz1 := hz0.below hb1
  have hb2 := yb hb0 hb1
  have hc := HE.out _ hb2
  clear hz0 hb0 HF
  go_wp2_with (first
   | (refine z2q (k := x) rfl rfl rfl hc ?_)
   | (refine zbr (k := x) rfl rfl rfl rfl hz1 ?_; intro w3 hbk3 hb3))
  refine z3d rfl rfl rfl hbk3 z6o z7v ⟨rfl, hb2.trans hb3⟩
abbrev z4w (k : Key) (e : Int) : Array Value := #[.int .i64 k.party, .int .i64 k.serial, .string k.secret, .int .i64 k.frm, .int .i64 k.til, .int .i64 e]
theorem zbs {w : World} {ops : Array Oper} {rest : List Oper} {o : Oper} {a : Act} {Q : Exit → Act → World → Prop} (hgd : o.guard = none) {x y : Operand} (ho : o.op = .store 170 x y) {g : Nat} (hx : a.eval x = .pointer (some ⟨g, 0, none⟩))
  {k k' : Key} {e e' : Int} (hy : a.eval y = .agg (z4w k e)) (hb : Blk w g 170 (z4w k' e'))
  (h : ∀ w', Blk w' g 170 (z4w k e) → Below g w w' → wpList Tryz.prog ops Q rest (a.put o.dst undef) w') : wpList Tryz.prog ops Q (o :: rest) a w :=
 z2f (o := 0) (vs := z4w k e) hgd ho hx hy hb (by simp) (by kernel_rfl) (by simp [z4w, Value.oneCell']) (h _ (hb.all (z4w k e) rfl) (z0v (Below.refl _ _) (Nat.le_refl _) 0 _))
theorem zh6 : (Tryz.prog.underlying 170).map z0b = some true := by kernel_rfl
theorem zlu : (Tryz.prog.info? 170).map (·.size) = some 6 := by kernel_rfl
theorem zil (z : Key) : ∀ (l : List Key) (k : Nat) (h : k < l.length), (∀ j (h' : j < l.length), j < k → ¬ z25 l[j] z) → z25 l[k] z → z14 z l = some l[k]
 | [], k, h, _, _ => by simp at h
 | x :: l, k, h, h0, hk => by
  cases k with
  | zero => simp only [List.getElem_cons_zero] at hk ⊢; unfold z14; rw [if_pos hk]
  | succ k =>
   have hx : ¬ z25 x z := h0 0 (by simp) (by omega)
   unfold z14
   rw [if_neg hx]
   exact zil z l k (by simpa using h) (fun j h' hj => h0 (j + 1) (by simpa using h') (by omega)) (by simpa using hk)
theorem zta (A : Option Addr) (n c : Nat) (l : List Key) (p s : Int) (w : World) (hn : n ≤ 100000) (hr : RdK w A n l) :
  Calls Tryz.prog 131 #[.slice A n c, .int .i64 p, .int .i64 s] w fun e w' => e = .returned (.agg (z4w (z7m (z14 ⟨p, s, ⟨#[]⟩, 0, 0⟩ l)) (z7k (z14 ⟨p, s, ⟨#[]⟩, 0, 0⟩ l) 5))) ∧ Below w.heap.size w w' := by
 have HL := ya hr.len
 have HA := ya (zil ⟨p, s, ⟨#[]⟩, 0, 0⟩ l)
 have HN := ya (zf0 ⟨p, s, ⟨#[]⟩, 0, 0⟩ l)
 generalize z14 ⟨p, s, ⟨#[]⟩, 0, 0⟩ l = F at *
 have hb0 := (Below.refl w.heap.size w).alloc (Nat.le_refl _) (.cells (z4w z4e 0) 170)
 have hz0 := Blk.new w 170 (z4w z4e 0)
 go_enter Tryz.func131, Tryz.ntmps131
 go_wp2_with fail
 go_loopw [7] (fun vj wr => ∃ k : Nat, k ≤ n ∧ vj = .int .i64 k ∧ Below w.heap.size w wr ∧ Blk wr w.heap.size 170 (z4w z4e 0) ∧ Hid (∀ j (h' : j < l.length), j < k → ¬ z25 l[j] ⟨p, s, ⟨#[]⟩, 0, 0⟩)) (fun vj _ => n - (intOf vj).toNat)
 case atStart => exact ⟨0, Nat.zero_le _, rfl, hb0, hz0, ya (fun _ _ h => by omega)⟩
 case round =>
  clear hb0 hz0
  obtain ⟨k, hk, rfl, hbw, hz, HP⟩ := hrel
  by_cases hlt : k < n
  ·obtain ⟨ad, rfl, hc⟩ := (hr.below hbw).elem (i := k) (by have := HL.out; omega)
   have HA1 := ya (HA.out k (by have := HL.out; omega) HP.out)
   have HPn : Hid (¬ z25 (l[k]'(by have := HL.out; omega)) ⟨p, s, ⟨#[]⟩, 0, 0⟩ → ∀ j (h' : j < l.length), j < k + 1 → ¬ z25 l[j] ⟨p, s, ⟨#[]⟩, 0, 0⟩) := ya (fun h0 j h' hj => by
    rcases Nat.lt_or_ge j k with h | h
    ·exact HP.out j h' h
    ·obtain rfl : j = k := by omega
     exact h0)
   clear HP
   generalize (l[k]'(by have := HL.out; omega)) = x at *
   have hc0 := hc 0 _ rfl
   have hc1 : wr.cell? ⟨(ad.add (k * 5)).block, (ad.add (k * 5)).off + 1, none⟩ = some (.int .i64 x.serial) := hc 1 _ rfl
   have HC := ya hc
   rw [Addr.add_zero'] at hc0
   clear hc
   unfold z25 at HA1 HPn
   simp only at HA1 HPn
   by_cases h1 : x.party = p
   ·by_cases h2 : x.serial = s
    ·obtain rfl := HA1.out ⟨h1, h2⟩
     have d1 : (x.party == p) = true := by simpa using h1
     have d2 : (x.serial == s) = true := by simpa using h2
     clear HA1 HPn HA HN h1 h2
     go_wp2_with (first
      | (refine z2q (k := x) rfl rfl rfl HC.out ?_)
      | (refine zbs (k := x) (e := 0) rfl rfl rfl rfl hz ?_; intro w3 hbk3 hb3))
     refine z02 rfl rfl rfl hbk3 zh6 zlu ⟨rfl, hbw.trans hb3⟩
    ·have d1 : (x.party == p) = true := by simpa using h1
     have d2 : (x.serial == s) = false := by simpa using h2
     have HNn := ya (HPn.out (fun h => h2 h.2))
     clear HA1 HPn HA h1 h2
     go_wp2_with fail
     exact ⟨⟨k + 1, by omega, by go_num, hbw, hz, HNn⟩, by simp [intOf]; omega⟩
   ·have d1 : (x.party == p) = false := by simpa using h1
    have HNn := ya (HPn.out (fun h => h1 h.1))
    clear HA1 HPn HA h1
    go_wp2_with fail
    exact ⟨⟨k + 1, by omega, by go_num, hbw, hz, HNn⟩, by simp [intOf]; omega⟩
  ·obtain rfl : k = n := by omega
   obtain rfl := HN.out (fun x hx => by
    obtain ⟨j, hj, rfl⟩ := List.mem_iff_getElem.1 hx
    exact HP.out j hj (by have := HL.out; omega))
   clear HP HA HN
   go_wp2_with (refine zbs (k := z4e) (e := 5) rfl rfl rfl rfl hz ?_; intro w3 hbk3 hb3)
   refine z02 rfl rfl rfl hbk3 zh6 zlu ⟨rfl, hbw.trans hb3⟩
end
section
open Go.RowKit Sha
theorem zl9 (tag : Int) (A : Option Addr) (n c : Nat) (l : List ByteArray) (w : World) (hn : n ≤ 100) (hs : ∀ s ∈ l, s.size ≤ 65536) (hr : Rd w A n (sv l)) (hRC : RCon w) :
  Calls Tryz.prog 102 #[.int .i64 tag, .slice A n c] w fun e w' => e = .returned (.agg (bv (z0y (z0a tag l))).toArray) ∧ Below w.heap.size w w' := by
 have hl : l.length = n := by have := hr.len; simpa using this
 have hil := zb1 tag l 65536 hs
 have hil2 : (z0a tag l).length ≤ 20000000 := by
  have h2 : l.length * (10 + 65536) ≤ 100 * (10 + 65536) := Nat.mul_le_mul_right _ (by omega)
  omega
 have HIL := ya hil2
 have HQ := ya (fun (A : Option Addr) (n c : Nat) (W : World) (hn : n ≤ 268435456) (hr : Rd W A n (bv (z0a tag l))) (hR : RCon W) => zla A n c (z0a tag l) W hn hr hR)
 have hdl := z8c (z0a tag l)
 have HS := ya hs
 clear hl hil hil2 hs
 generalize z0y (z0a tag l) = D at *
 have hz16 := z8r
 go_enter Tryz.func102, Tryz.ntmps102
 go_wp2_with fail
 have h4 := Blk.new w 25 z0o
 have ba := (Below.refl w.heap.size w).alloc (Nat.le_refl _) (.cells z0o 25)
 refine (zl7 tag A n c l _ (by omega) (fun s hs => by have := HS.out s hs; omega) (hr.below ba)).mono ?_
 rintro e w1 ⟨v1, rfl, o1, hb1⟩
 obtain ⟨A1, n1, c1, rfl, hn1, _, _, r1⟩ := o1.formN
 replace h4 := h4.below hb1
 replace ba := ba.trans (hb1.mono ba.size)
 clear hb1 o1 hz16
 go_wp2_with fail
 refine (HQ.out A1 n1 c1 _ (by rw [hn1.out, z0m]; have := HIL.out; omega) r1 (hRC.below ba)).mono ?_
 rintro e w2 ⟨rfl, hb1⟩
 replace h4 := h4.below hb1
 replace ba := ba.trans (hb1.mono ba.size)
 have h160 : z0o.size = 16 := by simp [z0o]
 have hD : (bv D).toArray.size = 16 := by simp [hdl]
 have h5 := h4.all (bv D).toArray (by rw [hD, h160])
 have ba2 := z0v ba (g := w.heap.size) (Nat.le_refl _) 0 (bv D).toArray.toList
 dsimp only
 go_step
 refine z2f (g := w.heap.size) (o := 0) rfl rfl rfl rfl h4 (by rw [hD, h160]; decide) (by rw [hD]; kernel_rfl) (z6p _) ?_
 refine wpList_nil ?_
 have HD16 := ya hD
 clear hb1 h4 ba h160 hD hdl
 generalize w2.setCells w.heap.size 0 (bv D).toArray.toList = w9 at *
 simp only [Act.put]
 go_wp2
 refine z02 rfl rfl rfl h5 (by kernel_rfl) (by rw [HD16.out]; kernel_rfl) ⟨rfl, ba2⟩
end
section
open Go.RowKit Ring Sha
theorem zng (s : ByteArray) (W : World) : (Instr.buildSlice 103 1 #[(0, .string s)]).run Tryz.prog W = .ok (.slice (some ⟨W.heap.size, 0, none⟩) 1 1) (W.alloc (.cells #[.string s] 9)) := by kernel_rfl
theorem za6 {w : World} {ops : Array Oper} {rest : List Oper} {o : Oper} {a : Act} {Q : Exit → Act → World → Prop} (hgd : o.guard = none) {x : Operand} {s : ByteArray} (ho : o.op = .buildSlice 103 1 #[(0, x)]) (hx : a.eval x = .string s)
  (h : ∀ w' g, g = w.heap.size → w'.ownsRow w.heap.size 9 1 (.slice (some ⟨g, 0, none⟩) 1 1) 1 (sv [s]) → Rd w' (some ⟨g, 0, none⟩) 1 (sv [s]) → Below w.heap.size w w' → wpList Tryz.prog ops Q rest (a.put o.dst (.slice (some ⟨g, 0, none⟩) 1 1)) w') : wpList Tryz.prog ops Q (o :: rest) a w := by
 refine wpList_plain hgd fun K hK => ?_
 have h2 := h _ _ rfl ⟨rfl, .inr ⟨w.heap.size, 1, #[.string s], rfl, Nat.le_refl _, heap_alloc_new w _, Nat.le_refl _, by simp [maxLen], rfl, rfl⟩⟩ (zd8 w (sv [s]) 9) ((Below.refl _ _).alloc (Nat.le_refl _) _)
 unfold Oper.wp execOp
 simp only [ho, List.map_toArray, List.map_cons, List.map_nil, hx, zng, Sem.run_bind, Result.andThen_ok, Sem.run_pure]
 exact hK _ _ h2
theorem znl (A B C : Option Addr) (a b c a' b' c' : Nat) (W : World) : (Instr.buildSlice 197 3 #[(0, .slice A a a'), (1, .slice B b b'), (2, .slice C c c')]).run Tryz.prog W = .ok (.slice (some ⟨W.heap.size, 0, none⟩) 3 3) (W.alloc (.cells #[.slice A a a', .slice B b b', .slice C c c'] 103)) := by kernel_rfl
theorem znj (A B : Option Addr) (a b a' b' : Nat) (W : World) : (Instr.buildSlice 197 2 #[(0, .slice A a a'), (1, .slice B b b')]).run Tryz.prog W = .ok (.slice (some ⟨W.heap.size, 0, none⟩) 2 2) (W.alloc (.cells #[.slice A a a', .slice B b b'] 103)) := by kernel_rfl
theorem zsr {w : World} {A B C : Option Addr} {a b c a' b' c' : Nat} {x y z : List ByteArray} (h1 : Rd w A a (sv x)) (h2 : Rd w B b (sv y)) (h3 : Rd w C c (sv z)) :
  z7c (w.alloc (.cells #[.slice A a a', .slice B b b', .slice C c c'] 103)) (some ⟨w.heap.size, 0, none⟩) 3 [x, y, z] := by
 have hb := (Below.refl w.heap.size w).alloc (Nat.le_refl _) (.cells #[.slice A a a', .slice B b b', .slice C c c'] 103)
 have hR := zd8 w [.slice A a a', .slice B b b', .slice C c c'] 103
 have l1 : x.length = a := by have := h1.len; simpa using this
 have l2 : y.length = b := by have := h2.len; simpa using this
 have l3 : z.length = c := by have := h3.len; simpa using this
 subst l1 l2 l3
 refine ⟨rfl, fun i hi => ?_⟩
 match i, hi with
 | 0, _ => obtain ⟨ad, e, hc⟩ := hR.at_ 0 _ rfl; exact ⟨ad, A, a', e, hc, h1.below hb⟩
 | 1, _ => obtain ⟨ad, e, hc⟩ := hR.at_ 1 _ rfl; exact ⟨ad, B, b', e, hc, h2.below hb⟩
 | 2, _ => obtain ⟨ad, e, hc⟩ := hR.at_ 2 _ rfl; exact ⟨ad, C, c', e, hc, h3.below hb⟩
theorem zsq {w : World} {A B : Option Addr} {a b a' b' : Nat} {x y : List ByteArray} (h1 : Rd w A a (sv x)) (h2 : Rd w B b (sv y)) :
  z7c (w.alloc (.cells #[.slice A a a', .slice B b b'] 103)) (some ⟨w.heap.size, 0, none⟩) 2 [x, y] := by
 have hb := (Below.refl w.heap.size w).alloc (Nat.le_refl _) (.cells #[.slice A a a', .slice B b b'] 103)
 have hR := zd8 w [.slice A a a', .slice B b b'] 103
 have l1 : x.length = a := by have := h1.len; simpa using this
 have l2 : y.length = b := by have := h2.len; simpa using this
 subst l1 l2
 refine ⟨rfl, fun i hi => ?_⟩
 match i, hi with
 | 0, _ => obtain ⟨ad, e, hc⟩ := hR.at_ 0 _ rfl; exact ⟨ad, A, a', e, hc, h1.below hb⟩
 | 1, _ => obtain ⟨ad, e, hc⟩ := hR.at_ 1 _ rfl; exact ⟨ad, B, b', e, hc, h2.below hb⟩
theorem zww {w : World} {ops : Array Oper} {rest : List Oper} {o : Oper} {a : Act} {Q : Exit → Act → World → Prop} (hgd : o.guard = none) {x y z : Operand} {A B C : Option Addr} {k m n k' m' n' : Nat} {xs ys zs : List ByteArray} (ho : o.op = .buildSlice 197 3 #[(0, x), (1, y), (2, z)])
  (hx : a.eval x = .slice A k k') (hy : a.eval y = .slice B m m') (hz : a.eval z = .slice C n n') (h1 : Rd w A k (sv xs)) (h2 : Rd w B m (sv ys)) (h3 : Rd w C n (sv zs))
  (h : ∀ w' g, z7c w' (some ⟨g, 0, none⟩) 3 [xs, ys, zs] → Below w.heap.size w w' → wpList Tryz.prog ops Q rest (a.put o.dst (.slice (some ⟨g, 0, none⟩) 3 3)) w') : wpList Tryz.prog ops Q (o :: rest) a w := by
 refine wpList_plain hgd fun K hK => ?_
 have h2 := h _ _ (zsr (a' := k') (b' := m') (c' := n') h1 h2 h3) ((Below.refl _ _).alloc (Nat.le_refl _) _)
 unfold Oper.wp execOp
 simp only [ho, List.map_toArray, List.map_cons, List.map_nil, hx, hy, hz, znl, Sem.run_bind, Result.andThen_ok, Sem.run_pure]
 exact hK _ _ h2
theorem zwv {w : World} {ops : Array Oper} {rest : List Oper} {o : Oper} {a : Act} {Q : Exit → Act → World → Prop} (hgd : o.guard = none) {x y : Operand} {A B : Option Addr} {k m k' m' : Nat} {xs ys : List ByteArray} (ho : o.op = .buildSlice 197 2 #[(0, x), (1, y)])
  (hx : a.eval x = .slice A k k') (hy : a.eval y = .slice B m m') (h1 : Rd w A k (sv xs)) (h2 : Rd w B m (sv ys))
  (h : ∀ w' g, z7c w' (some ⟨g, 0, none⟩) 2 [xs, ys] → Below w.heap.size w w' → wpList Tryz.prog ops Q rest (a.put o.dst (.slice (some ⟨g, 0, none⟩) 2 2)) w') : wpList Tryz.prog ops Q (o :: rest) a w := by
 refine wpList_plain hgd fun K hK => ?_
 have h2 := h _ _ (zsq (a' := k') (b' := m') h1 h2) ((Below.refl _ _).alloc (Nat.le_refl _) _)
 unfold Oper.wp execOp
 simp only [ho, List.map_toArray, List.map_cons, List.map_nil, hx, hy, znj, Sem.run_bind, Result.andThen_ok, Sem.run_pure]
 exact hK _ _ h2
def z6z (s : ByteArray) (tag : Int) (l : List ByteArray) : Array Value := (bv (z0y (z0a tag ([s] ++ l ++ [s])))).toArray
def z6r (s : ByteArray) (l : List ByteArray) : Array Value := (bv (z0y (z0a 121 (s :: l)))).toArray
theorem zly (s : ByteArray) (tag : Int) (l : List ByteArray) : (z6z s tag l).size = 16 := by simp [z6z, z8c]
theorem zlw (s : ByteArray) (l : List ByteArray) : (z6r s l).size = 16 := by simp [z6r, z8c]
theorem zk0 (s : ByteArray) (tag : Int) (l : List ByteArray) : (z6z s tag l).all (·.oneCell') = true := z6p _
theorem zjw (s : ByteArray) (l : List ByteArray) : (z6r s l).all (·.oneCell') = true := z6p _
theorem zmn (W : World) : (zeroValue 49).run Tryz.prog W = .ok (.agg z0o) W := by kernel_rfl
theorem zc2 : (Tryz.prog.underlying 49).map z0b = some true := by kernel_rfl
theorem zbi : (Tryz.prog.info? 49).map (·.size) = some 16 := by kernel_rfl
theorem zh5 : (Tryz.prog.underlying 25).map z0b = some true := by kernel_rfl
theorem zjk (k : Key) (tag : Int) (A : Option Addr) (n c : Nat) (l : List ByteArray) (w : World) (hn : n ≤ 100) (hs : ∀ s ∈ l, s.size ≤ 65536) (hks : k.secret.size ≤ 65536) (hr : Rd w A n (sv l)) (hg : GCon w) :
  Calls Tryz.prog 75 #[z10 k, .int .i64 tag, .slice A n c] w fun e w' => e = .returned (.agg (z6z k.secret tag l)) ∧ Below w.heap.size w w' := by
 have HL := ya (show l.length = n by have := hr.len; simpa using this)
 have HO : Hid (∀ (A : Option Addr) (m c : Nat) (W : World), m = n + 2 → Rd W A m (sv ([k.secret] ++ l ++ [k.secret])) → GCon W → Calls Tryz.prog 98 #[.int .i64 tag, .slice A m c] W fun e w' => e = .returned (.agg (z6z k.secret tag l)) ∧ Below W.heap.size W w') :=
  ya (fun A m c W hm hr hg => zb6 tag A m c _ W (by omega) (by
   intro s hs'
   simp only [List.mem_append, List.mem_singleton] at hs'
   rcases hs' with (rfl | h) | rfl
   ·exact hks
   ·exact hs s h
   ·exact hks) hr hg)
 have HSZ := ya (zly k.secret tag l)
 have HONE := ya (zk0 k.secret tag l)
 generalize z6z k.secret tag l = S at *
 have h16 : z0o.size = 16 := by simp [z0o]
 have H16 := ya h16
 clear h16
 have hz := zmn
 go_enter Tryz.func75, Tryz.ntmps75
 have hb0 := ((Below.refl w.heap.size w).alloc (Nat.le_refl _) (.cells (z0f k) 44)).alloc (by simp) (.cells z0o 49)
 have q6 := Blk.new2 w 49 z0o (.cells (z0f k) 44)
 have q3 := (Blk.new w 44 (z0f k)).alloc (.cells z0o 49)
 have q32 := q3.cell 2
 simp only [List.getElem?_toArray, List.getElem?_cons_zero, List.getElem?_cons_succ] at q32
 go_wp2_with (first
  | (refine za6 (x := .tmp 9) rfl rfl rfl ?_; intro w1 g1 hg1 how1 hrd1 hb1; clear hg1 how1; have q32b := cell_later hb1 q32)
  | (refine za6 (x := .tmp 13) rfl rfl rfl ?_; intro w2 g2 hg2 how2 hrd2 hb2; clear hg2 how2)
  | (refine zww rfl rfl rfl rfl rfl (hrd1.below hb2) ((hr.below hb0).below (yb hb1 hb2)) hrd2 ?_; intro w3 g3 hss hb3))
 have hbA := yb hb1 (yb hb2 hb3)
 replace q6 := q6.below hbA
 have hbB := yb hb0 hbA
 clear hb1 hb2 hb3 hrd1 hrd2 q32 q32b q3 hz
 refine (zhy _ 3 3 _ _ (by omega) hss (by
  intro x hx
  simp only [List.mem_cons, List.not_mem_nil, or_false] at hx
  rcases hx with rfl | rfl | rfl
  ·simp
  ·have := HL.out; omega
  ·simp) (by simp)).mono ?_
 rintro e w4 ⟨v, rfl, hown, hb4⟩
 obtain ⟨A4, m4, c4, rfl, hm4, _, _, hr4⟩ := hown.formN
 replace q6 := q6.below hb4
 have hbC := yb hbB hb4
 have HM4 := ya hm4.out
 go_wp2_with fail
 refine (HO.out A4 m4 c4 _ (by rw [HM4.out]; have := HL.out; simp; omega) (by simpa using hr4) (hg.below hbC)).mono ?_
 rintro e w5 ⟨rfl, hb5⟩
 replace q6 := q6.below hb5
 have hbD := yb hbC hb5
 have hlt6 := q6.lt
 go_wp2_with (refine z2f (g := w.heap.size + 1) (o := 0) (vs := S) rfl rfl rfl rfl q6 (by rw [HSZ.out, H16.out]; decide) (by rw [HSZ.out]; kernel_rfl) HONE.out ?_)
 have hbk := q6.all S (by rw [HSZ.out, H16.out])
 exact z02 rfl rfl rfl hbk zc2 (by rw [HSZ.out]; kernel_rfl) ⟨rfl, z0v hbD (by omega) 0 S.toList⟩
theorem zn2 (s : ByteArray) (A : Option Addr) (n c : Nat) (l : List ByteArray) (w : World) (hn : n ≤ 100) (hs : ∀ s ∈ l, s.size ≤ 65536) (hks : s.size ≤ 65536) (hr : Rd w A n (sv l)) (hg : GCon w) :
  Calls Tryz.prog 50 #[.string s, .slice A n c] w fun e w' => e = .returned (.agg (z6r s l)) ∧ Below w.heap.size w w' := by
 have HL := ya (show l.length = n by have := hr.len; simpa using this)
 have HO : Hid (∀ (A : Option Addr) (m c : Nat) (W : World), m = n + 1 → Rd W A m (sv (s :: l)) → GCon W → Calls Tryz.prog 98 #[.int .i64 121, .slice A m c] W fun e w' => e = .returned (.agg (z6r s l)) ∧ Below W.heap.size W w') :=
  ya (fun A m c W hm hr hg => zb6 121 A m c _ W (by omega) (by
   intro s hs'
   simp only [List.mem_cons] at hs'
   rcases hs' with rfl | h
   ·exact hks
   ·exact hs s h) hr hg)
 have HSZ := ya (zlw s l)
 have HONE := ya (zjw s l)
 generalize z6r s l = S at *
 have H16 := ya (show z0o.size = 16 by simp [z0o])
 have hz := z8r
 go_enter Tryz.func50, Tryz.ntmps50
 have hb0 := (Below.refl w.heap.size w).alloc (Nat.le_refl _) (.cells z0o 25)
 have q4 := Blk.new w 25 z0o
 go_wp2_with (first
  | (refine za6 (x := .tmp 5) rfl rfl rfl ?_; intro w1 g1 hg1 how1 hrd1 hb1; clear hg1 how1)
  | (refine zwv rfl rfl rfl rfl hrd1 ((hr.below hb0).below hb1) ?_; intro w3 g3 hss hb3))
 have hbA := yb hb1 hb3
 replace q4 := q4.below hbA
 have hbB := yb hb0 hbA
 clear hb1 hb3 hrd1 hz
 refine (zhy _ 2 2 _ _ (by omega) hss (by
  intro x hx
  simp only [List.mem_cons, List.not_mem_nil, or_false] at hx
  rcases hx with rfl | rfl
  ·simp
  ·have := HL.out; omega) (by simp)).mono ?_
 rintro e w4 ⟨v, rfl, hown, hb4⟩
 obtain ⟨A4, m4, c4, rfl, hm4, _, _, hr4⟩ := hown.formN
 replace q4 := q4.below hb4
 have hbC := yb hbB hb4
 have HM4 := ya hm4.out
 go_wp2_with fail
 refine (HO.out A4 m4 c4 _ (by rw [HM4.out]; have := HL.out; simp; omega) (by simpa using hr4) (hg.below hbC)).mono ?_
 rintro e w5 ⟨rfl, hb5⟩
 replace q4 := q4.below hb5
 have hbD := yb hbC hb5
 have hlt4 := q4.lt
 go_wp2_with (refine z2f (g := w.heap.size) (o := 0) (vs := S) rfl rfl rfl rfl q4 (by rw [HSZ.out, H16.out]; decide) (by rw [HSZ.out]; kernel_rfl) HONE.out ?_)
 have hbk := q4.all S (by rw [HSZ.out, H16.out])
 exact z02 rfl rfl rfl hbk zh5 (by rw [HSZ.out]; kernel_rfl) ⟨rfl, z0v hbD (by omega) 0 S.toList⟩
theorem zl8 (k : Key) (tag : Int) (A : Option Addr) (n c : Nat) (l : List ByteArray) (w : World) (hn : n ≤ 10) (hs : ∀ s ∈ l, s.size ≤ 65536) (hks : k.secret.size ≤ 65536) (hr : Rd w A n (sv l)) (hg : RCon w) :
  Calls Tryz.prog 80 #[z10 k, .int .i64 tag, .slice A n c] w fun e w' => e = .returned (.agg (z6z k.secret tag l)) ∧ Below w.heap.size w w' := by
 have HL := ya (show l.length = n by have := hr.len; simpa using this)
 have HO : Hid (∀ (A : Option Addr) (m c : Nat) (W : World), m = n + 2 → Rd W A m (sv ([k.secret] ++ l ++ [k.secret])) → RCon W → Calls Tryz.prog 102 #[.int .i64 tag, .slice A m c] W fun e w' => e = .returned (.agg (z6z k.secret tag l)) ∧ Below W.heap.size W w') :=
  ya (fun A m c W hm hr hg => zl9 tag A m c _ W (by omega) (by
   intro s hs'
   simp only [List.mem_append, List.mem_singleton] at hs'
   rcases hs' with (rfl | h) | rfl
   ·exact hks
   ·exact hs s h
   ·exact hks) hr hg)
 have HSZ := ya (zly k.secret tag l)
 have HONE := ya (zk0 k.secret tag l)
 generalize z6z k.secret tag l = S at *
 have H16 := ya (show z0o.size = 16 by simp [z0o])
 have hz := zmn
 go_enter Tryz.func80, Tryz.ntmps80
 have hb0 := ((Below.refl w.heap.size w).alloc (Nat.le_refl _) (.cells (z0f k) 44)).alloc (by simp) (.cells z0o 49)
 have q6 := Blk.new2 w 49 z0o (.cells (z0f k) 44)
 have q3 := (Blk.new w 44 (z0f k)).alloc (.cells z0o 49)
 have q32 := q3.cell 2
 simp only [List.getElem?_toArray, List.getElem?_cons_zero, List.getElem?_cons_succ] at q32
 go_upto_region 2 with (first
  | (refine za6 (x := .tmp 9) rfl rfl rfl ?_; intro w1 g1 hg1 how1 hrd1 hb1; clear hg1; have how1' : Own w1 ((w.alloc (.cells (z0f k) 44)).alloc (.cells z0o 49)).heap.size 9 (.slice (some ⟨g1, 0, none⟩) 1 1) (sv [k.secret]) := how1; clear how1; have q32b := cell_later hb1 q32)
  | (at_builtin; refine z20 rfl rfl z7j rfl how1' rfl ((hr.below hb0).below hb1) (zcz _) (by rw [z49, List.length_singleton]; omega) hb1.size ?_; intro v2 w2 how2 _ hb2 _))
 have hbA : Below w.heap.size w w2 := (hb0.trans (hb1.mono hb0.size)).trans (hb2.mono hb0.size)
 replace q6 := (q6.below hb1).below' hb2 (by simp)
 have q32c : w2.cell? ⟨w.heap.size, 2, none⟩ = some (.string k.secret) := (hb2.cell (p := ⟨w.heap.size, 2, none⟩) (by simp; omega)).trans q32b
 have hB2 := hb2.size
 go_wp2_with (first
  | (refine za6 (x := .tmp 15) rfl rfl rfl ?_; intro w3 g3 hg3 how3 hrd3 hb3; clear hg3 how3)
  | (at_builtin; refine z20 rfl rfl z7j rfl (how2.below hb3) rfl hrd3 (zcz _) (by rw [List.length_append, z49, z49, List.length_singleton]; have := HL.out; omega) (Nat.le_trans hb1.size (Nat.le_trans hB2 hb3.size)) ?_; intro v4 w4 how4 _ hb4 _))
 have hbB : Below w.heap.size w w4 := hbA.trans ((hb3.mono hbA.size).trans (hb4.mono hb0.size))
 replace q6 := (q6.below hb3).below' hb4 (by simp)
 rw [← zdp, ← zdp] at how4
 obtain ⟨A4, m4, c4, rfl, hm4, _, _, hr4⟩ := how4.formN
 have HM4 := ya hm4.out
 go_wp2_with fail
 refine (HO.out A4 m4 c4 _ (by rw [HM4.out]; have := HL.out; simp; omega) hr4 (hg.below hbB)).mono ?_
 rintro e w5 ⟨rfl, hb5⟩
 replace q6 := q6.below hb5
 have hbD := yb hbB hb5
 have hlt6 := q6.lt
 go_wp2_with (refine z2f (g := w.heap.size + 1) (o := 0) (vs := S) rfl rfl rfl rfl q6 (by rw [HSZ.out, H16.out]; decide) (by rw [HSZ.out]; kernel_rfl) HONE.out ?_)
 have hbk := q6.all S (by rw [HSZ.out, H16.out])
 exact z02 rfl rfl rfl hbk zc2 (by rw [HSZ.out]; kernel_rfl) ⟨rfl, z0v hbD (by omega) 0 S.toList⟩
theorem zst (s : ByteArray) (A : Option Addr) (n c : Nat) (l : List ByteArray) (w : World) (hn : n ≤ 10) (hs : ∀ s ∈ l, s.size ≤ 65536) (hks : s.size ≤ 65536) (hr : Rd w A n (sv l)) (hg : RCon w) :
  Calls Tryz.prog 52 #[.string s, .slice A n c] w fun e w' => e = .returned (.agg (z6r s l)) ∧ Below w.heap.size w w' := by
 have HL := ya (show l.length = n by have := hr.len; simpa using this)
 have HO : Hid (∀ (A : Option Addr) (m c : Nat) (W : World), m = n + 1 → Rd W A m (sv (s :: l)) → RCon W → Calls Tryz.prog 102 #[.int .i64 121, .slice A m c] W fun e w' => e = .returned (.agg (z6r s l)) ∧ Below W.heap.size W w') :=
  ya (fun A m c W hm hr hg => zl9 121 A m c _ W (by omega) (by
   intro s hs'
   simp only [List.mem_cons] at hs'
   rcases hs' with rfl | h
   ·exact hks
   ·exact hs s h) hr hg)
 have HSZ := ya (zlw s l)
 have HONE := ya (zjw s l)
 generalize z6r s l = S at *
 have H16 := ya (show z0o.size = 16 by simp [z0o])
 have hz := z8r
 go_enter Tryz.func52, Tryz.ntmps52
 have hb0 := (Below.refl w.heap.size w).alloc (Nat.le_refl _) (.cells z0o 25)
 have q4 := Blk.new w 25 z0o
 go_wp2_with (first
  | (refine za6 (x := .tmp 5) rfl rfl rfl ?_; intro w1 g1 hg1 how1 hrd1 hb1; clear hg1; have how1' : Own w1 (w.alloc (.cells z0o 25)).heap.size 9 (.slice (some ⟨g1, 0, none⟩) 1 1) (sv [s]) := how1; clear how1)
  | (at_builtin; refine z20 rfl rfl z7j rfl how1' rfl ((hr.below hb0).below hb1) (zcz _) (by rw [z49, List.length_singleton]; omega) hb1.size ?_; intro v2 w2 how2 _ hb2 _))
 have hbB : Below w.heap.size w w2 := (hb0.trans (hb1.mono hb0.size)).trans (hb2.mono hb0.size)
 replace q4 := (q4.below hb1).below' hb2 (by simp)
 rw [← zdp] at how2
 obtain ⟨A4, m4, c4, rfl, hm4, _, _, hr4⟩ := how2.formN
 have HM4 := ya hm4.out
 refine (HO.out A4 m4 c4 _ (by rw [HM4.out]; have := HL.out; simp; omega) hr4 (hg.below hbB)).mono ?_
 rintro e w5 ⟨rfl, hb5⟩
 replace q4 := q4.below hb5
 have hbD := yb hbB hb5
 have hlt4 := q4.lt
 go_wp2_with (refine z2f (g := w.heap.size) (o := 0) (vs := S) rfl rfl rfl rfl q4 (by rw [HSZ.out, H16.out]; decide) (by rw [HSZ.out]; kernel_rfl) HONE.out ?_)
 have hbk := q4.all S (by rw [HSZ.out, H16.out])
 exact z02 rfl rfl rfl hbk zh5 (by rw [HSZ.out]; kernel_rfl) ⟨rfl, z0v hbD (by omega) 0 S.toList⟩
theorem zjo (a b : List UInt8) (ha : a.length = 16) (hb : b.length = 16) (w : World) : (binOp .neq 49 (.agg (bv a).toArray) (.agg (bv b).toArray)).run Tryz.prog w = .ok (.bool (!decide (a = b))) w := by
 obtain ⟨i, h1, h2, h3, h4⟩ := info_parts (show (Tryz.prog.info? 5).map (fun i => (i.zero, i.size, i.bytes)) = some (some (.int .u8 0), 1, 1) by kernel_rfl)
 exact zlj (e := 5) (by kernel_rfl) h1 (by kernel_rfl) (by kernel_rfl) a b ha hb w
def z4a (s : ByteArray) (tag : Int) (l : List ByteArray) : List UInt8 := z0y (z0a tag ([s] ++ l ++ [s]))
theorem zfg (s : ByteArray) (tag : Int) (l : List ByteArray) : (z4a s tag l).length = 16 := z8c _
theorem zgq {P : Program} {w : World} {ops : Array Oper} {rest : List Oper} {o : Oper} {a : Act} {Q : Exit → Act → World → Prop} {e : TypeId} {z : Array Value} (hgd : o.guard = none) (ho : o.op = .alloc e) (hz : (zeroValue e).run P w = .ok (.agg z) w)
  (h : ∀ w' g, g = w.heap.size → Blk w' g e z → Below w.heap.size w w' → g < w'.heap.size → wpList P ops Q rest (a.put o.dst (.pointer (some ⟨g, 0, none⟩))) w') : wpList P ops Q (o :: rest) a w :=
 wpList_plain hgd fun _ hK => z7y (z := .agg z) ho hz (hK _ _ (h _ _ rfl (Blk.new _ _ _) ((Below.refl _ _).alloc (Nat.le_refl _) _) (Blk.new _ _ _).lt))
theorem zh1 (w : World) : (zeroValue 170).run Tryz.prog w = .ok (.agg (z4w z4e 0)) w := by kernel_rfl
theorem zfi {w : World} {g : Nat} {k : Key} {e : Int} (h : Blk w g 170 (z4w k e)) : ∀ j u, (kv k)[j]? = some u → w.cell? ((⟨g, 0, none⟩ : Addr).add j) = some u := by
 intro j u hj
 have e1 : (⟨g, 0, none⟩ : Addr).add j = ⟨g, j, none⟩ := by unfold Addr.add; split <;> simp_all
 rw [e1, h.cell j]
 match j, hj with
 | 0, hj => exact hj
 | 1, hj => exact hj
 | 2, hj => exact hj
 | 3, hj => exact hj
 | 4, hj => exact hj
abbrev z4r (p s : Int) : Key := ⟨p, s, ⟨#[]⟩, 0, 0⟩
def z92 (p s tag : Int) (parts : List ByteArray) (S : List UInt8) (day : Int) (l : List Key) : Int := match z14 (z4r p s) l with
 | none => 5
 | some k => if z45 k day then (if z4a k.secret tag parts = S then 0 else 8) else 9
theorem zof (A : Option Addr) (n c : Nat) (l : List Key) (p s tag : Int) (B : Option Addr) (m d : Nat) (parts : List ByteArray) (S : List UInt8) (day : Int) (w : World) (hn : n ≤ 1000) (hr : RdK w A n l) (hs : z3h l) (hv : ∀ k ∈ l, z26 k = true)
  (hm : m ≤ 100) (hp : ∀ s ∈ parts, s.size ≤ 65536) (hrp : Rd w B m (sv parts)) (hS : S.length = 16) (hg : GCon w) :
  Calls Tryz.prog 92 #[.slice A n c, .int .i64 p, .int .i64 s, .int .i64 tag, .slice B m d, .agg (bv S).toArray, .int .i64 day] w fun e w' => e = .returned (.int .i64 (z92 p s tag parts S day l)) ∧ Below w.heap.size w w' := by
 have HF := ya (fun W hr => zq4 A n c l p s W (by omega) hr hs)
 have HV : Hid (∀ k, z14 (z4r p s) l = some k → (0 < k.til ∧ k.til ≤ 1048577) ∧ k.secret.size ≤ 64) := ya (fun k hf => by
  have := (zm6 k).1 (hv k (zf1 _ l k hf).2)
  unfold zgm at this
  omega)
 unfold z92
 change Hid (∀ W, RdK W A n l → Calls _ _ _ W fun e w' => e = .returned (.tuple #[z10 (z7m (z14 (z4r p s) l)), .int .i64 (z7k (z14 (z4r p s) l) 5)]) ∧ Below W.heap.size W w') at HF
 generalize z14 (z4r p s) l = F at *
 have HD := ya (show (bv S).toArray.size = 16 by simp [hS])
 have hb0 := (Below.refl w.heap.size w).alloc (Nat.le_refl _) (.cells (bv S).toArray 49)
 have q12 := Blk.new w 49 (bv S).toArray
 cases F with
 | none =>
  dsimp only
  go_enter Tryz.func92, Tryz.ntmps92
  go_wp2_with fail
  refine (HF.out _ (hr.below hb0)).mono ?_
  rintro e w1 ⟨rfl, hb1⟩
  simp only [z7m, z7k, Option.getD_none, Option.isSome_none, Bool.false_eq_true, if_false]
  go_wp2_with (first
   | (refine zgp rfl rfl ?_; intro w2 g2 hg2 hbk hb2 hlt2; have Hg2 := ya hg2; clear hg2)
   | (refine zbr (k := z4e) rfl rfl rfl rfl hbk ?_; intro w3 hbk3 hb3))
  go_ret
  exact ⟨rfl, (yb hb0 hb1).trans ((hb2.mono (by have := hb0.size; have := hb1.size; omega)).trans (hb3.mono (by have := Hg2.out; have := hb0.size; have := hb1.size; omega)))⟩
 | some k =>
  dsimp only
  obtain ⟨⟨ht1, ht2⟩, hsec⟩ := HV.out k rfl
  have HC := ya (fun W => zp7 k day W ht1 ht2)
  have HM : Hid (∀ W, Rd W B m (sv parts) → GCon W → Calls Tryz.prog 75 #[z10 k, .int .i64 tag, .slice B m d] W fun e w' => e = .returned (.agg (bv (z4a k.secret tag parts)).toArray) ∧ Below W.heap.size W w') := ya (fun W hr hg => zjk k tag B m d parts W hm hp (by omega) hr hg)
  have HLs := ya (zfg k.secret tag parts)
  have hneq : ∀ W, (binOp .neq 49 (.agg (bv (z4a k.secret tag parts)).toArray) (.agg (bv S).toArray)).run Tryz.prog W = .ok (.bool (!decide (z4a k.secret tag parts = S))) W := fun W => zjo _ S HLs.out hS W
  have hdec : (if z4a k.secret tag parts = S then (0 : Int) else 8) = if decide (z4a k.secret tag parts = S) = true then 0 else 8 := by simp
  rw [hdec]
  clear hdec HLs HV
  generalize z4a k.secret tag parts = T at *
  generalize decide (T = S) = E at *
  generalize z45 k day = C at *
  simp only [z7m, z7k, Option.getD_some, Option.isSome_some, if_true] at HF
  clear hS
  cases C
  ·simp only [Bool.false_eq_true, if_false]
   go_enter Tryz.func92, Tryz.ntmps92
   go_wp2_with fail
   refine (HF.out _ (hr.below hb0)).mono ?_
   rintro e w1 ⟨rfl, hb1⟩
   go_wp2_with (first
    | (refine zgp rfl rfl ?_; intro w2 g2 hg2 hbk hb2 hlt2; have Hg2 := ya hg2; clear hg2)
    | (refine zbr (k := k) rfl rfl rfl rfl hbk ?_; intro w3 hbk3 hb3)
    | (refine z12 rfl rfl rfl hbk3 z6o z7v ?_))
   refine (HC.out _).mono ?_
   rintro e w4 ⟨rfl, hb4⟩
   have hbX : Below w.heap.size w w3 := (yb hb0 hb1).trans ((hb2.mono (by have := hb0.size; have := hb1.size; omega)).trans (hb3.mono (by have := Hg2.out; have := hb0.size; have := hb1.size; omega)))
   go_wp2
   go_ret
   exact ⟨rfl, yb hbX hb4⟩
  ·simp only [if_true]
   have q12' := q12
   go_enter Tryz.func92, Tryz.ntmps92
   go_wp2_with fail
   refine (HF.out _ (hr.below hb0)).mono ?_
   rintro e w1 ⟨rfl, hb1⟩
   replace q12 := q12.below hb1
   go_wp2_with (first
    | (refine zgp rfl rfl ?_; intro w2 g2 hg2 hbk hb2 hlt2; have Hg2 := ya hg2; clear hg2)
    | (refine zbr (k := k) rfl rfl rfl rfl hbk ?_; intro w3 hbk3 hb3)
    | (refine z12 rfl rfl rfl hbk3 z6o z7v ?_))
   refine (HC.out _).mono ?_
   rintro e w4 ⟨rfl, hb4⟩
   have hbY : Below w1.heap.size w1 w3 := hb2.trans (hb3.mono (by have := Hg2.out; omega))
   have hbX : Below w.heap.size w w3 := yb (yb hb0 hb1) hbY
   replace q12 := (q12.below hbY).below hb4
   have q15 := hbk3.below hb4
   have hbZ := yb hbX hb4
   have hrZ := hrp.below hbZ
   have hgZ := hg.below hbZ
   clear hb4 hbX hbY hb3 hb2 hbk hbk3 q12'
   go_wp2_with fail
   have hS0 : Below w4.heap.size w4 w4.drew := (Below.refl _ w4).drew
   refine yq 7 (by kernel_rfl) ?_
   refine WpT.tl 0 rfl (z5l rfl rfl rfl (by kernel_rfl) (by kernel_rfl) q15) ((Below.refl _ _).drew) ?_
   simp only [nrm]
   refine WpT.tk 1 ((Below.refl _ _).drew) ?_
   simp only [nrm]
   refine WpT.tk 2 ((Below.refl _ _).drew) ?_
   simp only [nrm]
   refine WpT.tl 4 rfl (z5l rfl rfl rfl (by kernel_rfl) (by rw [HD.out]; kernel_rfl) q12) ((Below.refl _ _).drew) ?_
   simp only [nrm]
   refine WpT.on 3 rfl (fun K hK => ?_)
   go_simp; refine (HM.out _ (hrZ.below hS0) (hgZ.below hS0)).mono ?_; rintro e w5 ⟨rfl, hb5⟩; have hS5 := yb hS0 hb5
   refine hK _ _ hS5 ?_; clear hK K; try simp only [nrm]
   refine WpT.tk 5 hS5 ?_
   simp only [nrm]
   refine WpT.on 6 rfl (fun K hK => ?_)
   go_simp; (try go_bits)
   refine hK _ _ hS5 ?_; clear hK K; try simp only [nrm]
   refine WpT.done (by kernel_rfl) ?_ _
   cases E
   ·go_wp2_with fail
    go_ret
    exact ⟨rfl, yb hbZ hS5⟩
   ·go_wp2_with fail
    go_ret
    exact ⟨rfl, yb hbZ hS5⟩
theorem zsu (A : Option Addr) (n c : Nat) (l : List Key) (p s tag : Int) (B : Option Addr) (m d : Nat) (parts : List ByteArray) (S : List UInt8) (day : Int) (w : World) (hn : n ≤ 1000) (hr : RdK w A n l) (hv : ∀ k ∈ l, z26 k = true)
  (hm : m ≤ 10) (hp : ∀ s ∈ parts, s.size ≤ 65536) (hrp : Rd w B m (sv parts)) (hS : S.length = 16) (hg : RCon w) :
  Calls Tryz.prog 93 #[.slice A n c, .int .i64 p, .int .i64 s, .int .i64 tag, .slice B m d, .agg (bv S).toArray, .int .i64 day] w fun e w' => e = .returned (.int .i64 (z92 p s tag parts S day l)) ∧ Below w.heap.size w w' := by
 have HF := ya (fun W hr => zta A n c l p s W (by omega) hr)
 have HV : Hid (∀ k, z14 (z4r p s) l = some k → k.secret.size ≤ 64) := ya (fun k hf => by
  have := (zm6 k).1 (hv k (zf1 _ l k hf).2)
  unfold zgm at this
  omega)
 unfold z92
 change Hid (∀ W, RdK W A n l → Calls _ _ _ W fun e w' => e = .returned (.agg (z4w (z7m (z14 (z4r p s) l)) (z7k (z14 (z4r p s) l) 5))) ∧ Below W.heap.size W w') at HF
 generalize z14 (z4r p s) l = F at *
 have HD := ya (show (bv S).toArray.size = 16 by simp [hS])
 have hb0 := (Below.refl w.heap.size w).alloc (Nat.le_refl _) (.cells (bv S).toArray 49)
 have q12 := Blk.new w 49 (bv S).toArray
 cases F with
 | none =>
  dsimp only
  simp only [z7m, z7k, Option.getD_none, Option.isSome_none, Bool.false_eq_true, if_false] at HF
  go_enter Tryz.func93, Tryz.ntmps93
  go_wp2_with fail
  refine (HF.out _ (hr.below hb0)).mono ?_
  rintro e w1 ⟨rfl, hb1⟩
  go_wp2_with (first
   | (refine zgq rfl rfl (zh1 _) ?_; intro w3 g3 hg3 hbk3 hb3 hlt3; have Hg3 := ya hg3; clear hg3)
   | (refine zbs (k := z4e) (e := 5) rfl rfl rfl rfl hbk3 ?_; intro w4 hbk4 hb4; have q5 := hbk4.cell 5; simp only [List.getElem?_toArray, List.getElem?_cons_zero, List.getElem?_cons_succ] at q5))
  go_ret
  exact ⟨rfl, (yb hb0 hb1).trans ((hb3.mono (by have := hb0.size; have := hb1.size; omega)).trans (hb4.mono (by have := Hg3.out; have := hb0.size; have := hb1.size; omega)))⟩
 | some k =>
  dsimp only
  have hsec := HV.out k rfl
  have HC := ya (fun W => zsy k day W)
  have HM : Hid (∀ W, Rd W B m (sv parts) → RCon W → Calls Tryz.prog 80 #[z10 k, .int .i64 tag, .slice B m d] W fun e w' => e = .returned (.agg (bv (z4a k.secret tag parts)).toArray) ∧ Below W.heap.size W w') := ya (fun W hr hg => zl8 k tag B m d parts W hm hp (by omega) hr hg)
  have HLs := ya (zfg k.secret tag parts)
  have hneq : ∀ W, (binOp .neq 49 (.agg (bv (z4a k.secret tag parts)).toArray) (.agg (bv S).toArray)).run Tryz.prog W = .ok (.bool (!decide (z4a k.secret tag parts = S))) W := fun W => zjo _ S HLs.out hS W
  have hdec : (if z4a k.secret tag parts = S then (0 : Int) else 8) = if decide (z4a k.secret tag parts = S) = true then 0 else 8 := by simp
  rw [hdec]
  clear hdec HLs HV
  generalize z4a k.secret tag parts = T at *
  generalize decide (T = S) = E at *
  generalize z45 k day = C at *
  simp only [z7m, z7k, Option.getD_some, Option.isSome_some, if_true] at HF
  clear hS
  cases C
  ·simp only [Bool.false_eq_true, if_false]
   go_enter Tryz.func93, Tryz.ntmps93
   go_wp2_with fail
   refine (HF.out _ (hr.below hb0)).mono ?_
   rintro e w1 ⟨rfl, hb1⟩
   go_upto_region 4 with (first
    | (refine zgq rfl rfl (zh1 _) ?_; intro w3 g3 hg3 hbk3 hb3 hlt3; have Hg3 := ya hg3; clear hg3)
    | (refine zbs (k := k) (e := 0) rfl rfl rfl rfl hbk3 ?_; intro w4 hbk4 hb4; have q5 := hbk4.cell 5; simp only [List.getElem?_toArray, List.getElem?_cons_zero, List.getElem?_cons_succ] at q5))
   have hc4 := zfi hbk4
   have hbX : Below w.heap.size w w4 := (yb hb0 hb1).trans ((hb3.mono (by have := hb0.size; have := hb1.size; omega)).trans (hb4.mono (by have := Hg3.out; have := hb0.size; have := hb1.size; omega)))
   go_wp2_with (refine z2q (k := k) rfl rfl rfl hc4 ?_)
   refine (HC.out _).mono ?_
   rintro e w5 ⟨rfl, hb5⟩
   go_wp2
   go_ret
   exact ⟨rfl, yb hbX hb5⟩
  ·simp only [if_true]
   go_enter Tryz.func93, Tryz.ntmps93
   go_wp2_with fail
   refine (HF.out _ (hr.below hb0)).mono ?_
   rintro e w1 ⟨rfl, hb1⟩
   replace q12 := q12.below hb1
   go_upto_region 4 with (first
    | (refine zgq rfl rfl (zh1 _) ?_; intro w3 g3 hg3 hbk3 hb3 hlt3; have Hg3 := ya hg3; clear hg3)
    | (refine zbs (k := k) (e := 0) rfl rfl rfl rfl hbk3 ?_; intro w4 hbk4 hb4; have q5 := hbk4.cell 5; simp only [List.getElem?_toArray, List.getElem?_cons_zero, List.getElem?_cons_succ] at q5))
   have hc4 := zfi hbk4
   have hbY : Below w1.heap.size w1 w4 := hb3.trans (hb4.mono (by have := Hg3.out; omega))
   have hbX : Below w.heap.size w w4 := yb (yb hb0 hb1) hbY
   go_wp2_with (refine z2q (k := k) rfl rfl rfl hc4 ?_)
   refine (HC.out _).mono ?_
   rintro e w5 ⟨rfl, hb5⟩
   replace q12 := (q12.below hbY).below hb5
   have q15 := hbk4.below hb5
   have hc5 := zfi q15
   have hbZ := yb hbX hb5
   have hrZ := hrp.below hbZ
   have hgZ := hg.below hbZ
   clear hb5 hbX hbY hb3 hb4 hbk3 hbk4 hc4 q5
   go_wp2_with fail
   have hS0 : Below w5.heap.size w5 w5.drew := (Below.refl _ w5).drew
   refine yq 7 (by kernel_rfl) ?_
   refine WpT.tk 0 ((Below.refl _ _).drew) ?_
   simp only [nrm]
   refine WpT.tl 1 rfl (z07 rfl rfl rfl (by kernel_rfl) (by kernel_rfl) (us := kv k) hc5) ((Below.refl _ _).drew) ?_
   simp only [nrm]
   refine WpT.tk 2 ((Below.refl _ _).drew) ?_
   simp only [nrm]
   refine WpT.tk 3 ((Below.refl _ _).drew) ?_
   simp only [nrm]
   refine WpT.tl 5 rfl (z5l rfl rfl rfl (by kernel_rfl) (by rw [HD.out]; kernel_rfl) q12) ((Below.refl _ _).drew) ?_
   simp only [nrm]
   refine WpT.on 4 rfl (fun K hK => ?_)
   go_simp; refine (HM.out _ (hrZ.below hS0) (hgZ.below hS0)).mono ?_; rintro e w6 ⟨rfl, hb6⟩; have hS6 := yb hS0 hb6
   refine hK _ _ hS6 ?_; clear hK K; try simp only [nrm]
   refine WpT.tk 6 hS6 ?_
   simp only [nrm]
   refine WpT.done (by kernel_rfl) ?_ _
   cases E
   ·go_wp2_with fail
    go_ret
    exact ⟨rfl, yb hbZ hS6⟩
   ·go_wp2_with fail
    go_ret
    exact ⟨rfl, yb hbZ hS6⟩
end
section
open Merk Ring
structure At where
  name : ByteArray
  kind : Int
  n : Int
  s : ByteArray
structure Ev where
  kind : Int
  commit : Int
  day : Int
  id : Int
  owner : Int
  til : Int
  frm : Int
  vec : List Int
  attrs : List At
  nonce : Nat
structure Fc where
  kind : Int
  commit : Int
  day : Int
  id : Int
  owner : Int
  til : Int
  frm : Int
  blind : Nat
deriving DecidableEq
structure Hd where
  office : Int
  commit : Int
  day : Int
  root : Nat
  serial : Int
  sig : Nat
deriving DecidableEq
structure Lg where
  office : Int
  events : List Ev
  size : Int
  tops : List Nat
  heads : List Hd
structure Rc where
  office : Int
  face : Fc
  serial : Int
  sig : Nat
deriving DecidableEq
structure Sh where
  face : Fc
  path : List Nat
  head : Hd
structure He where
  bl : Nat → List Int → List At → Nat
  lf : Fc → Nat
  nd : Nat → Nat → Nat
  em : Nat
  sh : ByteArray → Int → Int → Int → Int → Nat → Nat
  sr : ByteArray → Int → Int → Nat → Nat
section
variable (H : He)
def ym (e : Ev) : Fc :=
  { kind := e.kind, commit := e.commit, day := e.day, id := if e.kind = 5 then 0 else e.id, owner := if e.kind = 1 then e.owner else 0,
    til := if e.kind = 1 ∨ e.kind = 4 then e.til else 0, frm := if e.kind = 2 ∨ e.kind = 3 then e.frm else 0,
    blind := if e.kind = 1 ∨ e.kind = 2 then H.bl e.nonce e.vec e.attrs else 0 }
def z00 (l : List Ev) : List Nat := l.map fun e => H.lf (ym H e)
theorem zay (l : List Ev) : (z00 H l).length = l.length := by simp [z00]
theorem zqy (l : List Ev) (n : Nat) : z00 H (l.take n) = (z00 H l).take n := by simp [z00, List.map_take]
def z1b (l : List Ev) (c : Nat) : Int := if c = 0 then 0 else (l[c - 1]?.map Ev.day).getD 0
def z2d (l : List Ev) : Int := z1b l l.length
def fol (k : Nat) (la : Int) (e : Ev) : Int :=
  if e.kind < 1 ∨ 5 < e.kind then 1 else if e.commit ≠ (k : Int) + 1 ∨ e.day < la ∨ 1048576 < e.day then 9 else if 65536 ≤ k then 2 else 0
def follows (l : List Ev) (e : Ev) : Int := fol l.length (z2d l) e
def z2p (k : Nat) (la : Int) : List Ev → Bool
  | [] => true
  | e :: l => if fol k la e = 0 then z2p (k + 1) e.day l else false
def z1w (off : Int) (ev : List Ev) (la : Int) : List Hd → Bool
  | [] => true
  | h :: l => if h.office = off ∧ la ≤ h.commit ∧ h.commit ≤ ev.length ∧ h.day = z1b ev h.commit.toNat ∧ root H.nd H.em ((z00 H ev).take h.commit.toNat) = h.root then z1w off ev h.commit l else false
def z5i (l : Lg) : Bool :=
  decide (0 ≤ l.office ∧ l.office < 32 ∧ l.events.length ≤ 65536) && (z2p 0 0 l.events && (z1w H l.office l.events 0 l.heads && (decide (l.size = l.events.length) && decide (z0i H.nd H.em (z00 H l.events) = l.tops))))
def z56 (l : Lg) (e : Ev) : Lg × Int :=
  if follows l.events e = 0 then
    (if (z37 H.nd l.size l.tops (H.lf (ym H e))).2.2 = 0 then
      ({ l with events := l.events ++ [e], size := (z37 H.nd l.size l.tops (H.lf (ym H e))).1, tops := (z37 H.nd l.size l.tops (H.lf (ym H e))).2.1 }, 0)
     else (l, (z37 H.nd l.size l.tops (H.lf (ym H e))).2.2))
  else (l, follows l.events e)
def z3l (k : Key) (n : Int) : Bool := z26 k && decide (k.party = 1073741824 + n)
def zf7 (secret : ByteArray) (serial off : Int) (ev : List Ev) (rt : Nat) : Hd :=
  { office := off, commit := ev.length, day := z2d ev, root := rt, serial := serial, sig := H.sh secret off ev.length (z2d ev) serial rt }
def z3p : Hd := ⟨0, 0, 0, 0, 0, 0⟩
def z70 (l : Lg) (k : Key) : Lg × Hd × Int :=
  if z3l k l.office = true then
    ({ l with heads := l.heads ++ [zf7 H k.secret k.serial l.office l.events (z3w H.nd H.em l.size l.tops).1] }, zf7 H k.secret k.serial l.office l.events (z3w H.nd H.em l.size l.tops).1, 0)
  else (l, z3p, 1)
def z0g : Fc := ⟨0, 0, 0, 0, 0, 0, 0, 0⟩
def z55 : Sh := ⟨z0g, [], z3p⟩
def z6c (l : Lg) (c : Int) (h : Hd) : Sh × Int :=
  if h ∈ l.heads then
    (if 1 ≤ c ∧ c ≤ h.commit then
      (⟨(l.events[c.toNat - 1]?.map (ym H)).getD z0g, (z21 H.nd H.em ((z00 H l.events).take h.commit.toNat) (c - 1)).1, h⟩, (z21 H.nd H.em ((z00 H l.events).take h.commit.toNat) (c - 1)).2)
     else (z55, 1))
  else (z55, 5)
def z4j (l : Lg) (a b : Hd) : List Nat × Int :=
  if a ∈ l.heads ∧ b ∈ l.heads then
    (if a.commit ≤ b.commit then z2s H.nd H.em ((z00 H l.events).take b.commit.toNat) a.commit else ([], 1))
  else ([], 5)
def z19 : Rc := ⟨0, z0g, 0, 0⟩
def z51 (l : Lg) (k : Key) (c : Int) : Rc × Int :=
  if z3l k l.office = true then
    (if 1 ≤ c ∧ c ≤ l.events.length then
      (⟨l.office, (l.events[c.toNat - 1]?.map (ym H)).getD z0g, k.serial, H.sr k.secret l.office k.serial (H.lf ((l.events[c.toNat - 1]?.map (ym H)).getD z0g))⟩, 0)
     else (z19, 5))
  else (z19, 1)
def z3f (ring : List Key) (p s day : Int) (want : ByteArray → Nat) (sig : Nat) : Int := match z14 (z4r p s) ring with
  | none => 5
  | some k => if z45 k day then (if want k.secret = sig then 0 else 8) else 9
def z4l (o : Int) : Int := Go.IntKind.i64.wrap (1073741824 + o)
def z2i (ring : List Key) (h : Hd) : Int := z3f ring (z4l h.office) h.serial h.day (fun s => H.sh s h.office h.commit h.day h.serial h.root) h.sig
def z63 (ring : List Key) (s : Sh) : Int :=
  if 1 ≤ s.face.commit ∧ s.face.commit ≤ s.head.commit then
    (if z2i H ring s.head = 0 then (if z62 H.nd (H.lf s.face) (s.face.commit - 1) s.head.commit s.path s.head.root = true then 0 else 3) else z2i H ring s.head)
  else 1
def zam (ring : List Key) (a b : Hd) (path : List Nat) : Int :=
  if a.office = b.office ∧ a.commit ≤ b.commit ∧ a.day ≤ b.day then
    (if z2i H ring a = 0 then
      (if z2i H ring b = 0 then (if z6s H.nd H.em a.commit b.commit a.root b.root path = true then 0 else 3) else z2i H ring b)
     else z2i H ring a)
  else 1
def z93 (ring : List Key) (r : Rc) : Int := z3f ring (z4l r.office) r.serial r.face.day (fun s => H.sr s r.office r.serial (H.lf r.face)) r.sig
def z8k (ring : List Key) (r : Rc) (s : Sh) : Bool :=
  decide (z93 H ring r = 0) && (decide (z63 H ring s = 0) && (decide (r.office = s.head.office) && (decide (r.face.commit = s.face.commit) && !decide (r.face = s.face))))
def zaw (ring : List Key) (a b : Hd) : Bool :=
  decide (z2i H ring a = 0) && (decide (z2i H ring b = 0) && (decide (a.office = b.office) && (decide (a.commit = b.commit) && (!decide (a.root = b.root) || !decide (a.day = b.day)))))
end
end
section
open Go.RowKit
def zz (n : Int) : Nat := if 0 ≤ n then (2 * n).toNat else (2 * (-1 - n) + 1).toNat
theorem zmr (n : Int) (h1 : -9223372036854775808 ≤ n) (h2 : n ≤ 9223372036854775807) : zz n < 18446744073709551616 := by unfold zz; split <;> omega
theorem zxm (m : Nat) : zz (m : Int) = 2 * m := by unfold zz; rw [if_pos (by omega)]; omega
def z0z (n : Int) : List UInt8 := z2j 9 (zz n)
def z1f (l : List Int) : List UInt8 := z0z l.length ++ l.flatMap z0z
theorem zxa (a : Nat) (h : a < 18446744073709551616) : bits .xor .u64 (a : Int) 18446744073709551615 = ((18446744073709551615 - a : Nat) : Int) := by
 rw [show (18446744073709551615 : Int) = ((18446744073709551615 : Nat) : Int) from rfl, zgk a _ h (by omega)]
 congr 1
 have := congrArg BitVec.toNat (BitVec.xor_allOnes (x := BitVec.ofNat 64 a))
 rw [BitVec.toNat_xor, BitVec.toNat_not, BitVec.toNat_ofNat, BitVec.toNat_allOnes, Nat.mod_eq_of_lt (by omega)] at this
 exact this
theorem zxl (n : Int) (h1 : 0 ≤ n) (h2 : n ≤ 9223372036854775807) : bits .xor .u64 (n * 2) (n / 9223372036854775808) = ((zz n : Nat) : Int) := by
 rw [show n / 9223372036854775808 = 0 by omega]
 obtain ⟨m, rfl⟩ : ∃ m : Nat, n = m := ⟨n.toNat, by omega⟩
 have := zgk (2 * m) 0 (by omega) (by omega)
 rw [show ((m : Int) * 2) = ((2 * m : Nat) : Int) by omega, show (0 : Int) = ((0 : Nat) : Int) from rfl, this, zxm]
 simp
theorem zxk (n : Int) (h1 : n < 0) (h2 : -9223372036854775808 ≤ n) : bits .xor .u64 (IntKind.u64.wrap (IntKind.u64.wrap n * 2)) (IntKind.u64.wrap (n / 9223372036854775808)) = ((zz n : Nat) : Int) := by
 rw [show n / 9223372036854775808 = -1 by omega, IntKind.wrap_u64, IntKind.wrap_u64, IntKind.wrap_u64]
 rw [show (-1 : Int) % 18446744073709551616 = 18446744073709551615 by decide]
 obtain ⟨m, hm⟩ : ∃ m : Nat, (m : Int) = n % 18446744073709551616 * 2 % 18446744073709551616 := ⟨(n % 18446744073709551616 * 2 % 18446744073709551616).toNat, by omega⟩
 rw [← hm, zxa m (by omega)]
 congr 1
 unfold zz
 rw [if_neg (by omega)]
 omega
theorem zgo (n : Int) (w : World) (h1 : -9223372036854775808 ≤ n) (h2 : n ≤ 9223372036854775807) :
  Calls Tryz.prog 106 #[.int .i64 n] w fun e w' => ∃ v, e = .returned v ∧ Own w' w.heap.size 5 v (bv (z0z n)) ∧ Below w.heap.size w w' := by
 have HZ := ya (zmr n h1 h2)
 by_cases hs : 0 ≤ n
 ·have hx := zxl n hs h2
  go_enter Tryz.func106, Tryz.ntmps106
  go_wp2_with fail
  go_loopw [3, 4] (fun x v wr => ∃ (f z : Nat) (acc : List UInt8), x = .int .u64 z ∧ z < 128 ^ (f + 1) ∧ f + acc.length ≤ 9 ∧ acc ++ z2j f z = z0z n ∧ Own wr w.heap.size 5 v (bv acc) ∧ Below w.heap.size w wr) (fun x _ _ => (intOf x).toNat)
  case atStart => exact ⟨9, zz n, [], rfl, by have := HZ.out; omega, by simp, by simp [z0z], Own.nil _ _ _, Below.refl _ _⟩
  case round =>
   obtain ⟨f, z, acc, rfl, hzf, hfa, hacc, hown, hb⟩ := hrel
   have hz := hb.size
   have hzl : z < 1180591620717411303424 := by
    have : 128 ^ (f + 1) ≤ 128 ^ 10 := Nat.pow_le_pow_right (by omega) (by omega)
    omega
   have HA := ya hacc
   clear hacc
   by_cases hlt : z < 128
   ·have hv := za3 f z hlt
    have HV := ya hv
    have hz2 : ¬ (127 : Int) < z := by omega
    have hd : decide ((127 : Int) < (z : Int)) = false := by simpa using hz2
    clear hv hzf hzl
    go_wp2_with (at_builtin; refine z20 rfl rfl z2c rfl (hown.alloc _) rfl (Rd.new1 _ _ _) (z3m rfl) (by rw [z0m]; omega) (by simp; omega) ?_; intro v' w' hown' hg' hb' _)
    go_ret
    refine ⟨_, rfl, ?_, (hb.alloc hz _).trans hb'⟩
    rw [← HA.out, HV.out, z2h, show bv [UInt8.ofNat z] = [.int .u8 (z : Nat)] by simp [bv, UInt8.toNat_ofNat']; omega]
    exact hown'
   ·obtain ⟨f, rfl⟩ : ∃ g, f = g + 1 := by
     cases f with
     | zero => exfalso; simp at hzf; omega
     | succ f => exact ⟨f, rfl⟩
    have hv := za2 f z hlt
    have HV := ya hv
    have hd : decide ((127 : Int) < (z : Int)) = true := by simp; omega
    have ho := zfq z
    have hq : z / 128 < 128 ^ (f + 1) := by
     rw [Nat.div_lt_iff_lt_mul (by omega)]; rw [Nat.pow_succ] at hzf; exact hzf
    have HQ := ya hq
    clear hv hzf hq
    go_wp2_with (at_builtin; refine z20 rfl rfl z2c rfl (hown.alloc _) rfl (Rd.new1 _ _ _) (z3m rfl) (by rw [z0m]; omega) (by simp; omega) ?_; intro v' w' hown' hg' hb' _)
    refine ⟨⟨f, z / 128, acc ++ [UInt8.ofNat (z % 128 + 128)], by simp, HQ.out, by simp; omega, by rw [← HA.out, HV.out, List.append_assoc]; rfl, ?_, (hb.alloc hz _).trans hb'⟩, ?_⟩
    ·rw [z2h, show bv [UInt8.ofNat (z % 128 + 128)] = [.int .u8 ((z % 128 + 128 : Nat) : Int)] by simp [bv, UInt8.toNat_ofNat']; omega]
     exact hown'
    ·simp [intOf]; omega
 ·have hx := zxk n (by omega) h1
  go_enter Tryz.func106, Tryz.ntmps106
  go_wp2_with fail
  go_loopw [3, 4] (fun x v wr => ∃ (f z : Nat) (acc : List UInt8), x = .int .u64 z ∧ z < 128 ^ (f + 1) ∧ f + acc.length ≤ 9 ∧ acc ++ z2j f z = z0z n ∧ Own wr w.heap.size 5 v (bv acc) ∧ Below w.heap.size w wr) (fun x _ _ => (intOf x).toNat)
  case atStart => exact ⟨9, zz n, [], rfl, by have := HZ.out; omega, by simp, by simp [z0z], Own.nil _ _ _, Below.refl _ _⟩
  case round =>
   obtain ⟨f, z, acc, rfl, hzf, hfa, hacc, hown, hb⟩ := hrel
   have hz := hb.size
   have hzl : z < 1180591620717411303424 := by
    have : 128 ^ (f + 1) ≤ 128 ^ 10 := Nat.pow_le_pow_right (by omega) (by omega)
    omega
   have HA := ya hacc
   clear hacc
   by_cases hlt : z < 128
   ·have hv := za3 f z hlt
    have HV := ya hv
    have hz2 : ¬ (127 : Int) < z := by omega
    have hd : decide ((127 : Int) < (z : Int)) = false := by simpa using hz2
    clear hv hzf hzl
    go_wp2_with (at_builtin; refine z20 rfl rfl z2c rfl (hown.alloc _) rfl (Rd.new1 _ _ _) (z3m rfl) (by rw [z0m]; omega) (by simp; omega) ?_; intro v' w' hown' hg' hb' _)
    go_ret
    refine ⟨_, rfl, ?_, (hb.alloc hz _).trans hb'⟩
    rw [← HA.out, HV.out, z2h, show bv [UInt8.ofNat z] = [.int .u8 (z : Nat)] by simp [bv, UInt8.toNat_ofNat']; omega]
    exact hown'
   ·obtain ⟨f, rfl⟩ : ∃ g, f = g + 1 := by
     cases f with
     | zero => exfalso; simp at hzf; omega
     | succ f => exact ⟨f, rfl⟩
    have hv := za2 f z hlt
    have HV := ya hv
    have hd : decide ((127 : Int) < (z : Int)) = true := by simp; omega
    have ho := zfq z
    have hq : z / 128 < 128 ^ (f + 1) := by
     rw [Nat.div_lt_iff_lt_mul (by omega)]; rw [Nat.pow_succ] at hzf; exact hzf
    have HQ := ya hq
    clear hv hzf hq
    go_wp2_with (at_builtin; refine z20 rfl rfl z2c rfl (hown.alloc _) rfl (Rd.new1 _ _ _) (z3m rfl) (by rw [z0m]; omega) (by simp; omega) ?_; intro v' w' hown' hg' hb' _)
    refine ⟨⟨f, z / 128, acc ++ [UInt8.ofNat (z % 128 + 128)], by simp, HQ.out, by simp; omega, by rw [← HA.out, HV.out, List.append_assoc]; rfl, ?_, (hb.alloc hz _).trans hb'⟩, ?_⟩
    ·rw [z2h, show bv [UInt8.ofNat (z % 128 + 128)] = [.int .u8 ((z % 128 + 128 : Nat) : Int)] by simp [bv, UInt8.toNat_ofNat']; omega]
     exact hown'
    ·simp [intOf]; omega
theorem zxo (n : Int) (h1 : 0 ≤ n) (h2 : n ≤ 9223372036854775807) : n * 2 = ((zz n : Nat) : Int) := by unfold zz; rw [if_pos h1]; omega
theorem zxn (n : Int) (h1 : n < 0) (h2 : -9223372036854775808 ≤ n) : (-1 - n) * 2 + 1 = ((zz n : Nat) : Int) := by unfold zz; rw [if_neg (by omega)]; omega
theorem zg0 (n : Int) (w : World) (h1 : -9223372036854775808 ≤ n) (h2 : n ≤ 9223372036854775807) :
  Calls Tryz.prog 107 #[.int .i64 n] w fun e w' => ∃ v, e = .returned v ∧ Own w' w.heap.size 5 v (bv (z0z n)) ∧ Below w.heap.size w w' := by
 have HZ := ya (zmr n h1 h2)
 by_cases hs : n < 0
 ·have hx := zxn n hs h1
  go_enter Tryz.func107, Tryz.ntmps107
  go_wp2_with fail
  go_loopw [3, 4] (fun x v wr => ∃ (f z : Nat) (acc : List UInt8), x = .int .u64 z ∧ z < 128 ^ (f + 1) ∧ f + acc.length ≤ 9 ∧ acc ++ z2j f z = z0z n ∧ Own wr w.heap.size 5 v (bv acc) ∧ Below w.heap.size w wr) (fun x _ _ => (intOf x).toNat)
  case atStart => exact ⟨9, zz n, [], rfl, by have := HZ.out; omega, by simp, by simp [z0z], Own.nil _ _ _, Below.refl _ _⟩
  case round =>
   obtain ⟨f, z, acc, rfl, hzf, hfa, hacc, hown, hb⟩ := hrel
   have hz := hb.size
   have hzl : z < 1180591620717411303424 := by
    have : 128 ^ (f + 1) ≤ 128 ^ 10 := Nat.pow_le_pow_right (by omega) (by omega)
    omega
   have HA := ya hacc
   clear hacc
   by_cases hlt : z < 128
   ·have hv := za3 f z hlt
    have HV := ya hv
    have hd : decide ((128 : Int) ≤ (z : Int)) = false := by simp; omega
    clear hv hzf hzl
    go_wp2_with (at_builtin; refine z20 rfl rfl z2c rfl (hown.alloc _) rfl (Rd.new1 _ _ _) (z3m rfl) (by rw [z0m]; omega) (by simp; omega) ?_; intro v' w' hown' hg' hb' _)
    go_ret
    refine ⟨_, rfl, ?_, (hb.alloc hz _).trans hb'⟩
    rw [← HA.out, HV.out, z2h, show bv [UInt8.ofNat z] = [.int .u8 (z : Nat)] by simp [bv, UInt8.toNat_ofNat']; omega]
    exact hown'
   ·obtain ⟨f, rfl⟩ : ∃ g, f = g + 1 := by
     cases f with
     | zero => exfalso; simp at hzf; omega
     | succ f => exact ⟨f, rfl⟩
    have hv := za2 f z hlt
    have HV := ya hv
    have hd : decide ((128 : Int) ≤ (z : Int)) = true := by simp; omega
    have hq : z / 128 < 128 ^ (f + 1) := by
     rw [Nat.div_lt_iff_lt_mul (by omega)]; rw [Nat.pow_succ] at hzf; exact hzf
    have HQ := ya hq
    clear hv hzf hq
    go_wp2_with (at_builtin; refine z20 rfl rfl z2c rfl (hown.alloc _) rfl (Rd.new1 _ _ _) (z3m rfl) (by rw [z0m]; omega) (by simp; omega) ?_; intro v' w' hown' hg' hb' _)
    refine ⟨⟨f, z / 128, acc ++ [UInt8.ofNat (z % 128 + 128)], by simp, HQ.out, by simp; omega, by rw [← HA.out, HV.out, List.append_assoc]; rfl, ?_, (hb.alloc hz _).trans hb'⟩, ?_⟩
    ·rw [z2h, show bv [UInt8.ofNat (z % 128 + 128)] = [.int .u8 ((z : Int) % 128 + 128)] by simp [bv, UInt8.toNat_ofNat']; omega]
     exact hown'
    ·simp [intOf]; omega
 ·have hx := zxo n (by omega) h2
  go_enter Tryz.func107, Tryz.ntmps107
  go_wp2_with fail
  go_loopw [3, 4] (fun x v wr => ∃ (f z : Nat) (acc : List UInt8), x = .int .u64 z ∧ z < 128 ^ (f + 1) ∧ f + acc.length ≤ 9 ∧ acc ++ z2j f z = z0z n ∧ Own wr w.heap.size 5 v (bv acc) ∧ Below w.heap.size w wr) (fun x _ _ => (intOf x).toNat)
  case atStart => exact ⟨9, zz n, [], rfl, by have := HZ.out; omega, by simp, by simp [z0z], Own.nil _ _ _, Below.refl _ _⟩
  case round =>
   obtain ⟨f, z, acc, rfl, hzf, hfa, hacc, hown, hb⟩ := hrel
   have hz := hb.size
   have hzl : z < 1180591620717411303424 := by
    have : 128 ^ (f + 1) ≤ 128 ^ 10 := Nat.pow_le_pow_right (by omega) (by omega)
    omega
   have HA := ya hacc
   clear hacc
   by_cases hlt : z < 128
   ·have hv := za3 f z hlt
    have HV := ya hv
    have hd : decide ((128 : Int) ≤ (z : Int)) = false := by simp; omega
    clear hv hzf hzl
    go_wp2_with (at_builtin; refine z20 rfl rfl z2c rfl (hown.alloc _) rfl (Rd.new1 _ _ _) (z3m rfl) (by rw [z0m]; omega) (by simp; omega) ?_; intro v' w' hown' hg' hb' _)
    go_ret
    refine ⟨_, rfl, ?_, (hb.alloc hz _).trans hb'⟩
    rw [← HA.out, HV.out, z2h, show bv [UInt8.ofNat z] = [.int .u8 (z : Nat)] by simp [bv, UInt8.toNat_ofNat']; omega]
    exact hown'
   ·obtain ⟨f, rfl⟩ : ∃ g, f = g + 1 := by
     cases f with
     | zero => exfalso; simp at hzf; omega
     | succ f => exact ⟨f, rfl⟩
    have hv := za2 f z hlt
    have HV := ya hv
    have hd : decide ((128 : Int) ≤ (z : Int)) = true := by simp; omega
    have hq : z / 128 < 128 ^ (f + 1) := by
     rw [Nat.div_lt_iff_lt_mul (by omega)]; rw [Nat.pow_succ] at hzf; exact hzf
    have HQ := ya hq
    clear hv hzf hq
    go_wp2_with (at_builtin; refine z20 rfl rfl z2c rfl (hown.alloc _) rfl (Rd.new1 _ _ _) (z3m rfl) (by rw [z0m]; omega) (by simp; omega) ?_; intro v' w' hown' hg' hb' _)
    refine ⟨⟨f, z / 128, acc ++ [UInt8.ofNat (z % 128 + 128)], by simp, HQ.out, by simp; omega, by rw [← HA.out, HV.out, List.append_assoc]; rfl, ?_, (hb.alloc hz _).trans hb'⟩, ?_⟩
    ·rw [z2h, show bv [UInt8.ofNat (z % 128 + 128)] = [.int .u8 ((z : Int) % 128 + 128)] by simp [bv, UInt8.toNat_ofNat']; omega]
     exact hown'
    ·simp [intOf]; omega
theorem z7n (n : Int) : (z0z n).length ≤ 10 := z9k 9 (zz n)
theorem zcs : ∀ l : List Int, (l.flatMap z0z).length ≤ l.length * 10
 | [] => by simp
 | x :: l => by have := zcs l; have := z7n x; simp only [List.flatMap_cons, List.length_append, List.length_cons]; omega
def z1j (l : List Int) : Prop := ∀ x ∈ l, -9223372036854775808 ≤ x ∧ x ≤ 9223372036854775807
theorem zwc (A : Option Addr) (n c : Nat) (l : List Int) (w : World) (hr : Rd w A n (iv l)) (hn : n ≤ 1000) (hf : z1j l) :
  Calls Tryz.prog 105 #[.slice A n c, .func (.func 106) #[] #[]] w fun e w' => ∃ v, e = .returned v ∧ Own w' w.heap.size 5 v (bv (z1f l)) ∧ Below w.heap.size w w' := by
 have HL := ya (show l.length = n by have := hr.len; simpa using this)
 have HF := ya hf
 clear hf
 have HE := ya (show z1f l = z0z n ++ l.flatMap z0z by unfold z1f; rw [HL.out])
 go_enter Tryz.func105, Tryz.ntmps105
 go_wp2_with fail
 refine (zgo n _ (by omega) (by omega)).mono ?_
 rintro e w1 ⟨v1, rfl, hown1, hb1⟩
 go_wp2_with fail
 go_loopw [5, 7, 13] (fun v _ j wr => ∃ k : Nat, k ≤ n ∧ j = .int .i64 k ∧ Below w.heap.size w wr ∧ Own wr w.heap.size 5 v (bv (z0z n ++ (l.take k).flatMap z0z))) (fun _ _ j _ => n - (intOf j).toNat)
 case atStart => exact ⟨0, Nat.zero_le _, rfl, hb1, by simpa using hown1⟩
 case round =>
  clear hown1
  obtain ⟨k, hk, rfl, hbw, hown⟩ := hrel
  by_cases hlt : k < n
  ·obtain ⟨ad, rfl, hc⟩ := (hr.below hbw).int hlt HL.out
   have HT := ya (List.take_succ_eq_append_getElem (show k < l.length by have := HL.out; omega))
   have HX := ya (HF.out _ (List.getElem_mem (show k < l.length by have := HL.out; omega)))
   generalize l[k]'(by have := HL.out; omega) = x at *
   have HS := ya (show bv (z0z n ++ (l.take (k + 1)).flatMap z0z) = bv (z0z n ++ (l.take k).flatMap z0z) ++ bv (z0z x) by rw [HT.out, ← z2h]; simp)
   have HN : Hid ((z0z n ++ (l.take k).flatMap z0z).length ≤ 20000) := ya (by
    have := z7n n
    have := zcs (l.take k)
    have := List.length_take_le k l
    simp only [List.length_append]; omega)
   go_wp2_with fail
   refine (zgo x _ HX.out.1 HX.out.2).mono ?_
   rintro e w2 ⟨v2, rfl, hown2, hb2⟩
   replace hown := hown.below hb2
   have hbw2 := yb hbw hb2
   obtain ⟨A2, n2, c2, rfl, hn2, hn2c, hc2, hr2⟩ := hown2.formN
   have HN2 := ya (show n2 ≤ 10 by have := hn2.out; have := z7n x; simp at *; omega)
   clear hn2 hown2 hc
   go_wp2_with (at_builtin; refine z20 rfl rfl z2c rfl hown rfl hr2 (z8f _) (by rw [z0m]; have := HN.out; have := HN2.out; omega) hbw2.size ?_; intro v' w' hown3 _ hb3 _)
   rw [← HS.out] at hown3
   exact ⟨⟨k + 1, by omega, by go_num, hbw2.trans hb3, hown3⟩, by simp [intOf]; omega⟩
  ·obtain rfl : k = n := by omega
   have HT := ya (show l.take k = l by rw [List.take_of_length_le (by have := HL.out; omega)])
   rw [HT.out, ← HE.out] at hown
   go_wp2
   go_ret
   exact ⟨_, rfl, hown, hbw⟩
theorem zbm (A : Option Addr) (n c : Nat) (l : List Int) (w : World) (hr : Rd w A n (iv l)) (hn : n ≤ 1000) (hf : z1j l) :
  Calls Tryz.prog 56 #[.slice A n c] w fun e w' => ∃ v, e = .returned v ∧ Own w' w.heap.size 5 v (bv (z1f l)) ∧ Below w.heap.size w w' := by
 go_enter Tryz.func56, Tryz.ntmps56
 go_wp2_with fail
 refine (zwc A n c l _ hr hn hf).mono ?_
 rintro e w1 ⟨v1, rfl, hown1, hb1⟩
 go_wp2_with fail
 go_ret
 exact ⟨_, rfl, hown1, hb1⟩
theorem zda (A : Option Addr) (n c : Nat) (l : List Int) (w : World) (hr : Rd w A n (iv l)) (hn : n ≤ 1000) (hf : z1j l) :
  Calls Tryz.prog 58 #[.slice A n c] w fun e w' => ∃ v, e = .returned v ∧ Own w' w.heap.size 5 v (bv (z1f l)) ∧ Below w.heap.size w w' := by
 have HL := ya (show l.length = n by have := hr.len; simpa using this)
 have HF := ya hf
 clear hf
 have HE := ya (show z1f l = z0z n ++ l.flatMap z0z by unfold z1f; rw [HL.out])
 go_enter Tryz.func58, Tryz.ntmps58
 go_wp2_with fail
 refine (zg0 n _ (by omega) (by omega)).mono ?_
 rintro e w1 ⟨v1, rfl, hown1, hb1⟩
 go_wp2_with fail
 go_loopw [3, 4] (fun v j wr => ∃ k : Nat, k ≤ n ∧ j = .int .i64 k ∧ Below w.heap.size w wr ∧ Own wr w.heap.size 5 v (bv (z0z n ++ (l.take k).flatMap z0z))) (fun _ j _ => n - (intOf j).toNat)
 case atStart => exact ⟨0, Nat.zero_le _, rfl, hb1, by simpa using hown1⟩
 case round =>
  clear hown1
  obtain ⟨k, hk, rfl, hbw, hown⟩ := hrel
  by_cases hlt : k < n
  ·obtain ⟨ad, rfl, hc⟩ := (hr.below hbw).int hlt HL.out
   have HT := ya (List.take_succ_eq_append_getElem (show k < l.length by have := HL.out; omega))
   have HX := ya (HF.out _ (List.getElem_mem (show k < l.length by have := HL.out; omega)))
   generalize l[k]'(by have := HL.out; omega) = x at *
   have HS := ya (show bv (z0z n ++ (l.take (k + 1)).flatMap z0z) = bv (z0z n ++ (l.take k).flatMap z0z) ++ bv (z0z x) by rw [HT.out, ← z2h]; simp)
   have HN : Hid ((z0z n ++ (l.take k).flatMap z0z).length ≤ 20000) := ya (by
    have := z7n n
    have := zcs (l.take k)
    have := List.length_take_le k l
    simp only [List.length_append]; omega)
   go_wp2_with fail
   refine (zg0 x _ HX.out.1 HX.out.2).mono ?_
   rintro e w2 ⟨v2, rfl, hown2, hb2⟩
   replace hown := hown.below hb2
   have hbw2 := yb hbw hb2
   obtain ⟨A2, n2, c2, rfl, hn2, hn2c, hc2, hr2⟩ := hown2.formN
   have HN2 := ya (show n2 ≤ 10 by have := hn2.out; have := z7n x; simp at *; omega)
   clear hn2 hown2 hc
   go_wp2_with (at_builtin; refine z20 rfl rfl z2c rfl hown rfl hr2 (z8f _) (by rw [z0m]; have := HN.out; have := HN2.out; omega) hbw2.size ?_; intro v' w' hown3 _ hb3 _)
   rw [← HS.out] at hown3
   exact ⟨⟨k + 1, by omega, by go_num, hbw2.trans hb3, hown3⟩, by simp [intOf]; omega⟩
  ·obtain rfl : k = n := by omega
   have HT := ya (show l.take k = l by rw [List.take_of_length_le (by have := HL.out; omega)])
   rw [HT.out, ← HE.out] at hown
   go_wp2
   go_ret
   exact ⟨_, rfl, hown, hbw⟩
def z4k (l : List ByteArray) : List UInt8 := z0z l.length ++ l.flatMap fun s => z1l s.data.toList
theorem zff (s : ByteArray) (h : s.size ≤ 65536) : (z1l s.data.toList).length ≤ 65546 := by
 unfold z1l
 rw [List.length_append]
 have := z9k 9 (2 * s.data.toList.length)
 have e : s.data.toList.length = s.size := by simp
 omega
theorem zjg : ∀ l : List ByteArray, (∀ s ∈ l, s.size ≤ 65536) → (l.flatMap fun s => z1l s.data.toList).length ≤ l.length * 65546
 | [], _ => by simp
 | x :: l, h => by
  have := zjg l (fun s hs => h s (by simp [hs]))
  have := zff x (h x (by simp))
  simp only [List.flatMap_cons, List.length_append, List.length_cons]; omega
def z46 (n : Nat) (l : List ByteArray) : List UInt8 := z0z n ++ l.flatMap fun s => z1l s.data.toList
theorem zib (n : Nat) (l : List ByteArray) (k : Nat) (h : k < l.length) : bv (z46 n (l.take (k + 1))) = bv (z46 n (l.take k)) ++ bv (z1l l[k].data.toList) := by
 unfold z46
 rw [List.take_succ_eq_append_getElem h, ← z2h, List.flatMap_append, List.append_assoc]
 simp only [List.flatMap_cons, List.flatMap_nil, List.append_nil]
theorem zia (n : Nat) (l : List ByteArray) (k : Nat) (hl : l.length ≤ 1000) (h : ∀ s ∈ l, s.size ≤ 65536) : (z46 n (l.take k)).length ≤ 100000000 := by
 unfold z46
 rw [List.length_append]
 have := z7n n
 have := zjg (l.take k) (fun s hs => h s (List.mem_of_mem_take hs))
 have : (l.take k).length ≤ l.length := by rw [List.length_take]; omega
 omega
theorem zwb (A : Option Addr) (n c : Nat) (l : List ByteArray) (w : World) (hr : Rd w A n (sv l)) (hn : n ≤ 1000) (hs : ∀ s ∈ l, s.size ≤ 65536) :
  Calls Tryz.prog 144 #[.slice A n c, .func (.func 141) #[] #[]] w fun e w' => ∃ v, e = .returned v ∧ Own w' w.heap.size 5 v (bv (z4k l)) ∧ Below w.heap.size w w' := by
 have HL := ya (show l.length = n by have := hr.len; simpa using this)
 have HSZ := ya hs
 have HLN := ya (fun k => zia n l k (by have := HL.out; omega) hs)
 have HNX := ya (zib n l)
 have HE : Hid (z4k l = z46 n (l.take n)) := ya (by unfold z4k z46; rw [HL.out, List.take_of_length_le (by have := HL.out; omega)])
 have H0 : Hid (z0z n = z46 n (l.take 0)) := ya (by unfold z46; simp)
 clear hs
 go_enter Tryz.func144, Tryz.ntmps144
 go_wp2_with fail
 refine (zgo n _ (by omega) (by omega)).mono ?_
 rintro e w1 ⟨v1, rfl, hown1, hb1⟩
 rw [H0.out] at hown1
 go_wp2_with fail
 go_loopw [5, 7, 13] (fun v _ j wr => ∃ k : Nat, k ≤ n ∧ j = .int .i64 k ∧ Below w.heap.size w wr ∧ Own wr w.heap.size 5 v (bv (z46 n (l.take k)))) (fun _ _ j _ => n - (intOf j).toNat)
 case atStart => exact ⟨0, Nat.zero_le _, rfl, hb1, hown1⟩
 case round =>
  clear hown1
  obtain ⟨k, hk, rfl, hbw, hown⟩ := hrel
  by_cases hlt : k < n
  ·obtain ⟨ad, rfl, hc⟩ := (hr.below hbw).str hlt HL.out
   have hkl : k < l.length := by have := HL.out; omega
   have HX := ya (HSZ.out _ (List.getElem_mem hkl))
   have HS := ya (HNX.out k hkl)
   have HN := ya (HLN.out k)
   generalize l[k]'(by have := HL.out; omega) = x at *
   clear hkl
   go_wp2_with fail
   refine (zm9 x _ (by have := HX.out; omega)).mono ?_
   rintro e w2 ⟨v2, rfl, hown2, hb2⟩
   replace hown := hown.below hb2
   have hbw2 := yb hbw hb2
   obtain ⟨A2, n2, c2, rfl, hn2, hn2c, hc2, hr2⟩ := hown2.formN
   have HN2 := ya (show n2 ≤ 65546 by have := hn2.out; have := zff x HX.out; rw [z0m] at *; omega)
   clear hn2 hown2 hc
   go_wp2_with (at_builtin; refine z20 rfl rfl z2c rfl hown rfl hr2 (z8f _) (by rw [z0m]; have := HN.out; have := HN2.out; omega) hbw2.size ?_; intro v' w' hown3 _ hb3 _)
   rw [← HS.out] at hown3
   exact ⟨⟨k + 1, by omega, by go_num, hbw2.trans hb3, hown3⟩, by simp [intOf]; omega⟩
  ·obtain rfl : k = n := by omega
   rw [← HE.out] at hown
   go_wp2
   go_ret
   exact ⟨_, rfl, hown, hbw⟩
theorem zwd (A : Option Addr) (n c : Nat) (l : List ByteArray) (w : World) (hr : Rd w A n (sv l)) (hn : n ≤ 1000) (hs : ∀ s ∈ l, s.size ≤ 65536) :
  Calls Tryz.prog 101 #[.slice A n c] w fun e w' => ∃ v, e = .returned v ∧ Own w' w.heap.size 5 v (bv (z4k l)) ∧ Below w.heap.size w w' := by
 have HQ := ya (zwb A n c l w hr hn hs)
 clear hr hs
 generalize z4k l = R at *
 go_enter Tryz.func101, Tryz.ntmps101
 go_wp2_with fail
 refine HQ.out.mono ?_
 rintro e w1 ⟨v1, rfl, hown1, hb1⟩
 go_wp2_with fail
 go_ret
 exact ⟨_, rfl, hown1, hb1⟩
theorem zpi (A : Option Addr) (n c : Nat) (l : List Int) (w : World) (hr : Rd w A n (iv l)) (hn : n ≤ 1000) (hf : z1j l) :
  Calls Tryz.prog 100 #[.slice A n c] w fun e w' => ∃ v, e = .returned v ∧ Own w' w.heap.size 5 v (bv (z1f l)) ∧ Below w.heap.size w w' := by
 have HQ := ya (zbm A n c l w hr hn hf)
 clear hr hf
 generalize z1f l = R at *
 go_enter Tryz.func100, Tryz.ntmps100
 go_wp2_with fail
 refine HQ.out.mono ?_
 rintro e w1 ⟨v1, rfl, hown1, hb1⟩
 go_wp2_with fail
 go_ret
 exact ⟨_, rfl, hown1, hb1⟩
theorem zt2 (A : Option Addr) (n c : Nat) (l : List Int) (w : World) (hr : Rd w A n (iv l)) (hn : n ≤ 1000) (hf : z1j l) :
  Calls Tryz.prog 103 #[.slice A n c] w fun e w' => ∃ v, e = .returned v ∧ Own w' w.heap.size 5 v (bv (z1f l)) ∧ Below w.heap.size w w' := by
 have HQ := ya (zda A n c l w hr hn hf)
 clear hr hf
 generalize z1f l = R at *
 go_enter Tryz.func103, Tryz.ntmps103
 go_wp2_with fail
 refine HQ.out.mono ?_
 rintro e w1 ⟨v1, rfl, hown1, hb1⟩
 go_wp2_with fail
 go_ret
 exact ⟨_, rfl, hown1, hb1⟩
theorem zto (A : Option Addr) (n c : Nat) (l : List ByteArray) (w : World) (hr : Rd w A n (sv l)) (hn : n ≤ 1000) (hs : ∀ s ∈ l, s.size ≤ 65536) :
  Calls Tryz.prog 104 #[.slice A n c] w fun e w' => ∃ v, e = .returned v ∧ Own w' w.heap.size 5 v (bv (z4k l)) ∧ Below w.heap.size w w' := by
 have HL := ya (show l.length = n by have := hr.len; simpa using this)
 have HSZ := ya hs
 have HLN := ya (fun k => zia n l k (by have := HL.out; omega) hs)
 have HNX := ya (zib n l)
 have HE : Hid (z4k l = z46 n (l.take n)) := ya (by unfold z4k z46; rw [HL.out, List.take_of_length_le (by have := HL.out; omega)])
 have H0 : Hid (z0z n = z46 n (l.take 0)) := ya (by unfold z46; simp)
 clear hs
 go_enter Tryz.func104, Tryz.ntmps104
 go_wp2_with fail
 refine (zg0 n _ (by omega) (by omega)).mono ?_
 rintro e w1 ⟨v1, rfl, hown1, hb1⟩
 rw [H0.out] at hown1
 go_wp2_with fail
 go_loopw [3, 4] (fun v j wr => ∃ k : Nat, k ≤ n ∧ j = .int .i64 k ∧ Below w.heap.size w wr ∧ Own wr w.heap.size 5 v (bv (z46 n (l.take k)))) (fun _ j _ => n - (intOf j).toNat)
 case atStart => exact ⟨0, Nat.zero_le _, rfl, hb1, hown1⟩
 case round =>
  clear hown1
  obtain ⟨k, hk, rfl, hbw, hown⟩ := hrel
  by_cases hlt : k < n
  ·obtain ⟨ad, rfl, hc⟩ := (hr.below hbw).str hlt HL.out
   have hkl : k < l.length := by have := HL.out; omega
   have HX := ya (HSZ.out _ (List.getElem_mem hkl))
   have HS := ya (HNX.out k hkl)
   have HN := ya (HLN.out k)
   generalize l[k]'(by have := HL.out; omega) = x at *
   clear hkl
   go_wp2_with fail
   refine (zl5 x _ (by have := HX.out; omega)).mono ?_
   rintro e w2 ⟨v2, rfl, hown2, hb2⟩
   replace hown := hown.below hb2
   have hbw2 := yb hbw hb2
   obtain ⟨A2, n2, c2, rfl, hn2, hn2c, hc2, hr2⟩ := hown2.formN
   have HN2 := ya (show n2 ≤ 65546 by have := hn2.out; have := zff x HX.out; rw [z0m] at *; omega)
   clear hn2 hown2 hc
   go_wp2_with (at_builtin; refine z20 rfl rfl z2c rfl hown rfl hr2 (z8f _) (by rw [z0m]; have := HN.out; have := HN2.out; omega) hbw2.size ?_; intro v' w' hown3 _ hb3 _)
   rw [← HS.out] at hown3
   exact ⟨⟨k + 1, by omega, by go_num, hbw2.trans hb3, hown3⟩, by simp [intOf]; omega⟩
  ·obtain rfl : k = n := by omega
   rw [← HE.out] at hown
   go_wp2
   go_ret
   exact ⟨_, rfl, hown, hbw⟩
end
section
open Go.RowKit Exch Merk Ring
/-! Attributes. -/
def atL (a : At) : List Value := [.string a.name, .int .i64 a.kind, .int .i64 a.n, .string a.s]
abbrev atC (a : At) : Array Value := #[.string a.name, .int .i64 a.kind, .int .i64 a.n, .string a.s]
theorem ze7 (a : At) : (atL a).length = 4 := rfl
def atsL (l : List At) : List Value := l.flatMap atL
theorem zrm (a : At) : (atC a).all (·.oneCell') = true := by simp [atC, Value.oneCell']
theorem aggAt : (Tryz.prog.underlying 100).map z0b = some true := by kernel_rfl
theorem zlt : (Tryz.prog.info? 100).map (·.size) = some 4 := by kernel_rfl
theorem zxf (W : World) : (zeroValue 100).run Tryz.prog W = .ok (.agg (atC ⟨⟨#[]⟩, 0, 0, ⟨#[]⟩⟩)) W := by kernel_rfl
structure RdA (W : World) (A : Option Addr) (n : Nat) (l : List At) : Prop where
 len : l.length = n
 rd : Rd W A (n * 4) (atsL l)
theorem RdA.below {W W' : World} {A : Option Addr} {n : Nat} {l : List At} (h : RdA W A n l) (hb : Below W.heap.size W W') : RdA W' A n l := ⟨h.len, h.rd.below hb⟩
theorem RdA.elem {W : World} {A : Option Addr} {n : Nat} {l : List At} (h : RdA W A n l) {i : Nat} (hi : i < l.length) : ∃ ad, A = some ad ∧ ∀ j u, (atL l[i])[j]? = some u → W.cell? ((ad.add (i * 4)).add j) = some u :=
 Rd.elem ze7 (by omega) h.rd hi
/-! Events: a row holds an event's numbers, its nonce, and where its vector and its attributes lie. -/
structure EvR where
 e : Ev
 vA : Option Addr
 vn : Nat
 vc : Nat
 aA : Option Addr
 an : Nat
 ac : Nat
def evL (r : EvR) : List Value := [.int .i64 r.e.kind, .int .i64 r.e.commit, .int .i64 r.e.day, .int .i64 r.e.id, .int .i64 r.e.owner, .int .i64 r.e.til, .int .i64 r.e.frm, .slice r.vA r.vn r.vc, .slice r.aA r.an r.ac] ++ bv (dg r.e.nonce)
abbrev evC (r : EvR) : Array Value := (evL r).toArray
abbrev evV (r : EvR) : Value := .agg (evC r)
theorem z2t (r : EvR) : (evL r).length = 25 := by unfold evL; rw [List.length_append, z03]; rfl
theorem z47 (r : EvR) : (evC r).size = 25 := by rw [evC, List.size_toArray, z2t]
theorem zfl (r : EvR) : ∀ u ∈ evL r, u.oneCell' = true := by
 intro u hu
 rcases List.mem_append.1 hu with hu | hu
 ·simp only [List.mem_cons, List.not_mem_nil, or_false] at hu
  rcases hu with rfl | rfl | rfl | rfl | rfl | rfl | rfl | rfl | rfl <;> rfl
 ·simp only [bv, List.mem_map] at hu
  obtain ⟨b, _, rfl⟩ := hu
  rfl
theorem zcw (r : EvR) : (evC r).all (·.oneCell') = true := by
 rw [Array.all_eq_true_iff_forall_mem]
 intro u hu
 exact zfl r u (by simpa [evC] using hu)
theorem z29 : (Tryz.prog.underlying 27).map z0b = some true := by kernel_rfl
theorem z1z : (Tryz.prog.info? 27).map (·.size) = some 25 := by kernel_rfl
structure z1d (W : World) (r : EvR) : Prop where
 vlen : r.e.vec.length = r.vn
 vrd : Rd W r.vA r.vn (iv r.e.vec)
 vcap : r.vn ≤ r.vc
 vmax : r.vc ≤ maxLen
 ard : RdA W r.aA r.an r.e.attrs
 acap : r.an ≤ r.ac
 amax : r.ac ≤ maxLen
 non : r.e.nonce < 2 ^ 128
theorem z1d.below {W W' : World} {r : EvR} (h : z1d W r) (hb : Below W.heap.size W W') : z1d W' r := ⟨h.vlen, h.vrd.below hb, h.vcap, h.vmax, h.ard.below hb, h.acap, h.amax, h.non⟩
structure z0x (e : Ev) : Prop where
 vec : z1j e.vec
 attrs : ∀ a ∈ e.attrs, (-9223372036854775808 ≤ a.kind ∧ a.kind ≤ 9223372036854775807) ∧ -9223372036854775808 ≤ a.n ∧ a.n ≤ 9223372036854775807
 nums : z1j [e.kind, e.commit, e.day, e.id, e.owner, e.til, e.frm]
structure z16 (e : Ev) : Prop where
 vec : e.vec.length ≤ 40
 attrs : e.attrs.length ≤ 20
 texts : ∀ a ∈ e.attrs, a.name.size ≤ 200 ∧ a.s.size ≤ 200
section
variable {W : World} {g : Nat} {T : TypeId} {r : EvR}
theorem z30 (hb : Blk W g T (evC r)) (j : Nat) : W.cell? ⟨g, j, none⟩ = (evL r)[j]? := by rw [hb.cell j, List.getElem?_toArray]
theorem zew (hb : Blk W g T (evC r)) : ∀ j u, (bv (dg r.e.nonce))[j]? = some u → W.cell? ((⟨g, 9, none⟩ : Addr).add j) = some u := by
 intro j u h
 have := z30 hb (9 + j)
 rw [show ((⟨g, 9, none⟩ : Addr).add j) = ⟨g, 9 + j, none⟩ by unfold Addr.add; split <;> simp_all, this]
 unfold evL
 rw [List.getElem?_append_right (by simp), show 9 + j - [Value.int .i64 r.e.kind, .int .i64 r.e.commit, .int .i64 r.e.day, .int .i64 r.e.id, .int .i64 r.e.owner, .int .i64 r.e.til, .int .i64 r.e.frm, .slice r.vA r.vn r.vc, .slice r.aA r.an r.ac].length = j by simp, h]
end
/-! Faces. -/
def fcL (f : Fc) : List Value := [.int .i64 f.kind, .int .i64 f.commit, .int .i64 f.day, .int .i64 f.id, .int .i64 f.owner, .int .i64 f.til, .int .i64 f.frm] ++ bv (dg f.blind)
abbrev fcC (f : Fc) : Array Value := (fcL f).toArray
abbrev fcV (f : Fc) : Value := .agg (fcC f)
theorem z39 (f : Fc) : (fcL f).length = 23 := by unfold fcL; rw [List.length_append, z03]; rfl
theorem yk (f : Fc) : (fcC f).size = 23 := by rw [fcC, List.size_toArray, z39]
theorem zfm (f : Fc) : ∀ u ∈ fcL f, u.oneCell' = true := by
 intro u hu
 rcases List.mem_append.1 hu with hu | hu
 ·simp only [List.mem_cons, List.not_mem_nil, or_false] at hu
  rcases hu with rfl | rfl | rfl | rfl | rfl | rfl | rfl <;> rfl
 ·simp only [bv, List.mem_map] at hu
  obtain ⟨b, _, rfl⟩ := hu
  rfl
theorem z2e (f : Fc) : (fcC f).all (·.oneCell') = true := by
 rw [Array.all_eq_true_iff_forall_mem]
 intro u hu
 exact zfm f u (by simpa [fcC] using hu)
theorem z1a : (Tryz.prog.underlying 29).map z0b = some true := by kernel_rfl
theorem z0d : (Tryz.prog.info? 29).map (·.size) = some 23 := by kernel_rfl
theorem z5m (W : World) : (zeroValue 29).run Tryz.prog W = .ok (fcV z0g) W := by kernel_rfl
/-! What is sealed of an event. -/
def z1s (l : List At) : List Int := l.flatMap fun a => [a.kind, a.n]
def z1i (l : List At) : List ByteArray := l.flatMap fun a => [a.name, a.s]
def z3k (e : Ev) : List ByteArray := [⟨(z1f e.vec).toArray⟩, ⟨(z1f (z1s e.attrs)).toArray⟩, ⟨(z4k (z1i e.attrs)).toArray⟩]
theorem zb5 (l : List At) : (z1s l).length = 2 * l.length := by
 induction l with
 | nil => rfl
 | cons a l ih => unfold z1s at ih ⊢; rw [List.flatMap_cons, List.length_append, ih]; simp; omega
theorem zbl (l : List At) : (z1i l).length = 2 * l.length := by
 induction l with
 | nil => rfl
 | cons a l ih => unfold z1i at ih ⊢; rw [List.flatMap_cons, List.length_append, ih]; simp; omega
end
section
open Go.RowKit Exch Merk Go.Shelf
theorem zhj (x y : Int) (W : World) : (Instr.buildSlice 22 2 #[(0, .int .i64 x), (1, .int .i64 y)]).run Tryz.prog W = .ok (.slice (some ⟨W.heap.size, 0, none⟩) 2 2) (W.alloc (.cells #[.int .i64 x, .int .i64 y] 3)) := by kernel_rfl
section
variable {w : World} {ops : Array Oper} {rest : List Oper} {o o1 o2 : Oper} {a : Act} {Q : Exit → Act → World → Prop}
theorem zdv (hg1 : o1.guard = none) (hg2 : o2.guard = none) (h1 : o1.op = .alloc 25) {x y : Operand} {n : Nat} (h2 : o2.op = .store 25 x y) (hx : ∀ p, (a.put o1.dst (.pointer p)).eval x = .pointer p)
  (hy : ∀ p, (a.put o1.dst (.pointer p)).eval y = dgV n)
  (h : ∀ w' g, w.heap.size ≤ g → Blk w' g 25 (dgC n) → Below w.heap.size w w' → wpList Tryz.prog ops Q rest ((a.put o1.dst (.pointer (some ⟨g, 0, none⟩))).put o2.dst undef) w') : wpList Tryz.prog ops Q (o1 :: o2 :: rest) a w :=
 z17 (z := dgC 0) (vs := dgC n) hg1 hg2 h1 h2 (z0n w) hx hy (by rw [yc, yc]) (by rw [yf, yc]) (z0c n) fun w' g hg h1 h2 _ => h w' g (by omega) h1 h2
theorem zwu (hw : Region.wanted o (yielded ops a.tmps) = true) {x y : Operand} {p q : Int} (ho : o.op = .buildSlice 22 2 #[(0, x), (1, y)]) (hx : a.eval x = .int .i64 p) (hy : a.eval y = .int .i64 q)
  (h : ∀ w' g, w.heap.size ≤ g → Rd w' (some ⟨g, 0, none⟩) 2 (iv [p, q]) → Below w.heap.size w w' → wpList Tryz.prog ops Q rest (a.put o.dst (.slice (some ⟨g, 0, none⟩) 2 2)) w') : wpList Tryz.prog ops Q (o :: rest) a w := by
 refine z8n hw fun K hK => ?_
 have h2 := h _ _ (Nat.le_refl _) (z5u (xs := iv [p, q]) (Blk.new w 3 _)) ((Below.refl _ _).alloc (Nat.le_refl _) _)
 unfold Oper.wp execOp
 simp only [ho, List.map_toArray, List.map_cons, List.map_nil, hx, hy, zhj, Sem.run_bind, Result.andThen_ok, Sem.run_pure]
 exact hK _ _ h2
end
end
end Go.Proofs.YtcapckngikekpaaGreatDoor
