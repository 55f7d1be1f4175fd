/-
  Known of the functions of this seat's laws, joined. Conditions: each theorem's own.
-/
import Derived.Test.YtcapckngikekpaaGreatDoorF12
namespace Go.Proofs.YtcapckngikekpaaGreatDoor
set_option linter.unusedSimpArgs false
set_option linter.unusedVariables false
set_option maxRecDepth 100000
set_option maxHeartbeats 16000000
section
open Go.RowKit Exch Merk Ring
def z4u (a : At) : Bool := decide (a.name.size ≤ 200) && decide (a.s.size ≤ 200)
def z3t (e : Ev) : Bool := decide (e.vec.length ≤ 40) && (decide (e.attrs.length ≤ 20) && e.attrs.all z4u)
theorem zpz (e : Ev) : z3t e = true ↔ z16 e := by
 unfold z3t z4u
 simp only [Bool.and_eq_true, decide_eq_true_eq, List.all_eq_true]
 exact ⟨fun h => ⟨h.1, h.2.1, h.2.2⟩, fun h => ⟨h.vec, h.attrs, h.texts⟩⟩
theorem zpy (l : List At) (i : Nat) (h : i < l.length) : (l.drop i).all z4u = (z4u l[i] && (l.drop (i + 1)).all z4u) := by
 rw [List.drop_eq_getElem_cons h, List.all_cons]
theorem zq0 (r : EvR) (w : World) (h : z1d w r) :
  Calls Tryz.prog 10 #[evV r] w (BIs (z3t r.e) w) := by
 obtain ⟨wa, hwa, hb0, q1⟩ := zaq w r
 have HWA := ya hwa
 have hcells := z30 q1
 have c7 : wa.cell? ⟨w.heap.size, 7, none⟩ = some (.slice r.vA r.vn r.vc) := hcells 7
 have c8 : wa.cell? ⟨w.heap.size, 8, none⟩ = some (.slice r.aA r.an r.ac) := hcells 8
 have hlt := q1.lt
 have HAR := ya (fun W (h' : Below w.heap.size w W) => h.ard.below h')
 have HAL := ya h.ard.len
 have HST := ya (zpy r.e.attrs)
 have hvl := h.vlen
 have hal := h.ard.len
 have HV : Hid (z3t r.e = (decide (r.vn ≤ 40) && (decide (r.an ≤ 20) && r.e.attrs.all z4u))) := ya (by unfold z3t; rw [hvl, hal])
 clear hwa hcells q1 h hvl hal
 generalize z3t r.e = X at *
 obtain ⟨e, vA, vn, vc, aA, an, ac⟩ := r
 dsimp only at c7 c8 HAR HAL HST HV
 unfold BIs
 by_cases h1 : vn ≤ 40
 rotate_left
 ·have d1 : decide ((40 : Int) < (vn : Int)) = true := by rw [decide_eq_true_eq]; omega
  have d1n : decide (40 < vn) = true := by rw [decide_eq_true_eq]; omega
  have hX : X = false := by rw [HV.out, show decide (vn ≤ 40) = false by simp [h1]]; rfl
  subst hX
  clear h1 HV HST HAR
  go_enter Tryz.func10, Tryz.ntmps10
  go_upto_region 1 with fail
  change Code.wp _ _ _ _ (w.alloc (.cells (evC ⟨e, vA, vn, vc, aA, an, ac⟩) 27))
  rw [← HWA.out]
  go_wp2_with fail
  go_ret
  exact ⟨rfl, hb0⟩
 have d1 : decide ((40 : Int) < (vn : Int)) = false := by rw [decide_eq_false_iff_not]; omega
 have d1n : decide (40 < vn) = false := by rw [decide_eq_false_iff_not]; omega
 by_cases h2 : an ≤ 20
 rotate_left
 ·have d2 : decide ((20 : Int) < (an : Int)) = true := by rw [decide_eq_true_eq]; omega
  have d2n : decide (20 < an) = true := by rw [decide_eq_true_eq]; omega
  have hX : X = false := by rw [HV.out, show decide (an ≤ 20) = false by simp [h2], Bool.false_and, Bool.and_false]
  subst hX
  clear h1 h2 HV HST HAR
  go_enter Tryz.func10, Tryz.ntmps10
  go_upto_region 1 with fail
  change Code.wp _ _ _ _ (w.alloc (.cells (evC ⟨e, vA, vn, vc, aA, an, ac⟩) 27))
  rw [← HWA.out]
  go_wp2_with fail
  go_ret
  exact ⟨rfl, hb0⟩
 have d2 : decide ((20 : Int) < (an : Int)) = false := by rw [decide_eq_false_iff_not]; omega
 have d2n : decide (20 < an) = false := by rw [decide_eq_false_iff_not]; omega
 have HX : Hid (X = e.attrs.all z4u) := ya (by rw [HV.out, show decide (vn ≤ 40) = true by simp [h1], show decide (an ≤ 20) = true by simp [h2], Bool.true_and, Bool.true_and])
 clear HV h1
 go_enter Tryz.func10, Tryz.ntmps10
 go_upto_region 1 with fail
 change Code.wp _ _ _ _ (w.alloc (.cells (evC ⟨e, vA, vn, vc, aA, an, ac⟩) 27))
 rw [← HWA.out]
 go_wp2_with fail
 clear d1 d1n d2 d2n c7
 go_loopw [3] (fun v3 wr => ∃ i : Nat, v3 = .int .i64 (i : Int) ∧ i ≤ an ∧ wr = wa ∧ Hid (e.attrs.all z4u = (e.attrs.drop i).all z4u)) (fun v3 _ => an - (intOf v3).toNat)
 case atStart => exact ⟨0, rfl, by omega, rfl, ya rfl⟩
 case round =>
  obtain ⟨i, rfl, hi, rfl, HI⟩ := hrel
  by_cases hin : i < an
  ·have hil : i < e.attrs.length := by rw [HAL.out]; exact hin
   have dj : decide ((i : Int) < (an : Int)) = true := by rw [decide_eq_true_eq]; omega
   obtain ⟨ad, rfl, hce⟩ := (HAR.out _ hb0).elem hil
   have HS := ya (HST.out i hil)
   generalize e.attrs[i] = x at *
   have hc0 : wr.cell? (ad.add (i * 4)) = some (.string x.name) := hce 0 _ rfl
   have hc3 : wr.cell? ⟨(ad.add (i * 4)).block, (ad.add (i * 4)).off + 3, none⟩ = some (.string x.s) := hce 3 _ rfl
   obtain ⟨sa, hsa⟩ : ∃ k, x.name.size = k := ⟨_, rfl⟩
   obtain ⟨sb, hsb⟩ : ∃ k, x.s.size = k := ⟨_, rfl⟩
   have HF : Hid (z4u x = (decide (sa ≤ 200) && decide (sb ≤ 200))) := ya (by unfold z4u; rw [hsa, hsb])
   clear hil hce HST
   by_cases k1 : sa ≤ 200
   ·have e1 : decide (200 < sa) = false := by rw [decide_eq_false_iff_not]; omega
    have e1i : decide ((200 : Int) < (sa : Int)) = false := by rw [decide_eq_false_iff_not]; omega
    by_cases k2 : sb ≤ 200
    ·have e2 : decide (200 < sb) = false := by rw [decide_eq_false_iff_not]; omega
     have e2i : decide ((200 : Int) < (sb : Int)) = false := by rw [decide_eq_false_iff_not]; omega
     have HN : Hid (e.attrs.all z4u = (e.attrs.drop (i + 1)).all z4u) := ya (by rw [HI.out, HS.out, HF.out]; simp [k1, k2])
     clear HI HS HF HX k1 k2
     go_wp2_with fail
     exact ⟨⟨i + 1, by go_num, by omega, (by first | rfl | trivial), HN⟩, by simp [intOf]; omega⟩
    ·have e2 : decide (200 < sb) = true := by rw [decide_eq_true_eq]; omega
     have e2i : decide ((200 : Int) < (sb : Int)) = true := by rw [decide_eq_true_eq]; omega
     have hX : X = false := by rw [HX.out, HI.out, HS.out, HF.out]; simp [k2]
     subst hX
     clear HI HS HF HX k1 k2
     go_wp2_with fail
     go_ret
     exact ⟨rfl, hb0⟩
   ·have e1 : decide (200 < sa) = true := by rw [decide_eq_true_eq]; omega
    have e1i : decide ((200 : Int) < (sa : Int)) = true := by rw [decide_eq_true_eq]; omega
    have hX : X = false := by rw [HX.out, HI.out, HS.out, HF.out]; simp [k1]
    subst hX
    clear HI HS HF HX k1
    go_wp2_with fail
    go_ret
    exact ⟨rfl, hb0⟩
  ·obtain rfl : i = an := by omega
   have hX : X = true := by rw [HX.out, HI.out, List.drop_of_length_le (by rw [HAL.out]; exact Nat.le_refl _)]; rfl
   subst hX
   clear HX HI HST
   go_wp2_with fail
   go_ret
   exact ⟨rfl, hb0⟩
def z9b (r : LgR) : Bool := (r.es.take 21).all (fun x => z3t x.e) && (decide (r.en ≤ 20) && (decide (r.hn ≤ 10) && decide (r.tn ≤ 60)))
theorem zq1 (l : List EvR) (i : Nat) (h : i < l.length) (h2 : i < 21) : ((l.take 21).drop i).all (fun x => z3t x.e) = (z3t l[i].e && ((l.take 21).drop (i + 1)).all (fun x => z3t x.e)) := by
 have h3 : i < (l.take 21).length := by rw [List.length_take]; omega
 rw [List.drop_eq_getElem_cons h3, List.all_cons, List.getElem_take]
structure z5p (r : LgR) : Prop where
 fine : ∀ x ∈ r.es, z16 x.e
 en : r.en ≤ 20
 hn : r.hn ≤ 10
 tn : r.tn ≤ 60
theorem zq2 (r : LgR) (h : r.es.length = r.en) : z9b r = true → z5p r := by
 unfold z9b
 simp only [Bool.and_eq_true, decide_eq_true_eq, List.all_eq_true]
 rintro ⟨h1, h2, h3, h4⟩
 rw [List.take_of_length_le (by omega)] at h1
 exact ⟨fun x hx => (zpz _).1 (h1 x hx), h2, h3, h4⟩
theorem zt9 (r : LgR) (w : World) (h : z0l w r) :
  Calls Tryz.prog 17 #[lgV r] w (BIs (z9b r) w) := by
 obtain ⟨wa, hwa, hb0, q1⟩ := z8d w r
 have HWA := ya hwa
 have c1 := z3v q1
 have c3 := zfh q1
 have c4 := z68 q1
 have hlt0 := q1.lt
 have HLL := ya h.ev.len
 have HE := ya (fun j (hj : j < r.es.length) W (hb : Below w.heap.size w W) => (h.ev.below hb).elem hj)
 have HF := ya (fun j (hj : j < r.es.length) W (hb : Below w.heap.size w W) => zq0 r.es[j] W ((h.ev.ok _ (List.getElem_mem hj)).below hb))
 have HST := ya (zq1 r.es)
 have HV : Hid (z9b r = ((r.es.take 21).all (fun x => z3t x.e) && (decide (r.en ≤ 20) && (decide (r.hn ≤ 10) && decide (r.tn ≤ 60))))) := ya rfl
 clear hwa q1 h
 generalize z9b r = X at *
 obtain ⟨o, A, n, c, es, s, tA, tn, tc, ts, hA, hnn, hc, hs⟩ := r
 dsimp only at c1 c3 c4 HLL HE HF HST HV
 unfold BIs
 go_enter Tryz.func17, Tryz.ntmps17
 go_upto_region 1 with fail
 change Code.wp _ _ _ _ (w.alloc (.cells (lgC ⟨o, A, n, c, es, s, tA, tn, tc, ts, hA, hnn, hc, hs⟩) 42))
 rw [← HWA.out]
 go_wp2_with fail
 go_loopw [3] (fun v3 wr => ∃ i : Nat, v3 = .int .i64 (i : Int) ∧ i ≤ n ∧ i ≤ 21 ∧ Below wa.heap.size wa wr ∧ Hid ((es.take 21).all (fun x => z3t x.e) = ((es.take 21).drop i).all (fun x => z3t x.e))) (fun v3 _ => n - (intOf v3).toNat)
 case atStart => exact ⟨0, rfl, by omega, by omega, Below.refl _ _, ya rfl⟩
 case round =>
  obtain ⟨i, rfl, hi, hi2, hbl, HI⟩ := hrel
  have hbw := yb hb0 hbl
  have c1r : wr.cell? ⟨w.heap.size, 1, none⟩ = some (.slice A n c) := by rw [hbl.cell (p := ⟨w.heap.size, 1, none⟩) hlt0]; exact c1
  have c3r : wr.cell? ⟨w.heap.size, 3, none⟩ = some (.slice tA tn tc) := by rw [hbl.cell (p := ⟨w.heap.size, 3, none⟩) hlt0]; exact c3
  have c4r : wr.cell? ⟨w.heap.size, 4, none⟩ = some (.slice hA hnn hc) := by rw [hbl.cell (p := ⟨w.heap.size, 4, none⟩) hlt0]; exact c4
  clear c1 c3 c4
  by_cases hin : i < n
  ·have dj : decide ((i : Int) < (n : Int)) = true := by rw [decide_eq_true_eq]; omega
   have djn : decide (i < n) = true := by rw [decide_eq_true_eq]; omega
   by_cases h21 : i < 21
   ·have dk : decide ((i : Int) < 21) = true := by rw [decide_eq_true_eq]; omega
    have dkn : decide (i < 21) = true := by rw [decide_eq_true_eq]; omega
    have hil : i < es.length := by rw [HLL.out]; exact hin
    obtain ⟨ad, rfl, hce⟩ := HE.out i hil wr hbw
    have HS := ya (HST.out i hil h21)
    have HFi := ya (HF.out i hil wr hbw)
    generalize es[i] = x at *
    generalize hfb : z3t x.e = fb at *
    unfold BIs at HFi
    clear hil HST HF HE hfb
    go_wp2_with ((with_reducible show sl 20); refine yj (us := evL x) rfl rfl rfl z29 (by rw [z1z, z2t]) hce ?_)
    refine HFi.out.mono ?_
    rintro e w4 ⟨rfl, hb4⟩
    cases fb with
    | true =>
     have HN : Hid ((es.take 21).all (fun x => z3t x.e) = ((es.take 21).drop (i + 1)).all (fun x => z3t x.e)) := ya (by rw [HI.out, HS.out, Bool.true_and])
     clear HI HS
     go_wp2_with fail
     exact ⟨⟨i + 1, by go_num, by omega, by omega, yb hbl hb4, HN⟩, by simp [intOf]; omega⟩
    | false =>
     have hX : X = false := by rw [HV.out, HI.out, HS.out, Bool.false_and, Bool.false_and]
     subst hX
     clear HI HS HV
     go_wp2_with fail
     go_ret
     exact ⟨rfl, yb hbw hb4⟩
   ·have dk : decide ((i : Int) < 21) = false := by rw [decide_eq_false_iff_not]; omega
    have dkn : decide (i < 21) = false := by rw [decide_eq_false_iff_not]; omega
    have d5 : decide ((n : Int) ≤ 20) = false := by rw [decide_eq_false_iff_not]; omega
    have d5n : decide (n ≤ 20) = false := by rw [decide_eq_false_iff_not]; omega
    have hX : X = false := by rw [HV.out, d5n, Bool.false_and, Bool.and_false]
    subst hX
    clear HI HV HST HF HE hin h21
    go_wp2_with fail
    go_ret
    exact ⟨rfl, hbw⟩
  ·obtain rfl : i = n := by omega
   have dj : decide ((i : Int) < (i : Int)) = false := by rw [decide_eq_false_iff_not]; omega
   have djn : decide (i < i) = false := by rw [decide_eq_false_iff_not]; omega
   have hall : (es.take 21).all (fun x => z3t x.e) = true := by rw [HI.out, List.drop_of_length_le (by rw [List.length_take, HLL.out]; omega)]; rfl
   have HX : Hid (X = (decide (i ≤ 20) && (decide (hnn ≤ 10) && decide (tn ≤ 60)))) := ya (by rw [HV.out, hall, Bool.true_and])
   clear HV HI HST HF HE hall hin hi
   by_cases k1 : i ≤ 20
   ·have d5 : decide ((i : Int) ≤ 20) = true := by rw [decide_eq_true_eq]; omega
    have d5n : decide (i ≤ 20) = true := by rw [decide_eq_true_eq]; omega
    by_cases k2 : hnn ≤ 10
    ·have d6 : decide ((hnn : Int) ≤ 10) = true := by rw [decide_eq_true_eq]; omega
     have d6n : decide (hnn ≤ 10) = true := by rw [decide_eq_true_eq]; omega
     have d7 : decide ((tn : Int) ≤ 60) = decide (tn ≤ 60) := by rw [decide_eq_decide]; omega
     have hX : X = decide (tn ≤ 60) := by rw [HX.out, d5n, d6n, Bool.true_and, Bool.true_and]
     clear HX k1 k2
     obtain ⟨bt, hbt⟩ : ∃ b, decide (tn ≤ 60) = b := ⟨_, rfl⟩
     rw [hbt] at hX d7
     subst hX
     go_wp2_with fail
     go_ret
     exact ⟨rfl, hbw⟩
    ·have d6 : decide ((hnn : Int) ≤ 10) = false := by rw [decide_eq_false_iff_not]; omega
     have d6n : decide (hnn ≤ 10) = false := by rw [decide_eq_false_iff_not]; omega
     have hX : X = false := by rw [HX.out, d6n, Bool.false_and, Bool.and_false]
     subst hX
     clear HX k1 k2
     go_wp2_with fail
     go_ret
     exact ⟨rfl, hbw⟩
   ·have d5 : decide ((i : Int) ≤ 20) = false := by rw [decide_eq_false_iff_not]; omega
    have d5n : decide (i ≤ 20) = false := by rw [decide_eq_false_iff_not]; omega
    have hX : X = false := by rw [HX.out, d5n, Bool.false_and]
    subst hX
    clear HX k1
    go_wp2_with fail
    go_ret
    exact ⟨rfl, hbw⟩
structure zby (H : He) (l : Lg) : Prop where
 off : 0 ≤ l.office ∧ l.office < 32
 len : l.events.length ≤ 65536
 size : l.size = (l.events.length : Int)
 tops : l.tops = z0i H.nd H.em (z00 H l.events)
 heads : ∀ h ∈ l.heads, 0 ≤ h.commit ∧ h.commit ≤ l.events.length
theorem ziv (H : He) (o : Int) (ev : List Ev) : ∀ (hs : List Hd) (la : Int), 0 ≤ la → z1w H o ev la hs = true → ∀ h ∈ hs, 0 ≤ h.commit ∧ h.commit ≤ ev.length
 | [], _, _, _, h, hh => absurd hh List.not_mem_nil
 | x :: l, la, h0, hg, h, hh => by
  rw [z1w] at hg
  split at hg
  ·rename_i hc
   rcases List.mem_cons.1 hh with rfl | hh
   ·exact ⟨by have := hc.2.1; omega, hc.2.2.1⟩
   ·exact ziv H o ev l x.commit (by have := hc.2.1; omega) hg h hh
  ·cases hg
theorem zw5 (H : He) (l : Lg) (h : z5i H l = true) : zby H l := by
 unfold z5i at h
 simp only [Bool.and_eq_true, decide_eq_true_eq] at h
 obtain ⟨⟨h1, h2, h3⟩, h4, h5, h6, h7⟩ := h
 exact ⟨⟨h1, h2⟩, h3, h6, h7.symm, ziv H _ _ _ 0 (Int.le_refl _) h5⟩
structure LgSm (l : Lg) : Prop where
 ev : ∀ e ∈ l.events, z0x e ∧ z16 e
 en : l.events.length ≤ 1000
 hn : l.heads.length ≤ 1000
 tn : l.tops.length ≤ 1000
theorem zr4 {W : World} {r : LgR} (h : z0l W r) (hw : ∀ x ∈ r.es, z0x x.e) (hf : z5p r) : LgSm (yx r) ∧ (yx r).events.length ≤ 20 ∧ (yx r).heads.length ≤ 10 := by
 have z := z5q.of h rfl
 have h1 := hf.en
 have h2 := hf.hn
 have h3 := hf.tn
 rw [z.en] at h1
 rw [z.hn] at h2
 rw [z.tn] at h3
 refine ⟨⟨fun e he => ?_, by omega, by omega, by omega⟩, h1, h2⟩
 obtain ⟨x, hx, rfl⟩ := List.mem_map.1 he
 exact ⟨hw x hx, hf.fine x hx⟩
theorem kv_c2 {W : World} {g : Nat} {T : TypeId} {k : Key} (q : Blk W g T (z0f k)) : W.cell? ⟨g, 2, none⟩ = some (.string k.secret) := by rw [q.cell 2]; rfl
def pvL (r : ShR) (A : Option Addr) (n c : Nat) (e : Int) : List Value := shL r ++ [.slice A n c, .int .i64 e]
abbrev pvC (r : ShR) (A : Option Addr) (n c : Nat) (e : Int) : Array Value := (pvL r A n c e).toArray
abbrev pvV (r : ShR) (A : Option Addr) (n c : Nat) (e : Int) : Value := .agg (pvC r A n c e)
theorem zfu (r : ShR) (A : Option Addr) (n c : Nat) (e : Int) : (pvC r A n c e).size = 62 := by
 unfold pvC pvL; rw [List.size_toArray, List.length_append, z71]; rfl
theorem z6a (r : ShR) (A : Option Addr) (n c : Nat) (e : Int) : (pvC r A n c e).all (·.oneCell') = true := by
 rw [Array.all_eq_true_iff_forall_mem]
 intro u hu
 have hu : u ∈ pvL r A n c e := by simpa [pvC] using hu
 rcases List.mem_append.1 hu with hu | hu
 ·have := z7r r
  rw [Array.all_eq_true_iff_forall_mem] at this
  exact this u (by simpa [shC] using hu)
 ·simp only [List.mem_cons, List.not_mem_nil, or_false] at hu
  rcases hu with rfl | rfl <;> rfl
theorem z7f : (Tryz.prog.underlying 73).map z0b = some true := by kernel_rfl
theorem z3o : (Tryz.prog.info? 73).map (·.size) = some 62 := by kernel_rfl
theorem ze3 (W : World) : (zeroValue 73).run Tryz.prog W = .ok (pvV z0u none 0 0 0) W := by kernel_rfl
theorem z8z (e : Int) (W : World) : (Instr.build 73 #[(2, .int .i64 e)]).run Tryz.prog W = .ok (pvV z0u none 0 0 e) W := by kernel_rfl
theorem znr (r : ShR) (W : World) : (Instr.build 73 #[(0, shV r)]).run Tryz.prog W = .ok (pvV r none 0 0 0) W := by kernel_rfl
theorem zns (A : Option Addr) (n c : Nat) (W : World) : (Instr.build 73 #[(1, .slice A n c)]).run Tryz.prog W = .ok (pvV z0u A n c 0) W := by kernel_rfl
theorem zik (v : Value) (e : Int) (W : World) (A : Option Addr) (n c : Nat) (h : v = .slice A n c) : (Instr.field 133 (.agg (ptC v e)) 0).run Tryz.prog W = .ok v W := by subst h; kernel_rfl
theorem zmk {P : Program} {ops : Array Oper} {S : World → Prop} {o : Oper} {a : Act} {T : TypeId} {i : Nat} {x : Operand} {vx v : Value} (ho : o.op = .build T #[(i, x)]) (hgd : o.guard = none) (hx : a.eval x = vx) (h : ∀ W, (Instr.build T #[(i, vx)]).run P W = .ok v W) : YieldsIf P ops S o v a := by
 refine .inl ⟨by simp [Region.wanted, hgd], fun w hS => ?_⟩
 unfold execOp
 simp only [ho, List.map_toArray, List.map_cons, List.map_nil, hx, Sem.run_bind, h, Result.andThen_ok, Sem.run_pure]
def zbz (p : Sh × Int) (w : World) (e : Ending) (w' : World) : Prop := ∃ r : ShR, e = .returned (pvV r none 0 0 p.2) ∧ r.s = p.1 ∧ z28 w' r ∧ r.n ≤ 1000000 ∧ Below w.heap.size w w'
theorem ztl {H : He} (L : Les H) (r : LgR) (c : Int) (h : Hd) (w : World) (hk : z0l w r) (hn : r.en ≤ 1000000) (hhn : r.hn ≤ 1000000) (hf : z3x r.es) (hi : z5o r) (lh : z0k h) (hg : RCon w) :
  Calls Tryz.prog 30 #[lgV r, .int .i64 c, hdV h] w (zbz (z6c H (yx r) c h) w) := by
 obtain ⟨wa, hwa, hb0, q0, q1, q2⟩ := bx3 w (lgC r) (hdC h) (pvC z0u none 0 0 0) 42 51 73
 have HWA := ya hwa
 have HQ0 := ya (fun W (h : Below wa.heap.size wa W) => q0.below h)
 have HQ1 := ya (fun W (h : Below wa.heap.size wa W) => q1.below h)
 have HQ2 := ya (fun W (h : Below wa.heap.size wa W) => q2.below h)
 have HLT : Hid (w.heap.size + 1 + 1 < wa.heap.size) := ya q2.lt
 have HA := ya (fun W (hb : Below w.heap.size w W) => zfz r h W (hk.below hb) hhn lh)
 have HI := ya hi
 have HLn := ya hk.ev.len
 have HLV := ya (fun k (hkk : k ≤ r.en) W (hb : Below w.heap.size w W) => zg2 L r k W (hk.below hb) hkk hn hf (hg.below hb))
 have HLE := ya (fun k (hkk : k ≤ r.en) => zbf H r.es k (by have := hk.ev.len; omega))
 have HIN := ya (fun l A n c i W (hn' : n ≤ 1000000) (hr : RdD W A n l) (hnc : n ≤ c) (hcm : c ≤ maxLen) (hb : Below w.heap.size w W) => ztd L.nds l i A n c W hn' hr hnc hcm (hg.below hb))
 have HE := ya (fun j (hj : j < r.es.length) W (hb : Below w.heap.size w W) => (hk.ev.below hb).elem hj)
 have HF := ya (fun j (hj : j < r.es.length) W (hb : Below w.heap.size w W) => zfy L r.es[j] W (((hk.below hb).ev.ok _ (List.getElem_mem hj))) (hf _ (List.getElem_mem hj)).1 (hf _ (List.getElem_mem hj)).2 (hg.below hb))
 have HG := ya (fun j (hj : j < r.es.length) => zcb H r.es j hj)
 have HFL := ya (fun e => zas L e)
 have HPL := ya (fun k i => ziz L.nds (z00 H ((ye r.es).take k)) i (zb0 L _))
 have HPN := ya (fun k i => ziy H.nd H.em (z00 H ((ye r.es).take k)) i)
 have HP0 := ya (fun (l : List Nat) (j : Nat) (hj : j < l.length) => (show (z21 H.nd H.em l (j : Int)).2 = 0 by unfold z21; rw [if_pos (by omega)]))
 have HLH := ya lh
 have HV : Hid (z6c H (yx r) c h = if h ∈ r.hs then (if 1 ≤ c ∧ c ≤ h.commit then (⟨((ye r.es)[c.toNat - 1]?.map (ym H)).getD z0g, (z21 H.nd H.em (z00 H ((ye r.es).take h.commit.toNat)) (c - 1)).1, h⟩, (z21 H.nd H.em (z00 H ((ye r.es).take h.commit.toNat)) (c - 1)).2) else (z55, 1)) else (z55, 5)) := ya (by
  rw [zaz]; rfl)
 have hsz : ∀ r' : ShR, (shC r').size = 60 := zdh
 have hps := zfu
 have h36 := z1v h
 have h5 := z5b r
 have z0 := ze3
 have yr := z11 q0
 have hch := yv (xs := hdL h) q1
 have hltz := HLT.out
 clear hwa q0 q1 q2 hk hf hi hg L
 generalize z6c H (yx r) c h = X at *
 unfold z61 BIs z1e at *
 unfold pvV at z0
 by_cases mh : h ∈ r.hs
 rotate_left
 ·have dm : decide (h ∈ r.hs) = false := by simpa using mh
  rw [dm] at HA
  have hX : X = (z55, 5) := by rw [HV.out, if_neg mh]
  subst hX
  clear HV HI HLV HLE HIN HE HF HG HFL HPL HPN
  unfold zbz
  go_enter Tryz.func30, Tryz.ntmps30
  go_upto_region 1 with (refine z2k rfl rfl (z0 _) ?_)
  change Code.wp _ _ _ _ (((w.alloc (.cells (lgC r) 42)).alloc (.cells (hdC h) 51)).alloc (.cells (pvC z0u none 0 0 0) 73))
  rw [← HWA.out]
  go_wp2_with (first
   | ((with_reducible show sl 8); refine yj (us := lgL r) rfl rfl rfl z04 (by rw [yy, h5]) yr ?_)
   | ((with_reducible show sl 9); refine yj (us := hdL h) rfl rfl rfl yz (by rw [yt, h36]) hch ?_))
  refine (HA.out _ hb0).mono ?_
  rintro e w1 ⟨rfl, hb1⟩
  have b2 := HQ2.out _ hb1
  go_wp2_with (first
   | ((with_reducible show sl 13); refine z2l rfl rfl rfl (z8z 5) ?_)
   | ((with_reducible show sn); refine z01 (vs := pvC z0u none 0 0 5) rfl rfl rfl rfl b2 (by rw [hps, hps]) (by rw [z3o, hps]) (z6a _ _ _ _ _) ?_; intro w9 ht9 b9))
  exact z02 rfl rfl rfl b9 z7f (by rw [z3o, hps]) ⟨z0u, rfl, rfl, z28.zero _, by decide, (yb hb0 hb1).trans (ht9.below _ (by omega))⟩
 have dmh : decide (h ∈ r.hs) = true := by simpa using mh
 rw [dmh] at HA
 have hbc := HI.out h mh
 obtain ⟨kb, hkb⟩ : ∃ k : Nat, h.commit = k := ⟨h.commit.toNat, by omega⟩
 have HV2 : Hid (X = if 1 ≤ c ∧ c ≤ (kb : Int) then (⟨((ye r.es)[c.toNat - 1]?.map (ym H)).getD z0g, (z21 H.nd H.em (z00 H ((ye r.es).take kb)) (c - 1)).1, h⟩, (z21 H.nd H.em (z00 H ((ye r.es).take kb)) (c - 1)).2) else (z55, 1)) := ya (by rw [HV.out, if_pos mh, hkb, Int.toNat_natCast])
 have hkn : kb ≤ r.en := by omega
 have HKB := ya hkb
 have HLVk := ya (HLV.out kb hkn)
 have HLEk := ya (HLE.out kb hkn)
 have HPLk := ya (HPL.out kb)
 have HPNk := ya (HPN.out kb)
 clear HV HI HLV HLE HPL HPN mh hkb hbc dmh
 by_cases hin : 1 ≤ c ∧ c ≤ (kb : Int)
 rotate_left
 ·have hX : X = (z55, 1) := by rw [HV2.out, if_neg hin]
  subst hX
  clear HV2 HLVk HLEk HPLk HPNk HIN HE HF HG HFL HP0
  unfold zbz
  by_cases h1 : c < 1
  ·have d1 : decide (c < 1) = true := by rw [decide_eq_true_eq]; omega
   clear hin
   go_enter Tryz.func30, Tryz.ntmps30
   go_upto_region 1 with (refine z2k rfl rfl (z0 _) ?_)
   change Code.wp _ _ _ _ (((w.alloc (.cells (lgC r) 42)).alloc (.cells (hdC h) 51)).alloc (.cells (pvC z0u none 0 0 0) 73))
   rw [← HWA.out]
   go_wp2_with (first
    | ((with_reducible show sl 8); refine yj (us := lgL r) rfl rfl rfl z04 (by rw [yy, h5]) yr ?_)
    | ((with_reducible show sl 9); refine yj (us := hdL h) rfl rfl rfl yz (by rw [yt, h36]) hch ?_))
   refine (HA.out _ hb0).mono ?_
   rintro e w1 ⟨rfl, hb1⟩
   have b2 := HQ2.out _ hb1
   go_wp2_with (first
    | ((with_reducible show sl 22); refine z2l rfl rfl rfl (z8z 1) ?_)
    | ((with_reducible show sn); refine z01 (vs := pvC z0u none 0 0 1) rfl rfl rfl rfl b2 (by rw [hps, hps]) (by rw [z3o, hps]) (z6a _ _ _ _ _) ?_; intro w9 ht9 b9))
   exact z02 rfl rfl rfl b9 z7f (by rw [z3o, hps]) ⟨z0u, rfl, rfl, z28.zero _, by decide, (yb hb0 hb1).trans (ht9.below _ (by omega))⟩
  ·have d1 : decide (c < 1) = false := by rw [decide_eq_false_iff_not]; omega
   have d2 : decide ((kb : Int) < c) = true := by rw [decide_eq_true_eq]; omega
   clear hin h1
   go_enter Tryz.func30, Tryz.ntmps30
   go_upto_region 1 with (refine z2k rfl rfl (z0 _) ?_)
   change Code.wp _ _ _ _ (((w.alloc (.cells (lgC r) 42)).alloc (.cells (hdC h) 51)).alloc (.cells (pvC z0u none 0 0 0) 73))
   rw [← HWA.out]
   go_wp2_with (first
    | ((with_reducible show sl 8); refine yj (us := lgL r) rfl rfl rfl z04 (by rw [yy, h5]) yr ?_)
    | ((with_reducible show sl 9); refine yj (us := hdL h) rfl rfl rfl yz (by rw [yt, h36]) hch ?_))
   refine (HA.out _ hb0).mono ?_
   rintro e w1 ⟨rfl, hb1⟩
   have b2 := HQ2.out _ hb1
   have y1 := z1k (HQ1.out _ hb1)
   rw [HKB.out] at y1
   go_wp2_with (first
    | ((with_reducible show sl 22); refine z2l rfl rfl rfl (z8z 1) ?_)
    | ((with_reducible show sn); refine z01 (vs := pvC z0u none 0 0 1) rfl rfl rfl rfl b2 (by rw [hps, hps]) (by rw [z3o, hps]) (z6a _ _ _ _ _) ?_; intro w9 ht9 b9))
   exact z02 rfl rfl rfl b9 z7f (by rw [z3o, hps]) ⟨z0u, rfl, rfl, z28.zero _, by decide, (yb hb0 hb1).trans (ht9.below _ (by omega))⟩
 obtain ⟨j, rfl⟩ : ∃ j : Nat, c = ((j + 1 : Nat) : Int) := ⟨c.toNat - 1, by omega⟩
 have hjk : j < kb := by omega
 have hje : j < r.es.length := by rw [HLn.out]; omega
 have HX : Hid (X = (⟨ym H r.es[j].e, (z21 H.nd H.em (z00 H ((ye r.es).take kb)) (j : Int)).1, h⟩, (0 : Int))) := ya (by
  rw [HV2.out, if_pos hin, show ((j + 1 : Nat) : Int).toNat - 1 = j by omega, HG.out j hje, show ((j + 1 : Nat) : Int) - 1 = (j : Int) by omega, HP0.out _ j (by rw [HLEk.out]; exact hjk)])
 have HPLj := ya (HPLk.out (j : Int))
 have HPNj := ya (HPNk.out (j : Int))
 have d1 : decide (((j + 1 : Nat) : Int) < 1) = false := by rw [decide_eq_false_iff_not]; omega
 have d2 : decide ((kb : Int) < ((j + 1 : Nat) : Int)) = false := by rw [decide_eq_false_iff_not]; omega
 have hm : 0 ≤ ((j + 1 : Nat) : Int) - 1 ∧ ((j + 1 : Nat) : Int) - 1 < (r.en : Int) := by omega
 have hj1 : ((j + 1 : Nat) : Int) - 1 = (j : Int) := by omega
 have hJ : 1 ≤ ((j + 1 : Nat) : Int) ∧ ((j + 1 : Nat) : Int) ≤ 1000000 := by omega
 have hwr : Go.IntKind.i64.wrap (((j + 1 : Nat) : Int) - 1) = (j : Int) := by rw [IntKind.wrap_i64]; omega
 have HFj := ya (HF.out j hje)
 have HEj := ya (HE.out j hje)
 have hfl := HFL.out r.es[j].e
 generalize r.es[j] = ev at *
 generalize ym H ev.e = F at *
 generalize z00 H ((ye r.es).take kb) = LV at *
 have HINk := ya (fun A n c W => HIN.out LV A n c (j : Int) W)
 unfold z5r at HINk
 generalize z21 H.nd H.em LV (j : Int) = Y at *
 generalize HD : ((j + 1 : Nat) : Int) = J at *
 clear HV2 hin HF HE HIN HG hje HD HPLk HPNk HFL HP0
 obtain ⟨ny, hny⟩ : ∃ n, Y.1.length = n := ⟨_, rfl⟩
 have HNY := ya hny
 have HN3 : Hid (ny ≤ 1000000) := ya (by have := HPNj.out; have := HLEk.out; omega)
 clear hny
 go_enter Tryz.func30, Tryz.ntmps30
 go_upto_region 1 with (refine z2k rfl rfl (z0 _) ?_)
 change Code.wp _ _ _ _ (((w.alloc (.cells (lgC r) 42)).alloc (.cells (hdC h) 51)).alloc (.cells (pvC z0u none 0 0 0) 73))
 rw [← HWA.out]
 go_wp2_with (first
  | ((with_reducible show sl 8); refine yj (us := lgL r) rfl rfl rfl z04 (by rw [yy, h5]) yr ?_)
  | ((with_reducible show sl 9); refine yj (us := hdL h) rfl rfl rfl yz (by rw [yt, h36]) hch ?_))
 refine (HA.out _ hb0).mono ?_
 rintro e w1 ⟨rfl, hb1⟩
 have y1 := z1k (HQ1.out _ hb1)
 rw [HKB.out] at y1
 have zr := z11 (HQ0.out _ hb1)
 have x1 := z3v (HQ0.out _ hb1)
 have hch2 := yv (xs := hdL h) (HQ1.out _ hb1)
 have b2 := HQ2.out _ hb1
 have hz1 := hb1.size
 replace hb0 := yb hb0 hb1
 obtain ⟨ad, hA, hce⟩ := HEj.out _ hb0
 rw [hA] at x1
 have h25 := z2t ev
 clear yr hch hb1 hA
 go_upto_region 6 with fail
 have hS : Below w1.heap.size w1 w1.drew := (Below.refl _ _).drew
 refine yq 18 (by kernel_rfl) ?_
 refine WpT.tk 0 hS ?_
 simp only [nrm]
 refine WpT.tl 1 rfl (yh rfl rfl rfl (by kernel_rfl) x1) hS ?_
 simp only [nrm]
 refine WpT.tk 2 hS ?_
 simp only [nrm]
 refine WpT.tk 3 hS ?_
 simp only [nrm]
 refine WpT.tk 4 hS ?_
 simp only [nrm]
 refine WpT.tl 5 rfl (z07 (us := evL ev) rfl rfl rfl z29 (by rw [z1z, h25]) hce) hS ?_
 simp only [nrm]
 refine WpT.tl 7 rfl (z07 (us := lgL r) rfl rfl rfl z04 (by rw [yy, h5]) zr) hS ?_
 simp only [nrm]
 refine WpT.tk 8 hS ?_
 simp only [nrm]
 refine WpT.tl 9 rfl (yh rfl rfl rfl (by kernel_rfl) y1) hS ?_
 simp only [nrm]
 refine WpT.tk 11 hS ?_
 simp only [nrm]
 refine WpT.tk 12 hS ?_
 simp only [nrm]
 refine WpT.tl 15 rfl (z07 (us := hdL h) rfl rfl rfl yz (by rw [yt, h36]) hch2) hS ?_
 simp only [nrm]
 refine WpT.on 6 rfl (fun K hK => ?_)
 go_simp; refine (HFj.out _ (yb hb0 hS)).mono ?_; rintro e w4 ⟨rfl, hb4⟩; (try replace rV := rV.below hb4); (try replace o5 := o5.below hb4); replace hS := yb hS hb4
 refine hK _ _ hS ?_; clear hK K; try simp only [nrm]
 refine WpT.on 10 rfl (fun K hK => ?_)
 go_simp; refine (HLVk.out _ (yb hb0 hS)).mono ?_; rintro e w2 ⟨v2, rfl, o2, hb2⟩; obtain ⟨A2, c2, rfl, n2, m2, rV⟩ := yg.formN o2 HLEk.out; clear o2; replace hS := yb hS hb2
 refine hK _ _ hS ?_; clear hK K; try simp only [nrm]
 refine WpT.on 13 rfl (fun K hK => ?_)
 go_simp; refine (HINk.out _ _ _ _ (by omega) rV n2 m2 (yb hb0 hS)).mono ?_; rintro e w3 ⟨v3, rfl, o3, hb3⟩; have o5 := yg.lower o3 hS.size; clear o3; obtain ⟨A5, c5, rfl, n5, m5, r5⟩ := yg.formN o5 HNY.out; clear r5; replace hS := yb hS hb3
 refine hK _ _ hS ?_; clear hK K; try simp only [nrm]
 refine WpT.tl 14 rfl (zgx rfl rfl (by rfl) (fun W => zik (.slice A5 ny c5) _ W A5 ny c5 rfl)) hS ?_
 simp only [nrm]
 refine WpT.tl 16 rfl (za9 rfl rfl (by rfl) (by rfl) (by rfl) (zhl F A5 ny c5 h Y.1)) hS ?_
 simp only [nrm]
 refine WpT.tl 17 rfl (zmk rfl rfl (by rfl) (znr ⟨⟨F, Y.1, h⟩, A5, ny, c5⟩)) hS ?_
 simp only [nrm]
 refine WpT.ta 18 rfl (fun K hK => ?_)
 refine z09 (vs := pvC ⟨⟨F, Y.1, h⟩, A5, ny, c5⟩ none 0 0 0) rfl (by rfl) (by rfl) (b2.below hS) (by rw [hps, hps]) (by rw [z3o, hps]) (z6a _ _ _ _ _) ?_; intro w9 ht9 b9
 refine hK _ _ ?_; clear hK K; try simp only [nrm]
 refine WpT.done (by kernel_rfl) ?_ _
 go_wp2_with fail; have o9 := ht9.own o5 (fun e => by have := (World.ownsRow.lt o5 _ e).1; omega); obtain ⟨A6, c6, he6, n6, m6, r6⟩ := yg.formN o9 HNY.out; injection he6 with i1 i2 i3; subst i1; subst i3; refine z02 rfl rfl rfl b9 z7f (by rw [z3o, hps]) ?_; have hX := HX.out; subst hX; exact ⟨⟨⟨F, Y.1, h⟩, A5, ny, c5⟩, rfl, rfl, ⟨r6, n5, m5, HPLj.out, hfl, HLH.out⟩, HN3.out, (yb hb0 hS).trans (ht9.below _ (by omega))⟩
def z8w (p : List Nat × Int) (w : World) (e : Ending) (w' : World) : Prop := ∃ A n c, e = .returned (pvV z0u A n c p.2) ∧ n = p.1.length ∧ yg w' w.heap.size (.slice A n c) p.1 ∧ Below w.heap.size w w'
theorem zsv {H : He} (L : Les H) (r : LgR) (a b : Hd) (w : World) (h : z0l w r) (hn : r.en ≤ 1000000) (hh : r.hn ≤ 1000000) (hf : z3x r.es) (hi : z5o r) (la : z0k a) (lb : z0k b) (hg : RCon w) :
  Calls Tryz.prog 31 #[lgV r, hdV a, hdV b] w (z8w (z4j H (yx r) a b) w) := by
 obtain ⟨wa, hwa, hb0, q0, q1, q2, q3⟩ := bx4 w (lgC r) (hdC a) (hdC b) (pvC z0u none 0 0 0) 42 51 51 73
 have HWA := ya hwa
 have HQ0 := ya (fun W (h : Below wa.heap.size wa W) => q0.below h)
 have HQ1 := ya (fun W (h : Below wa.heap.size wa W) => q1.below h)
 have HQ2 := ya (fun W (h : Below wa.heap.size wa W) => q2.below h)
 have HQ3 := ya (fun W (h : Below wa.heap.size wa W) => q3.below h)
 have hltz := q3.lt
 have HA := ya (fun W (hb : Below w.heap.size w W) => zfz r a W (h.below hb) hh la)
 have HB := ya (fun W (hb : Below w.heap.size w W) => zfz r b W (h.below hb) hh lb)
 have HI := ya hi
 have HLV := ya (fun k (hk : k ≤ r.en) W (hb : Below w.heap.size w W) => zg2 L r k W (h.below hb) hk hn hf (hg.below hb))
 have HLE := ya (fun k (hk : k ≤ r.en) => zbf H r.es k (by have := h.ev.len; omega))
 have HCS := ya (fun l A n c i W (hn' : n ≤ 1000000) (hr : RdD W A n l) (hnc : n ≤ c) (hcm : c ≤ maxLen) (hb : Below w.heap.size w W) => zsw L.nds l i A n c W hn' hr hnc hcm (hg.below hb))
 have HC0 := ya (fun (l : List Nat) (x : Int) (h0 : 0 ≤ x) (h1 : x ≤ l.length) => (show (z2s H.nd H.em l x).2 = 0 by unfold z2s; rw [if_pos ⟨h0, h1⟩]; split <;> rfl))
 have HV : Hid (z4j H (yx r) a b = if a ∈ r.hs ∧ b ∈ r.hs then (if a.commit ≤ b.commit then z2s H.nd H.em (z00 H ((ye r.es).take b.commit.toNat)) a.commit else ([], 1)) else ([], 5)) := ya (by
  rw [zaz]; rfl)
 have h36 := z1v
 have h5 := z5b r
 have hps := zfu
 have z0 := ze3
 have yr := z11 q0
 have hca := yv (xs := hdL a) q1
 clear hwa q0 q1 q2 q3 h hf hi hg L
 generalize z4j H (yx r) a b = X at *
 unfold z61 BIs at *
 unfold pvV at z0
 by_cases ma : a ∈ r.hs
 rotate_left
 ·have dm : decide (a ∈ r.hs) = false := by simpa using ma
  rw [dm] at HA
  have hX : X = ([], 5) := by rw [HV.out, if_neg (fun h => ma h.1)]
  subst hX
  obtain ⟨bb, hbb⟩ : ∃ x, decide (b ∈ r.hs) = x := ⟨_, rfl⟩
  rw [hbb] at HB
  clear HV HI HLV HLE HCS HC0 hbb
  unfold z8w
  go_enter Tryz.func31, Tryz.ntmps31
  go_upto_region 1 with (refine z2k rfl rfl (z0 _) ?_)
  change Code.wp _ _ _ _ ((((w.alloc (.cells (lgC r) 42)).alloc (.cells (hdC a) 51)).alloc (.cells (hdC b) 51)).alloc (.cells (pvC z0u none 0 0 0) 73))
  rw [← HWA.out]
  go_wp2_with (first
   | ((with_reducible show sl 9); refine yj (us := lgL r) rfl rfl rfl z04 (by rw [yy, h5]) yr ?_)
   | ((with_reducible show sl 10); refine yj (us := hdL a) rfl rfl rfl yz (by rw [yt, h36]) hca ?_))
  refine (HA.out _ hb0).mono ?_
  rintro e w1 ⟨rfl, hb1⟩
  have yr1 := z11 (HQ0.out _ hb1)
  have hcb := yv (xs := hdL b) (HQ2.out _ hb1)
  go_wp2_with (first
   | ((with_reducible show sl 12); refine yj (us := lgL r) rfl rfl rfl z04 (by rw [yy, h5]) yr1 ?_)
   | ((with_reducible show sl 13); refine yj (us := hdL b) rfl rfl rfl yz (by rw [yt, h36]) hcb ?_))
  refine (HB.out _ (yb hb0 hb1)).mono ?_
  rintro e w2 ⟨rfl, hb2⟩
  replace hb1 := yb hb1 hb2
  replace hb0 := yb hb0 hb1
  have b3 := HQ3.out _ hb1
  have hz1 := hb1.size
  clear yr yr1 hca hcb hb2
  go_wp2_with (first
   | ((with_reducible show sl 21); refine z2l rfl rfl rfl (z8z 5) ?_)
   | ((with_reducible show sn); refine z01 (vs := pvC z0u none 0 0 5) rfl rfl rfl rfl b3 (by rw [hps, hps]) (by rw [z3o, hps]) (z6a _ _ _ _ _) ?_; intro w9 ht9 b9))
  exact z02 rfl rfl rfl b9 z7f (by rw [z3o, hps]) ⟨none, 0, 0, rfl, rfl, yg.nil _ _, hb0.trans (ht9.below _ (by omega))⟩
 have dma : decide (a ∈ r.hs) = true := by simpa using ma
 rw [dma] at HA
 by_cases mb : b ∈ r.hs
 rotate_left
 ·have dm : decide (b ∈ r.hs) = false := by simpa using mb
  rw [dm] at HB
  have hX : X = ([], 5) := by rw [HV.out, if_neg (fun h => mb h.2)]
  subst hX
  clear HV HI HLV HLE HCS HC0
  unfold z8w
  go_enter Tryz.func31, Tryz.ntmps31
  go_upto_region 1 with (refine z2k rfl rfl (z0 _) ?_)
  change Code.wp _ _ _ _ ((((w.alloc (.cells (lgC r) 42)).alloc (.cells (hdC a) 51)).alloc (.cells (hdC b) 51)).alloc (.cells (pvC z0u none 0 0 0) 73))
  rw [← HWA.out]
  go_wp2_with (first
   | ((with_reducible show sl 9); refine yj (us := lgL r) rfl rfl rfl z04 (by rw [yy, h5]) yr ?_)
   | ((with_reducible show sl 10); refine yj (us := hdL a) rfl rfl rfl yz (by rw [yt, h36]) hca ?_))
  refine (HA.out _ hb0).mono ?_
  rintro e w1 ⟨rfl, hb1⟩
  have yr1 := z11 (HQ0.out _ hb1)
  have hcb := yv (xs := hdL b) (HQ2.out _ hb1)
  go_wp2_with (first
   | ((with_reducible show sl 12); refine yj (us := lgL r) rfl rfl rfl z04 (by rw [yy, h5]) yr1 ?_)
   | ((with_reducible show sl 13); refine yj (us := hdL b) rfl rfl rfl yz (by rw [yt, h36]) hcb ?_))
  refine (HB.out _ (yb hb0 hb1)).mono ?_
  rintro e w2 ⟨rfl, hb2⟩
  replace hb1 := yb hb1 hb2
  replace hb0 := yb hb0 hb1
  have b3 := HQ3.out _ hb1
  have hz1 := hb1.size
  clear yr yr1 hca hcb hb2
  go_wp2_with (first
   | ((with_reducible show sl 21); refine z2l rfl rfl rfl (z8z 5) ?_)
   | ((with_reducible show sn); refine z01 (vs := pvC z0u none 0 0 5) rfl rfl rfl rfl b3 (by rw [hps, hps]) (by rw [z3o, hps]) (z6a _ _ _ _ _) ?_; intro w9 ht9 b9))
  exact z02 rfl rfl rfl b9 z7f (by rw [z3o, hps]) ⟨none, 0, 0, rfl, rfl, yg.nil _ _, hb0.trans (ht9.below _ (by omega))⟩
 have dmb : decide (b ∈ r.hs) = true := by simpa using mb
 rw [dmb] at HB
 have HV2 : Hid (X = if a.commit ≤ b.commit then z2s H.nd H.em (z00 H ((ye r.es).take b.commit.toNat)) a.commit else ([], 1)) := ya (by rw [HV.out, if_pos ⟨ma, mb⟩])
 have hbc := HI.out b mb
 have hac0 := (HI.out a ma).1
 obtain ⟨k, hk⟩ : ∃ k : Nat, b.commit = k := ⟨b.commit.toNat, by omega⟩
 have hkn : k ≤ r.en := by omega
 have HKB := ya hk
 have hkk : b.commit.toNat = k := by omega
 rw [hkk] at HV2
 have HLVk := ya (HLV.out k hkn)
 have HLEk := ya (HLE.out k hkn)
 generalize z00 H ((ye r.es).take k) = LV at *
 obtain ⟨ac, hac⟩ : ∃ x, a.commit = x := ⟨_, rfl⟩
 have HAC := ya hac
 rw [hac, hk] at HV2
 rw [hac] at hac0
 clear HV HI HLV HLE ma mb dma dmb hbc hk hkk hac
 rcases z9f ac (k : Int) with ⟨t1, e1, f1⟩ | ⟨t1, e1, f1⟩
 rotate_left
 ·have hX : X = ([], 1) := by rw [HV2.out, if_neg t1]
  subst hX
  clear HV2 HLVk HLEk HCS HC0
  unfold z8w
  go_enter Tryz.func31, Tryz.ntmps31
  go_upto_region 1 with (refine z2k rfl rfl (z0 _) ?_)
  change Code.wp _ _ _ _ ((((w.alloc (.cells (lgC r) 42)).alloc (.cells (hdC a) 51)).alloc (.cells (hdC b) 51)).alloc (.cells (pvC z0u none 0 0 0) 73))
  rw [← HWA.out]
  go_wp2_with (first
   | ((with_reducible show sl 9); refine yj (us := lgL r) rfl rfl rfl z04 (by rw [yy, h5]) yr ?_)
   | ((with_reducible show sl 10); refine yj (us := hdL a) rfl rfl rfl yz (by rw [yt, h36]) hca ?_))
  refine (HA.out _ hb0).mono ?_
  rintro e w1 ⟨rfl, hb1⟩
  have yr1 := z11 (HQ0.out _ hb1)
  have hcb := yv (xs := hdL b) (HQ2.out _ hb1)
  go_wp2_with (first
   | ((with_reducible show sl 12); refine yj (us := lgL r) rfl rfl rfl z04 (by rw [yy, h5]) yr1 ?_)
   | ((with_reducible show sl 13); refine yj (us := hdL b) rfl rfl rfl yz (by rw [yt, h36]) hcb ?_))
  refine (HB.out _ (yb hb0 hb1)).mono ?_
  rintro e w2 ⟨rfl, hb2⟩
  replace hb1 := yb hb1 hb2
  replace hb0 := yb hb0 hb1
  have b3 := HQ3.out _ hb1
  have hz1 := hb1.size
  clear yr yr1 hca hcb hb2
  have y1 := z1k (HQ1.out _ hb1)
  rw [HAC.out] at y1
  have y2 := z1k (HQ2.out _ hb1)
  rw [HKB.out] at y2
  go_wp2_with (first
   | ((with_reducible show sl 27); refine z2l rfl rfl rfl (z8z 1) ?_)
   | ((with_reducible show sn); refine z01 (vs := pvC z0u none 0 0 1) rfl rfl rfl rfl b3 (by rw [hps, hps]) (by rw [z3o, hps]) (z6a _ _ _ _ _) ?_; intro w9 ht9 b9))
  exact z02 rfl rfl rfl b9 z7f (by rw [z3o, hps]) ⟨none, 0, 0, rfl, rfl, yg.nil _ _, hb0.trans (ht9.below _ (by omega))⟩
 have HX : Hid (X = z2s H.nd H.em LV ac) := ya (by rw [HV2.out, if_pos t1])
 have HX0 : Hid ((z2s H.nd H.em LV ac).2 = 0) := ya (HC0.out LV ac hac0 (by rw [HLEk.out]; exact t1))
 have HCSk := ya (fun A n c W => HCS.out LV A n c ac W)
 unfold z5r at HCSk
 generalize z2s H.nd H.em LV ac = Y at *
 clear HV2 HCS HC0 hac0 t1
 obtain ⟨ny, hny⟩ : ∃ n, Y.1.length = n := ⟨_, rfl⟩
 have HNY := ya hny
 clear hny
 go_enter Tryz.func31, Tryz.ntmps31
 go_upto_region 1 with (refine z2k rfl rfl (z0 _) ?_)
 change Code.wp _ _ _ _ ((((w.alloc (.cells (lgC r) 42)).alloc (.cells (hdC a) 51)).alloc (.cells (hdC b) 51)).alloc (.cells (pvC z0u none 0 0 0) 73))
 rw [← HWA.out]
 go_wp2_with (first
  | ((with_reducible show sl 9); refine yj (us := lgL r) rfl rfl rfl z04 (by rw [yy, h5]) yr ?_)
  | ((with_reducible show sl 10); refine yj (us := hdL a) rfl rfl rfl yz (by rw [yt, h36]) hca ?_))
 refine (HA.out _ hb0).mono ?_
 rintro e w1 ⟨rfl, hb1⟩
 have yr1 := z11 (HQ0.out _ hb1)
 have hcb := yv (xs := hdL b) (HQ2.out _ hb1)
 go_wp2_with (first
  | ((with_reducible show sl 12); refine yj (us := lgL r) rfl rfl rfl z04 (by rw [yy, h5]) yr1 ?_)
  | ((with_reducible show sl 13); refine yj (us := hdL b) rfl rfl rfl yz (by rw [yt, h36]) hcb ?_))
 refine (HB.out _ (yb hb0 hb1)).mono ?_
 rintro e w2 ⟨rfl, hb2⟩
 replace hb1 := yb hb1 hb2
 replace hb0 := yb hb0 hb1
 have b3 := HQ3.out _ hb1
 have hz1 := hb1.size
 clear yr yr1 hca hcb hb2
 have y1 := z1k (HQ1.out _ hb1)
 rw [HAC.out] at y1
 have y2 := z1k (HQ2.out _ hb1)
 rw [HKB.out] at y2
 have zr := z11 (HQ0.out _ hb1)
 go_upto_region 7 with fail
 have hS : Below w2.heap.size w2 w2.drew := (Below.refl _ _).drew
 refine yq 9 (by kernel_rfl) ?_
 refine WpT.tl 0 rfl (z07 (us := lgL r) rfl rfl rfl z04 (by rw [yy, h5]) zr) hS ?_
 simp only [nrm]
 refine WpT.tk 1 hS ?_
 simp only [nrm]
 refine WpT.tl 2 rfl (yh rfl rfl rfl (by kernel_rfl) y2) hS ?_
 simp only [nrm]
 refine WpT.tk 4 hS ?_
 simp only [nrm]
 refine WpT.tl 5 rfl (yh rfl rfl rfl (by kernel_rfl) y1) hS ?_
 simp only [nrm]
 refine WpT.on 3 rfl (fun K hK => ?_)
 go_simp; refine (HLVk.out _ (yb hb0 hS)).mono ?_; rintro e w4 ⟨v2, rfl, o2, hb4⟩; obtain ⟨A2, c2, rfl, n2, m2, rV⟩ := yg.formN o2 HLEk.out; clear o2; replace hS := yb hS hb4
 refine hK _ _ hS ?_; clear hK K; try simp only [nrm]
 refine WpT.on 6 rfl (fun K hK => ?_)
 go_simp; refine (HCSk.out _ _ _ _ (by omega) rV n2 m2 (yb hb0 hS)).mono ?_; rintro e w3 ⟨v3, rfl, o3, hb3⟩; have o5 := yg.lower o3 hS.size; clear o3; obtain ⟨A5, c5, rfl, n5, m5, r5⟩ := yg.formN o5 HNY.out; clear r5; replace hS := yb hS hb3
 refine hK _ _ hS ?_; clear hK K; try simp only [nrm]
 refine WpT.tl 7 rfl (zgx rfl rfl (by rfl) (fun W => zik (.slice A5 ny c5) _ W A5 ny c5 rfl)) hS ?_
 simp only [nrm]
 refine WpT.tl 8 rfl (zmk rfl rfl (by rfl) (zns A5 ny c5)) hS ?_
 simp only [nrm]
 refine WpT.ta 9 rfl (fun K hK => ?_)
 refine z09 (vs := pvC z0u A5 ny c5 0) rfl (by rfl) (by rfl) (b3.below hS) (by rw [hps, hps]) (by rw [z3o, hps]) (z6a _ _ _ _ _) ?_; intro w9 ht9 b9
 refine hK _ _ ?_; clear hK K; try simp only [nrm]
 refine WpT.done (by kernel_rfl) ?_ _
 skip
 go_wp2_with fail
 have o9 := ht9.own o5 (fun e => by have := (World.ownsRow.lt o5 _ e).1; omega)
 refine z02 rfl rfl rfl b9 z7f (by rw [z3o, hps]) ?_
 unfold z8w
 have hX := HX.out
 subst hX
 rw [HX0.out]
 exact ⟨A5, ny, c5, rfl, HNY.out.symm, yg.lower o9 (by omega), (yb hb0 hS).trans (ht9.below _ (by omega))⟩
def gvL (r : Rc) (e : Int) : List Value := rcL r ++ [.int .i64 e]
abbrev gvC (r : Rc) (e : Int) : Array Value := (gvL r e).toArray
abbrev gvV (r : Rc) (e : Int) : Value := .agg (gvC r e)
theorem zir (r : Rc) (e : Int) : (gvC r e).size = 42 := by unfold gvC gvL; rw [List.size_toArray, List.length_append, z50]; rfl
theorem zb7 (r : Rc) (e : Int) : (gvC r e).all (·.oneCell') = true := by
 rw [Array.all_eq_true_iff_forall_mem]
 intro u hu
 have hu : u ∈ gvL r e := by simpa [gvC] using hu
 rcases List.mem_append.1 hu with hu | hu
 ·exact zjy r u hu
 ·rw [List.mem_singleton.1 hu]; rfl
theorem zc1 : (Tryz.prog.underlying 77).map z0b = some true := by kernel_rfl
theorem z72 : (Tryz.prog.info? 77).map (·.size) = some 42 := by kernel_rfl
theorem zmm (W : World) : (zeroValue 77).run Tryz.prog W = .ok (gvV z19 0) W := by kernel_rfl
theorem zee (e : Int) (W : World) : (Instr.build 77 #[(1, .int .i64 e)]).run Tryz.prog W = .ok (gvV z19 e) W := by kernel_rfl
theorem znq (r : Rc) (W : World) : (Instr.build 77 #[(0, rcV r)]).run Tryz.prog W = .ok (gvV r 0) W := by kernel_rfl
def zbx (p : Rc × Int) (w : World) (e : Ending) (w' : World) : Prop := e = .returned (gvV p.1 p.2) ∧ Below w.heap.size w w'
theorem ztn {H : He} (L : Les H) (r : LgR) (k : Key) (c : Int) (w : World) (h : z0l w r) (hn : r.en ≤ 1000000) (hf : z3x r.es) (hk : WfK k) (hks : k.secret.size ≤ 65536) (ho : 0 ≤ r.o ∧ r.o < 32) (hg : RCon w) :
  Calls Tryz.prog 32 #[lgV r, z10 k, .int .i64 c] w (zbx (z51 H (yx r) k c) w) := by
 obtain ⟨wa, hwa, hb0, q0, q1, q2⟩ := bx3 w (lgC r) (z0f k) (gvC z19 0) 42 44 77
 have HWA := ya hwa
 have HQ0 := ya (fun W (h : Below wa.heap.size wa W) => q0.below h)
 have HQ1 := ya (fun W (h : Below wa.heap.size wa W) => q1.below h)
 have HQ2 := ya (fun W (h : Below wa.heap.size wa W) => q2.below h)
 have HM := ya (fun W => zti k r.o W ho.1 ho.2)
 have HLn := ya h.ev.len
 have HE := ya (fun j (hj : j < r.es.length) W (hb : Below w.heap.size w W) => (h.ev.below hb).elem hj)
 have HF := ya (fun j (hj : j < r.es.length) W (hb : Below w.heap.size w W) => zfy L r.es[j] W (((h.below hb).ev.ok _ (List.getElem_mem hj))) (hf _ (List.getElem_mem hj)).1 (hf _ (List.getElem_mem hj)).2 (hg.below hb))
 have HFF := ya (fun j (hj : j < r.es.length) => zat H r.es[j].e (hf _ (List.getElem_mem hj)).1)
 have HSR : Hid (z1j [r.o, k.serial]) := ya (by
  have := zdt hk.serial
  intro x hx
  simp only [List.mem_cons, List.not_mem_nil, or_false] at hx
  rcases hx with rfl | rfl <;> omega)
 have HPT := ya (fun f W (hff : z1j (z1y f)) (hb : Below w.heap.size w W) => ztm L ⟨r.o, f, k.serial, 0⟩ W HSR.out hff (hg.below hb))
 have HMK := ya (fun f A W (hb : Below w.heap.size w W) (hr : Rd W A 2 (sv (z2x r.o k.serial (H.lf f)))) => L.refMakeR k r.o k.serial (H.lf f) A 2 2 W (by omega) hks hr (hg.below hb))
 have HG := ya (fun j (hj : j < r.es.length) => zcb H r.es j hj)
 have HV : Hid (z51 H (yx r) k c = if z3l k r.o = true then (if 1 ≤ c ∧ c ≤ (ye r.es).length then (⟨r.o, ((ye r.es)[c.toNat - 1]?.map (ym H)).getD z0g, k.serial, H.sr k.secret r.o k.serial (H.lf (((ye r.es)[c.toNat - 1]?.map (ym H)).getD z0g))⟩, 0) else (z19, 5)) else (z19, 1)) := ya rfl
 rw [z2u, HLn.out] at HV
 have hsz : ∀ r' : Rc, (rcC r').size = 41 := zd4
 have hgz := zir
 have z0 := zmm
 unfold gvV at z0
 have hlt2 := q2.lt
 have c0 := z67 q0
 have hck := yv (xs := kv k) q1
 have hsr := L.rlt
 have HEC : Hid (r.en ≤ r.ec ∧ r.ec ≤ maxLen) := ya ⟨h.ec, h.em⟩
 clear hwa q0 q1 q2 h hf hk hg L
 generalize z51 H (yx r) k c = X at *
 unfold BIs at HM
 unfold z1e at HF
 unfold z5s at HPT
 unfold isD at HMK
 generalize z3l k r.o = M at *
 cases M with
 | false =>
  have hX : X = (z19, 1) := by rw [HV.out]; rfl
  subst hX
  clear HV
  unfold zbx
  go_enter Tryz.func32, Tryz.ntmps32
  go_upto_region 1 with (refine z2k rfl rfl (z0 _) ?_)
  change Code.wp _ _ _ _ (((w.alloc (.cells (lgC r) 42)).alloc (.cells (z0f k) 44)).alloc (.cells (gvC z19 0) 77))
  rw [← HWA.out]
  go_wp2_with ((with_reducible show sl 9); refine z2q rfl rfl rfl hck ?_)
  refine (HM.out _).mono ?_
  rintro e w1 ⟨rfl, hb1⟩
  have b2 := HQ2.out _ hb1
  go_wp2_with (first
     | ((with_reducible show sl 15); refine z2l rfl rfl rfl (zee 1) ?_)
     | ((with_reducible show sn); refine z01 (vs := gvC z19 1) rfl rfl rfl rfl b2 (by rw [hgz, hgz]) (by rw [z72, hgz]) (zb7 _ _) ?_; intro w9 ht9 b9))
  exact z02 rfl rfl rfl b9 zc1 (by rw [z72, hgz]) ⟨rfl, (yb hb0 hb1).trans (ht9.below _ (by omega))⟩
 | true =>
  have HV2 : Hid (X = if 1 ≤ c ∧ c ≤ (r.en : Int) then (⟨r.o, ((ye r.es)[c.toNat - 1]?.map (ym H)).getD z0g, k.serial, H.sr k.secret r.o k.serial (H.lf (((ye r.es)[c.toNat - 1]?.map (ym H)).getD z0g))⟩, 0) else (z19, 5)) := ya (by rw [HV.out, if_pos rfl])
  clear HV
  by_cases hin : 1 ≤ c ∧ c ≤ (r.en : Int)
  rotate_left
  ·have hX : X = (z19, 5) := by rw [HV2.out, if_neg hin]
   subst hX
   clear HV2
   unfold zbx
   by_cases h1 : c < 1
   ·have d1 : decide (c < 1) = true := by rw [decide_eq_true_eq]; omega
    clear hin
    go_enter Tryz.func32, Tryz.ntmps32
    go_upto_region 1 with (refine z2k rfl rfl (z0 _) ?_)
    change Code.wp _ _ _ _ (((w.alloc (.cells (lgC r) 42)).alloc (.cells (z0f k) 44)).alloc (.cells (gvC z19 0) 77))
    rw [← HWA.out]
    go_wp2_with ((with_reducible show sl 9); refine z2q rfl rfl rfl hck ?_)
    refine (HM.out _).mono ?_
    rintro e w1 ⟨rfl, hb1⟩
    have b2 := HQ2.out _ hb1
    go_wp2_with (first
     | ((with_reducible show sl 25); refine z2l rfl rfl rfl (zee 5) ?_)
     | ((with_reducible show sn); refine z01 (vs := gvC z19 5) rfl rfl rfl rfl b2 (by rw [hgz, hgz]) (by rw [z72, hgz]) (zb7 _ _) ?_; intro w9 ht9 b9))
    exact z02 rfl rfl rfl b9 zc1 (by rw [z72, hgz]) ⟨rfl, (yb hb0 hb1).trans (ht9.below _ (by omega))⟩
   ·have d1 : decide (c < 1) = false := by rw [decide_eq_false_iff_not]; omega
    have d2 : decide ((r.en : Int) < c) = true := by rw [decide_eq_true_eq]; omega
    clear hin h1
    go_enter Tryz.func32, Tryz.ntmps32
    go_upto_region 1 with (refine z2k rfl rfl (z0 _) ?_)
    change Code.wp _ _ _ _ (((w.alloc (.cells (lgC r) 42)).alloc (.cells (z0f k) 44)).alloc (.cells (gvC z19 0) 77))
    rw [← HWA.out]
    go_wp2_with ((with_reducible show sl 9); refine z2q rfl rfl rfl hck ?_)
    refine (HM.out _).mono ?_
    rintro e w1 ⟨rfl, hb1⟩
    have b2 := HQ2.out _ hb1
    have d1c := z3v (HQ0.out _ hb1)
    go_wp2_with (first
     | ((with_reducible show sl 25); refine z2l rfl rfl rfl (zee 5) ?_)
     | ((with_reducible show sn); refine z01 (vs := gvC z19 5) rfl rfl rfl rfl b2 (by rw [hgz, hgz]) (by rw [z72, hgz]) (zb7 _ _) ?_; intro w9 ht9 b9))
    exact z02 rfl rfl rfl b9 zc1 (by rw [z72, hgz]) ⟨rfl, (yb hb0 hb1).trans (ht9.below _ (by omega))⟩
  ·obtain ⟨j, rfl⟩ : ∃ j : Nat, c = ((j + 1 : Nat) : Int) := ⟨c.toNat - 1, by omega⟩
   have hjn : j < r.en := by omega
   have hje : j < r.es.length := by rw [HLn.out]; exact hjn
   have HX : Hid (X = (⟨r.o, ym H r.es[j].e, k.serial, H.sr k.secret r.o k.serial (H.lf (ym H r.es[j].e))⟩, 0)) := ya (by
    rw [HV2.out, if_pos hin, show ((j + 1 : Nat) : Int).toNat - 1 = j by omega, HG.out j hje])
   have d1 : decide (((j + 1 : Nat) : Int) < 1) = false := by rw [decide_eq_false_iff_not]; omega
   have d2 : decide ((r.en : Int) < ((j + 1 : Nat) : Int)) = false := by rw [decide_eq_false_iff_not]; omega
   have hm : 0 ≤ ((j + 1 : Nat) : Int) - 1 ∧ ((j + 1 : Nat) : Int) - 1 < (r.en : Int) := by omega
   have hj1 : ((j + 1 : Nat) : Int) - 1 = (j : Int) := by omega
   have hwr : Go.IntKind.i64.wrap (((j + 1 : Nat) : Int) - 1) = (j : Int) := by rw [IntKind.wrap_i64]; omega
   have HFj := ya (HF.out j hje)
   have HEj := ya (HE.out j hje)
   have HFFj := ya (HFF.out j hje)
   generalize r.es[j] = ev at *
   generalize ym H ev.e = F at *
   have HMKj := ya (HMK.out F)
   have HPTj := ya (HPT.out F)
   have hsgl := hsr k.secret r.o k.serial (H.lf F)
   generalize H.sr k.secret r.o k.serial (H.lf F) = SG at *
   generalize z2x r.o k.serial (H.lf F) = PT at *
   generalize HD : ((j + 1 : Nat) : Int) = J at *
   clear HV2 hin HF HE HFF HMK HPT HG hje HD hsr
   go_enter Tryz.func32, Tryz.ntmps32
   go_upto_region 1 with (refine z2k rfl rfl (z0 _) ?_)
   change Code.wp _ _ _ _ (((w.alloc (.cells (lgC r) 42)).alloc (.cells (z0f k) 44)).alloc (.cells (gvC z19 0) 77))
   rw [← HWA.out]
   go_wp2_with ((with_reducible show sl 9); refine z2q rfl rfl rfl hck ?_)
   refine (HM.out _).mono ?_
   rintro e w1 ⟨rfl, hb1⟩
   have x1 := z3v (HQ0.out _ hb1)
   go_upto_region 6 with fail
   obtain ⟨ad, hA, hce⟩ := HEj.out _ (yb hb0 hb1)
   rw [hA] at x1
   have x0 := z67 (HQ0.out _ hb1)
   have xs := zf9 (HQ1.out _ hb1)
   have h25 := z2t ev
   have HB1 := ya hb1
   replace hb0 := yb hb0 hb1
   clear c0 hck hb1 hA d1 d2
   go_cut [8] (fun v8 wx => ∃ g8, v8 = .pointer (some ⟨g8, 0, none⟩) ∧ w1.heap.size ≤ g8 ∧ Blk wx g8 69 (rcC ⟨r.o, F, k.serial, 0⟩) ∧ Below w1.heap.size w1 wx)
   case first =>
    have hS : Below w1.heap.size w1 w1.drew := (Below.refl _ _).drew
    refine yq 13 (by kernel_rfl) ?_
    refine WpT.tk 0 hS ?_
    simp only [nrm]
    refine WpT.tl 1 rfl (yh rfl rfl rfl (by kernel_rfl) x0) hS ?_
    simp only [nrm]
    refine WpT.tk 2 hS ?_
    simp only [nrm]
    refine WpT.tl 3 rfl (yh rfl rfl rfl (by kernel_rfl) x1) hS ?_
    simp only [nrm]
    refine WpT.tk 4 hS ?_
    simp only [nrm]
    refine WpT.tk 5 hS ?_
    simp only [nrm]
    refine WpT.tk 6 hS ?_
    simp only [nrm]
    refine WpT.tl 7 rfl (z07 (us := evL ev) rfl rfl rfl z29 (by rw [z1z, h25]) hce) hS ?_
    simp only [nrm]
    refine WpT.tk 9 hS ?_
    simp only [nrm]
    refine WpT.tl 10 rfl (yh rfl rfl rfl (by kernel_rfl) xs) hS ?_
    simp only [nrm]
    refine WpT.fork (i := 8) (j := 12) rfl rfl (by kernel_rfl) (fun K hK => ?_) (fun K hK => ?_)
    ·go_simp; refine (HFj.out _ (yb hb0 hS)).mono ?_; rintro e w4 ⟨rfl, hb4⟩; (try replace bV := bV.below hb4); replace hS := yb hS hb4
     refine hK _ _ hS ?_; clear hK K; try simp only [nrm]
     refine WpT.tl 11 rfl (za9 rfl rfl (by rfl) (by rfl) (by rfl) (zc7 r.o F k.serial)) hS ?_
     simp only [nrm]
     refine WpT.on 12 rfl (fun K hK => ?_)
     refine z3g rfl z82 ?_; intro wV gV hgV bV hbV; have hgB : w1.heap.size ≤ gV := (by have := hS.size; omega); clear hgV; replace hS := yb hS hbV
     refine hK _ _ hS ?_; clear hK K; try simp only [nrm]
     refine WpT.ta 13 rfl (fun K hK => ?_)
     refine z09 (vs := rcC ⟨r.o, F, k.serial, 0⟩) rfl (by rfl) (by rfl) bV (by rw [hsz, hsz]) (by rw [z1p, hsz]) (z5c _) ?_; intro w13 ht13 b13
     refine hK _ _ ?_; clear hK K; try simp only [nrm]
     refine WpT.done (by kernel_rfl) ?_ _
     go_wp2_with fail; go_meet; exact ⟨gV, rfl, hgB, b13, hS.trans (ht13.below _ hgB)⟩
    ·refine z3g rfl z82 ?_; intro wV gV hgV bV hbV; have hgB : w1.heap.size ≤ gV := (by have := hS.size; omega); clear hgV; replace hS := yb hS hbV
     refine hK _ _ hS ?_; clear hK K; try simp only [nrm]
     refine WpT.on 8 rfl (fun K hK => ?_)
     go_simp; refine (HFj.out _ (yb hb0 hS)).mono ?_; rintro e w4 ⟨rfl, hb4⟩; (try replace bV := bV.below hb4); replace hS := yb hS hb4
     refine hK _ _ hS ?_; clear hK K; try simp only [nrm]
     refine WpT.tl 11 rfl (za9 rfl rfl (by rfl) (by rfl) (by rfl) (zc7 r.o F k.serial)) hS ?_
     simp only [nrm]
     refine WpT.ta 13 rfl (fun K hK => ?_)
     refine z09 (vs := rcC ⟨r.o, F, k.serial, 0⟩) rfl (by rfl) (by rfl) bV (by rw [hsz, hsz]) (by rw [z1p, hsz]) (z5c _) ?_; intro w13 ht13 b13
     refine hK _ _ ?_; clear hK K; try simp only [nrm]
     refine WpT.done (by kernel_rfl) ?_ _
     go_wp2_with fail; go_meet; exact ⟨gV, rfl, hgB, b13, hS.trans (ht13.below _ hgB)⟩
   case rest =>
    obtain ⟨g8, rfl, hg8, b8, hbw⟩ := hcut
    have hck2 := yv (xs := kv k) ((HQ1.out _ HB1.out).below hbw)
    have hrc := yv (xs := rcL ⟨r.o, F, k.serial, 0⟩) b8
    have h41 := z50 ⟨r.o, F, k.serial, 0⟩
    have HB8 : Hid (w1.heap.size ≤ g8) := ya hg8
    have hb0w := yb hb0 hbw
    have hsk : (kv k).length = 5 := rfl
    clear x0 x1 xs hg8
    go_upto_region 7 with fail
    have hS : Below wc.heap.size wc wc.drew := (Below.refl _ _).drew
    refine yq 5 (by kernel_rfl) ?_
    refine WpT.tl 0 rfl (z07 (us := kv k) rfl rfl rfl z6o (by rw [z7v, hsk]) hck2) hS ?_
    simp only [nrm]
    refine WpT.tl 1 rfl (z07 (us := rcL ⟨r.o, F, k.serial, 0⟩) rfl rfl rfl z36 (by rw [z1p, h41]) hrc) hS ?_
    simp only [nrm]
    refine WpT.on 2 rfl (fun K hK => ?_)
    go_simp; refine (HPTj.out _ HFFj.out (yb hb0w hS)).mono ?_; rintro e w4 ⟨B4, rfl, r4, hb4⟩; replace hS := yb hS hb4
    refine hK _ _ hS ?_; clear hK K; try simp only [nrm]
    refine WpT.on 3 rfl (fun K hK => ?_)
    go_simp; refine (HMKj.out _ _ (yb hb0w hS) r4).mono ?_; rintro e w5 ⟨rfl, hb5⟩; replace hS := yb hS hb5
    refine hK _ _ hS ?_; clear hK K; try simp only [nrm]
    refine WpT.tk 4 hS ?_
    simp only [nrm]
    refine WpT.ta 5 rfl (fun K hK => ?_)
    refine z80 (vs := bv (dg SG)) rfl (by rfl) (by rfl) (b8.below hS) (by rw [z03, hsz]; omega) (by rw [zbi, z03]) (z7p _) (zl1 _ _) ?_; intro w9 ht9 b9
    refine hK _ _ ?_; clear hK K; try simp only [nrm]
    refine WpT.done (by kernel_rfl) ?_ _
    skip
    have hrf := yv (xs := rcL ⟨r.o, F, k.serial, SG⟩) b9
    have h41' := z50 ⟨r.o, F, k.serial, SG⟩
    have b2 : Blk w9 (w.heap.size + 1 + 1) 77 (gvC z19 0) := ht9.blk ((HQ2.out _ (yb HB1.out (yb hbw hS)))) (by have := HB8.out; have := HB1.out.size; omega)
    have HX2 := ya HX.out
    have hbF : Below w.heap.size w w9 := (yb hb0w hS).trans (ht9.below _ (by have := HB8.out; have := hb0.size; omega))
    clear HX
    go_wp2_with (first
     | ((with_reducible show sl 43); refine yj (us := rcL ⟨r.o, F, k.serial, SG⟩) rfl rfl rfl z36 (by rw [z1p, h41']) hrf ?_)
     | ((with_reducible show sl 44); refine z2l rfl rfl rfl (znq ⟨r.o, F, k.serial, SG⟩) ?_)
     | ((with_reducible show sn); refine z01 (vs := gvC ⟨r.o, F, k.serial, SG⟩ 0) rfl rfl rfl rfl b2 (by rw [hgz, hgz]) (by rw [z72, hgz]) (zb7 _ _) ?_; intro wF htF bF))
    refine z02 rfl rfl rfl bF zc1 (by rw [z72, hgz]) ?_
    rw [HX2.out]
    exact ⟨rfl, hbF.trans (htF.below _ (by omega))⟩
theorem zht {H : He} (L : Les H) (ring : List Key) (A : Option Addr) (n c : Nat) (s : ShR) (w : World) (hn : n ≤ 1000) (hr : RdK w A n ring) (hs : z3h ring) (hv : ∀ k ∈ ring, z26 k = true) (hsf : z7b s.s.face) (hsh : z3y s.s.head) (hk : z28 w s) (hm : s.n ≤ 1000) (hg : GCon w) :
  Calls Tryz.prog 38 #[.slice A n c, shV s] w fun e w' => e = .returned (.int .i64 (z63 H ring s.s)) ∧ Below w.heap.size w w' := by
 obtain ⟨wa, hwa, hb0, q1⟩ := shBox w s
 have HWA := ya hwa
 have HQ := ya (fun W (h : Below wa.heap.size wa W) => q1.below h)
 have c1 := z9x q1
 have c25 := zlr q1
 have HH := ya (fun W (h : Below w.heap.size w W) => zal L ring A n c s.s.head W hn (hr.below h) hs hv hsh.all hk.hd.sig (hg.below h))
 have HL := ya (fun W (h : Below w.heap.size w W) => zcq L s.s.face W hsf.all (hg.below h))
 have HC := ya (fun W (h : Below w.heap.size w W) => zob L.nds (H.lf s.s.face) s.s.head.root (s.s.face.commit - 1) s.s.head.commit s.s.path s.A s.n s.c W (L.llt _) hk.hd.root (by omega) (hk.below h).rd hk.nc hk.cm (hg.below h))
 have hfc := hsf.commit
 have hfa := z39 s.s.face
 have hla := z1v s.s.head
 have HV : Hid (z63 H ring s.s = if 1 ≤ s.s.face.commit ∧ s.s.face.commit ≤ s.s.head.commit then (if z2i H ring s.s.head = 0 then (if z62 H.nd (H.lf s.s.face) (s.s.face.commit - 1) s.s.head.commit s.s.path s.s.head.root = true then 0 else 3) else z2i H ring s.s.head) else 1) := ya rfl
 generalize z63 H ring s.s = X at *
 generalize z2i H ring s.s.head = RA at *
 generalize z62 H.nd (H.lf s.s.face) (s.s.face.commit - 1) s.s.head.commit s.s.path s.s.head.root = K at *
 unfold isD BIs at *
 generalize H.lf s.s.face = LF at *
 obtain ⟨fc, hfce⟩ : ∃ x, s.s.face.commit = x := ⟨_, rfl⟩
 obtain ⟨hc, hhce⟩ : ∃ x, s.s.head.commit = x := ⟨_, rfl⟩
 rw [hfce] at HC HV c1 hfc
 rw [hhce] at HC HV c25
 have HF := ya hfce
 have HHC := ya hhce
 clear hwa q1 hr hv hsf hsh hk hg L hfce hhce
 by_cases hin : 1 ≤ fc ∧ fc ≤ hc
 ·have hd1 : decide (fc < 1) = false := by rw [decide_eq_false_iff_not]; omega
  have hd2 : decide (hc < fc) = false := by rw [decide_eq_false_iff_not]; omega
  have HV2 : Hid (X = if RA = 0 then (if K = true then 0 else 3) else RA) := ya (by rw [HV.out, if_pos hin])
  clear HV
  have hwr : Go.IntKind.i64.wrap (fc - 1) = fc - 1 := by rw [IntKind.wrap_i64]; omega
  clear hin hfc
  rcases z6m RA with ⟨hra, e1, f1, d1⟩ | ⟨hra, e1, f1, d1⟩
  ·have HV3 : Hid (X = if K = true then 0 else 3) := ya (by rw [HV2.out, if_pos hra])
   clear HV2 hra
   go_enter Tryz.func38, Tryz.ntmps38
   go_upto_region 1 with fail
   change Code.wp _ _ _ _ (w.alloc (.cells (shC s) 63))
   rw [← HWA.out]
   have hch := zdl (HQ.out _ (Below.refl _ _))
   go_wp2_with ((with_reducible show sl 21); refine yj (us := hdL s.s.head) rfl rfl rfl yz (by rw [yt, hla]) hch ?_)
   refine (HH.out _ hb0).mono ?_
   rintro e w1 ⟨rfl, hb1⟩
   clear hch
   have d1 := z9x (HQ.out _ hb1)
   have d25 := zlr (HQ.out _ hb1)
   rw [HF.out] at d1
   rw [HHC.out] at d25
   have d23 := zdi (HQ.out _ hb1)
   have df := z6h (HQ.out _ hb1)
   have dr := zv8 (HQ.out _ hb1)
   replace hb0 := yb hb0 hb1
   clear c1 c25 hb1
   go_upto_region 6 with fail
   have hS : Below w1.heap.size w1 w1.drew := (Below.refl _ _).drew
   refine yq 17 (by kernel_rfl) ?_
   refine WpT.tk 0 hS ?_
   simp only [nrm]
   refine WpT.tl 1 rfl (z07 (us := fcL s.s.face) rfl rfl rfl z1a (by rw [z0d, hfa]) df) hS ?_
   simp only [nrm]
   refine WpT.tk 3 hS ?_
   simp only [nrm]
   refine WpT.tk 4 hS ?_
   simp only [nrm]
   refine WpT.tl 5 rfl (yh rfl rfl rfl (by kernel_rfl) d1) hS ?_
   simp only [nrm]
   refine WpT.tk 6 hS ?_
   simp only [nrm]
   refine WpT.tk 7 hS ?_
   simp only [nrm]
   refine WpT.tk 8 hS ?_
   simp only [nrm]
   refine WpT.tl 9 rfl (yh rfl rfl rfl (by kernel_rfl) d25) hS ?_
   simp only [nrm]
   refine WpT.tk 10 hS ?_
   simp only [nrm]
   refine WpT.tl 11 rfl (yh rfl rfl rfl (by kernel_rfl) d23) hS ?_
   simp only [nrm]
   refine WpT.tk 12 hS ?_
   simp only [nrm]
   refine WpT.tk 13 hS ?_
   simp only [nrm]
   refine WpT.tl 14 rfl (z07 (us := bv (dg s.s.head.root)) rfl rfl rfl yn (by rw [yf, z03]) dr) hS ?_
   simp only [nrm]
   refine WpT.on 2 rfl (fun K hK => ?_)
   go_simp; refine (HL.out _ (yb hb0 hS)).mono ?_; rintro e w4 ⟨rfl, hb4⟩; replace hS := yb hS hb4
   refine hK _ _ hS ?_; clear hK K; try simp only [nrm]
   refine WpT.on 15 rfl (fun K hK => ?_)
   go_simp; refine (HC.out _ (yb hb0 hS)).mono ?_; rintro e w5 ⟨rfl, hb5⟩; replace hS := yb hS hb5
   refine hK _ _ hS ?_; clear hK K; try simp only [nrm]
   refine WpT.tk 16 hS ?_
   simp only [nrm]
   refine WpT.done (by kernel_rfl) ?_ _
   skip
   rcases K with _ | _
   all_goals (have hX := HV3.out; simp at hX; subst hX; go_wp2_with fail; go_ret; exact ⟨rfl, yb hb0 hS⟩)
  ·have hX : X = RA := by rw [HV2.out, if_neg hra]
   subst hX
   clear HV2 hra
   go_enter Tryz.func38, Tryz.ntmps38
   go_upto_region 1 with fail
   change Code.wp _ _ _ _ (w.alloc (.cells (shC s) 63))
   rw [← HWA.out]
   have hch := zdl (HQ.out _ (Below.refl _ _))
   go_wp2_with ((with_reducible show sl 21); refine yj (us := hdL s.s.head) rfl rfl rfl yz (by rw [yt, hla]) hch ?_)
   refine (HH.out _ hb0).mono ?_
   rintro e w1 ⟨rfl, hb1⟩
   go_wp2_with fail
   go_ret
   exact ⟨rfl, yb hb0 hb1⟩
 ·have hX : X = 1 := by rw [HV.out, if_neg hin]
  subst hX
  clear HV
  by_cases h1 : fc < 1
  ·have hd1 : decide (fc < 1) = true := by rw [decide_eq_true_eq]; omega
   clear hin
   go_enter Tryz.func38, Tryz.ntmps38
   go_upto_region 1 with fail
   change Code.wp _ _ _ _ (w.alloc (.cells (shC s) 63))
   rw [← HWA.out]
   go_wp2_with fail
   go_ret
   exact ⟨rfl, hb0⟩
  ·have hd1 : decide (fc < 1) = false := by rw [decide_eq_false_iff_not]; omega
   have hd2 : decide (hc < fc) = true := by rw [decide_eq_true_eq]; omega
   clear hin h1
   go_enter Tryz.func38, Tryz.ntmps38
   go_upto_region 1 with fail
   change Code.wp _ _ _ _ (w.alloc (.cells (shC s) 63))
   rw [← HWA.out]
   go_wp2_with fail
   go_ret
   exact ⟨rfl, hb0⟩
theorem zlb {H : He} (L : Les H) (ring : List Key) (A : Option Addr) (n c : Nat) (r : Rc) (s : ShR) (w : World) (hn : n ≤ 1000) (hr : RdK w A n ring) (hso : z3h ring) (hv : ∀ k ∈ ring, z26 k = true) (hf : z1j [r.office, r.serial]) (hrf : z7b r.face) (hrs : r.sig < 2 ^ 128) (hrb : r.face.blind < 2 ^ 128) (hsf : z7b s.s.face) (hsh : z3y s.s.head) (hs : z28 w s) (hm : s.n ≤ 1000) (hg : GCon w) :
  Calls Tryz.prog 44 #[.slice A n c, rcV r, shV s] w fun e w' => e = .returned (.bool (z8k H ring r s.s)) ∧ Below w.heap.size w w' := by
 obtain ⟨wa, hwa, hb0, q1, q2⟩ := z88 w (rcC r) (shC s) 69 63
 have HWA := ya hwa
 have HQ1 := ya (fun W (h : Below wa.heap.size wa W) => q1.below h)
 have HQ2 := ya (fun W (h : Below wa.heap.size wa W) => q2.below h)
 have HA := ya (fun W (h : Below w.heap.size w W) => zhs L ring A n c r W hn (hr.below h) hso hv hf hrf.all hrs (hg.below h))
 have HB := ya (fun W (h : Below w.heap.size w W) => zht L ring A n c s W hn (hr.below h) hso hv hsf hsh (hs.below h) hm (hg.below h))
 have ra := hrb
 have rb := hs.bl
 have hla := z50 r
 have hlb := z71 s
 have hfa := z39 r.face
 have hfb := z39 s.s.face
 have hca := yv (xs := rcL r) q1
 have HV : Hid (z8k H ring r s.s = (decide (z93 H ring r = 0) && (decide (z63 H ring s.s = 0) && (decide (r.office = s.s.head.office) && (decide (r.face.commit = s.s.face.commit) && !decide (r.face = s.s.face)))))) := ya rfl
 generalize z8k H ring r s.s = X at *
 generalize z93 H ring r = RA at *
 generalize z63 H ring s.s = RB at *
 clear hwa q1 q2 hr hv hf hrf hrs hrb hsf hsh hs hg L
 rcases z6m RA with ⟨-, e1, f1, d1⟩ | ⟨-, e1, f1, d1⟩
 rotate_left
 ·have hX : X = false := by rw [HV.out]; simp only [d1]; simp
  rw [hX]
  clear hX HV
  go_enter Tryz.func44, Tryz.ntmps44
  go_upto_region 1 with fail
  change Code.wp _ _ _ _ ((w.alloc (.cells (rcC r) 69)).alloc (.cells (shC s) 63))
  rw [← HWA.out]
  go_wp2_with ((with_reducible show sl 8); refine yj (us := rcL r) rfl rfl rfl z36 (by rw [z1p, hla]) hca ?_)
  refine (HA.out _ hb0).mono ?_
  rintro e w1 ⟨rfl, hS⟩
  go_wp2_with fail
  go_ret
  exact ⟨rfl, yb hb0 hS⟩
 rcases z6m RB with ⟨-, e2, f2, d2⟩ | ⟨-, e2, f2, d2⟩
 rotate_left
 ·have hX : X = false := by rw [HV.out]; simp only [d1, d2]; simp
  rw [hX]
  clear hX HV
  go_enter Tryz.func44, Tryz.ntmps44
  go_upto_region 1 with fail
  change Code.wp _ _ _ _ ((w.alloc (.cells (rcC r) 69)).alloc (.cells (shC s) 63))
  rw [← HWA.out]
  go_wp2_with ((with_reducible show sl 8); refine yj (us := rcL r) rfl rfl rfl z36 (by rw [z1p, hla]) hca ?_)
  refine (HA.out _ hb0).mono ?_
  rintro e w1 ⟨rfl, hS⟩
  have hcb := yv (xs := shL s) (HQ2.out _ hS)
  go_wp2_with ((with_reducible show sl 13); refine z0s (us := shL s) (by rfl) rfl rfl z4h (by rw [z2y, hlb]) hcb ?_)
  refine (HB.out _ (yb hb0 hS)).mono ?_
  rintro e w2 ⟨rfl, hb2⟩
  replace hS := yb hS hb2
  have ca0 := z8j (HQ1.out _ hS)
  have ca2 := zd5 (HQ1.out _ hS)
  have ca3 := z9q (HQ1.out _ hS)
  have cb0 := zdj (HQ2.out _ hS)
  have cb1 := z9x (HQ2.out _ hS)
  have cb3 := z6h (HQ2.out _ hS)
  go_wp2_with fail
  go_ret
  exact ⟨rfl, yb hb0 hS⟩
 rcases z48 r.office s.s.head.office with ⟨-, e3, f3, d3⟩ | ⟨-, e3, f3, d3⟩
 rotate_left
 ·have hX : X = false := by rw [HV.out]; simp only [d1, d2, d3]; simp
  rw [hX]
  clear hX HV
  go_enter Tryz.func44, Tryz.ntmps44
  go_upto_region 1 with fail
  change Code.wp _ _ _ _ ((w.alloc (.cells (rcC r) 69)).alloc (.cells (shC s) 63))
  rw [← HWA.out]
  go_wp2_with ((with_reducible show sl 8); refine yj (us := rcL r) rfl rfl rfl z36 (by rw [z1p, hla]) hca ?_)
  refine (HA.out _ hb0).mono ?_
  rintro e w1 ⟨rfl, hS⟩
  have hcb := yv (xs := shL s) (HQ2.out _ hS)
  go_wp2_with ((with_reducible show sl 13); refine z0s (us := shL s) (by rfl) rfl rfl z4h (by rw [z2y, hlb]) hcb ?_)
  refine (HB.out _ (yb hb0 hS)).mono ?_
  rintro e w2 ⟨rfl, hb2⟩
  replace hS := yb hS hb2
  have ca0 := z8j (HQ1.out _ hS)
  have ca2 := zd5 (HQ1.out _ hS)
  have ca3 := z9q (HQ1.out _ hS)
  have cb0 := zdj (HQ2.out _ hS)
  have cb1 := z9x (HQ2.out _ hS)
  have cb3 := z6h (HQ2.out _ hS)
  go_wp2_with fail
  go_ret
  exact ⟨rfl, yb hb0 hS⟩
 rcases z48 r.face.commit s.s.face.commit with ⟨-, e4, f4, d4⟩ | ⟨-, e4, f4, d4⟩
 rotate_left
 ·have hX : X = false := by rw [HV.out]; simp only [d1, d2, d3, d4]; simp
  rw [hX]
  clear hX HV
  go_enter Tryz.func44, Tryz.ntmps44
  go_upto_region 1 with fail
  change Code.wp _ _ _ _ ((w.alloc (.cells (rcC r) 69)).alloc (.cells (shC s) 63))
  rw [← HWA.out]
  go_wp2_with ((with_reducible show sl 8); refine yj (us := rcL r) rfl rfl rfl z36 (by rw [z1p, hla]) hca ?_)
  refine (HA.out _ hb0).mono ?_
  rintro e w1 ⟨rfl, hS⟩
  have hcb := yv (xs := shL s) (HQ2.out _ hS)
  go_wp2_with ((with_reducible show sl 13); refine z0s (us := shL s) (by rfl) rfl rfl z4h (by rw [z2y, hlb]) hcb ?_)
  refine (HB.out _ (yb hb0 hS)).mono ?_
  rintro e w2 ⟨rfl, hb2⟩
  replace hS := yb hS hb2
  have ca0 := z8j (HQ1.out _ hS)
  have ca2 := zd5 (HQ1.out _ hS)
  have ca3 := z9q (HQ1.out _ hS)
  have cb0 := zdj (HQ2.out _ hS)
  have cb1 := z9x (HQ2.out _ hS)
  have cb3 := z6h (HQ2.out _ hS)
  go_wp2_with fail
  go_ret
  exact ⟨rfl, yb hb0 hS⟩
 obtain ⟨fx, hface⟩ : ∃ x, (!decide (r.face = s.s.face)) = x := ⟨_, rfl⟩
 ·have hX : X = fx := by rw [HV.out]; simp only [d1, d2, d3, d4, hface]; simp
  rw [hX]
  clear hX HV
  go_enter Tryz.func44, Tryz.ntmps44
  go_upto_region 1 with fail
  change Code.wp _ _ _ _ ((w.alloc (.cells (rcC r) 69)).alloc (.cells (shC s) 63))
  rw [← HWA.out]
  go_wp2_with ((with_reducible show sl 8); refine yj (us := rcL r) rfl rfl rfl z36 (by rw [z1p, hla]) hca ?_)
  refine (HA.out _ hb0).mono ?_
  rintro e w1 ⟨rfl, hS⟩
  have hcb := yv (xs := shL s) (HQ2.out _ hS)
  go_wp2_with ((with_reducible show sl 13); refine z0s (us := shL s) (by rfl) rfl rfl z4h (by rw [z2y, hlb]) hcb ?_)
  refine (HB.out _ (yb hb0 hS)).mono ?_
  rintro e w2 ⟨rfl, hb2⟩
  replace hS := yb hS hb2
  have ca0 := z8j (HQ1.out _ hS)
  have ca2 := zd5 (HQ1.out _ hS)
  have ca3 := z9q (HQ1.out _ hS)
  have cb0 := zdj (HQ2.out _ hS)
  have cb1 := z9x (HQ2.out _ hS)
  have cb3 := z6h (HQ2.out _ hS)
  go_wp2_with (first
   | ((with_reducible show sl 36); refine z0s (us := fcL r.face) (by rfl) rfl rfl z1a (by rw [z0d, hfa]) ca3 ?_)
   | ((with_reducible show sl 38); refine z0s (us := fcL s.s.face) (by rfl) rfl rfl z1a (by rw [z0d, hfb]) cb3 ?_)
   | ((with_reducible show sl 39); refine zbp (v := .bool fx) (by rfl) rfl rfl rfl (fun W => by kernel_rfl) (by rw [← hface]; exact zrh ra rb _) ?_))
  go_ret
  exact ⟨rfl, yb hb0 hS⟩
end
end Go.Proofs.YtcapckngikekpaaGreatDoor
