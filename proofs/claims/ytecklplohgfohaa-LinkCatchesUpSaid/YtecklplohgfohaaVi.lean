/-
  Variables of frames; whether an inbox is valid, in program and reference. Conditions: none.
-/
import Derived.Test.YtecklplohgfohaaRvo
namespace Go.Proofs.Ytecklplohgfohaa
set_option linter.unusedSimpArgs false
set_option linter.unusedVariables false
open Go.RowKit Link
abbrev frC (x : Fr) : Array Value := #[.bool x.sum, .int .i64 x.seq, .string x.body]
abbrev ibC (i : Ib) (A : Option Addr) (n c : Nat) : Array Value := #[.int .i64 i.next, .slice A n c]
def fr0 : Fr := ⟨false, 0, ⟨#[]⟩⟩
theorem wpList_allocFr {w : World} {ops : Array Oper} {rest : List Oper} {o : Oper} {a : Act} {Q : Exit → Act → World → Prop} (hgd : o.guard = none) (ho : o.op = .alloc 49)
    (h : ∀ w' g, g = w.heap.size → Blk w' g 49 (frC fr0) → Below w.heap.size w w' → g < w'.heap.size → wpList Try.prog ops Q rest (a.put o.dst (.pointer (some ⟨g, 0, none⟩))) w') : wpList Try.prog ops Q (o :: rest) a w :=
  wpList_plain hgd fun _ hK => wp_alloc (z := .agg (frC fr0)) ho (by kernel_rfl) (hK _ _ (h _ _ rfl (Blk.new _ _ _) ((Below.refl _ _).alloc (Nat.le_refl _) _) (Blk.new _ _ _).lt))
theorem one_frC (k : Fr) : (frC k).all (·.oneCell') = true := by simp [frC, Value.oneCell']
theorem wpList_storeFr {w : World} {ops : Array Oper} {rest : List Oper} {o : Oper} {a : Act} {Q : Exit → Act → World → Prop} (hgd : o.guard = none) {x y : Operand} (ho : o.op = .store 49 x y) {g : Nat} (hx : a.eval x = .pointer (some ⟨g, 0, none⟩))
    {k k' : Fr} (hy : a.eval y = .agg (fv k).toArray) (hb : Blk w g 49 (frC k'))
    (h : ∀ w', Blk w' g 49 (frC k) → Below g w w' → wpList Try.prog ops Q rest (a.put o.dst undef) w') : wpList Try.prog ops Q (o :: rest) a w :=
  wpList_storeRow (o := 0) (vs := frC k) hgd ho hx hy hb (by simp) (by kernel_rfl) (one_frC k) (h _ (hb.all (frC k) rfl) (below_setCells (Below.refl _ _) (Nat.le_refl _) 0 _))
theorem Blk.fr {w : World} {g : Nat} {t : TypeId} {x : Fr} (h : Blk w g t (frC x)) : w.cell? ⟨g, 0, none⟩ = some (.bool x.sum) ∧ w.cell? ⟨g, 1, none⟩ = some (.int .i64 x.seq) ∧ w.cell? ⟨g, 2, none⟩ = some (.string x.body) := ⟨h.cell 0, h.cell 1, h.cell 2⟩
theorem Blk.ib {w : World} {g : Nat} {t : TypeId} {i : Ib} {A : Option Addr} {n c : Nat} (h : Blk w g t (ibC i A n c)) : w.cell? ⟨g, 0, none⟩ = some (.int .i64 i.next) ∧ w.cell? ⟨g, 1, none⟩ = some (.slice A n c) := ⟨h.cell 0, h.cell 1⟩
/-- The number before a place. -/
def prevS (n : Int) (l : List Fr) (k : Nat) : Int := if k = 0 then n else (l.getD (k - 1) fr0).seq
theorem ok_step (n : Int) (l : List Fr) (k : Nat) (h : k < l.length) : okAhead (prevS n l k) (l.drop k) = (!l[k].sum && decide (prevS n l k < l[k].seq) && decide (l[k].seq ≤ 2199023255552) && short l[k].body && okAhead (prevS n l (k + 1)) (l.drop (k + 1))) := by
  rw [List.drop_eq_getElem_cons h]
  have e : prevS n l (k + 1) = l[k].seq := by simp [prevS, h]
  rw [e]
  rfl
theorem prevS_succ (n : Int) (l : List Fr) (k : Nat) (h : k < l.length) : prevS n l (k + 1) = l[k].seq := by simp [prevS, h]
theorem ibBox (w : World) (i : Ib) (A : Option Addr) (n c : Nat) : ∃ wa : World, wa = w.alloc (.cells (ibC i A n c) 47) ∧ Below w.heap.size w wa ∧ Blk wa w.heap.size 47 (ibC i A n c) :=
  ⟨_, rfl, (Below.refl w.heap.size w).alloc (Nat.le_refl _) _, Blk.new _ _ _⟩
theorem validIn_eq (i : Ib) : validIn i = ((decide (0 ≤ i.next) && decide (i.next ≤ 2199023255552)) && decide ((i.ahead.length : Int) ≤ 64) && okAhead i.next i.ahead) := by
  have : decide ((i.ahead.length : Int) ≤ 64) = decide (i.ahead.length ≤ 64) := by rw [decide_eq_decide]; omega
  rw [this]
  rfl
set_option maxRecDepth 20000 in
set_option maxHeartbeats 4000000 in
theorem validIn_any (i : Ib) (A : Option Addr) (n c : Nat) (w : World) (hn : n ≤ 100000) (hr : RdF w A n i.ahead) (hi : WfI i) :
    Calls Try.prog 22 #[ibV i A n c] w fun e w' => e = .returned (.bool (validIn i)) ∧ Below w.heap.size w w' := by
  rw [validIn_eq]
  have HW := Lib.hid (fun W => within_any i.next 2199023255552 W)
  have HI := Lib.hid hi.ahead
  have HL := Lib.hid hr.len
  rw [HL.out]
  obtain ⟨wa, hwa, hb0, q0⟩ := ibBox w i A n c
  have HWA := Lib.hid hwa
  clear hwa hi
  obtain ⟨nx, l⟩ := i
  simp only at *
  generalize (decide (0 ≤ nx) && decide (nx ≤ 2199023255552)) = b1 at *
  have HB : Hid (okAhead (prevS nx l 0) (l.drop 0) = okAhead nx l) := Lib.hid rfl
  generalize okAhead nx l = R at *
  go_enter Try.func22, Try.ntmps22
  go_upto_region 1 with (fail)
  change Code.wp _ _ _ _ (w.alloc (.cells (ibC ⟨nx, l⟩ A n c) 47))
  rw [← HWA.out]
  obtain ⟨c0, c1⟩ := q0.ib
  simp only at c0
  go_wp2_with fail
  go_loopw [3, 5, 11] (fun v3 _ vj wr => ∃ k : Nat, k ≤ n ∧ v3 = .int .i64 (prevS nx l k) ∧ vj = .int .i64 k ∧ Below wa.heap.size wa wr ∧ Hid (okAhead (prevS nx l k) (l.drop k) = R)) (fun _ _ vj _ => n - (intOf vj).toNat)
  case atStart => exact ⟨0, Nat.zero_le _, rfl, rfl, Below.refl _ _, HB⟩
  case round =>
    clear HB
    obtain ⟨k, hk, rfl, rfl, hbw, HR⟩ := hrel
    have hBw := hb0.trans (hbw.mono hb0.size)
    have c0' := (hbw.cell (p := ⟨w.heap.size, 0, none⟩) q0.lt).trans c0
    have c1' := (hbw.cell (p := ⟨w.heap.size, 1, none⟩) q0.lt).trans c1
    clear c0 c1
    by_cases hlt : k < n
    · have hkl : k < l.length := by have := HL.out; omega
      obtain ⟨ad, rfl, hc⟩ := (hr.below hBw).elem (i := k) hkl
      have HS := Lib.hid (ok_step nx l k hkl)
      have HP := Lib.hid (prevS_succ nx l k hkl)
      have HQ := Lib.hid (fun W => isBody_any l[k].body W (HI.out _ (List.getElem_mem hkl)).body)
      generalize l[k] = x at *
      generalize hps : prevS nx l k = ps at *
      clear hps
      obtain ⟨sm, sq, bd⟩ := x
      simp only at HS HP HQ
      have bad : ∀ b : Bool, b = false → (b && okAhead (prevS nx l (k + 1)) (l.drop (k + 1))) = R → R = false := fun b hb h => by rw [← h, hb]; rfl
      cases sm
      case true =>
        have hV : R = false := by rw [← HR.out, HS.out]; rfl
        subst hV
        clear HS HR HP HQ bad HI HW
        go_wp2_with (first
          | (refine wpList_loadK (us := fv ⟨_, sq, bd⟩) rfl rfl rfl aggFr sizeFr hc ?_)
          | (refine wpList_allocFr rfl rfl ?_; intro w2 g2 hg2 hbk hb2 hg3; have Hg2 := Lib.hid hg2; clear hg2)
          | (refine wpList_storeFr (k := ⟨_, sq, bd⟩) rfl rfl rfl rfl hbk ?_; intro w3 hbk3 hb3; obtain ⟨e0, e1, e2⟩ := hbk3.fr; have HB3 : Below wr.heap.size wr w3 := hb2.trans (hb3.mono (by rw [Hg2.out]; exact Nat.le_refl _)); clear hb2 hb3 hbk Hg2))
        go_ret
        exact ⟨by first | rfl | (rw [Bool.and_false]; rfl), hBw.trans (HB3.mono hBw.size)⟩
      by_cases h1 : sq ≤ ps
      · have hV : R = false := by
          rw [← HR.out, HS.out]
          have : decide (ps < sq) = false := by simp; omega
          rw [this]; simp
        subst hV
        have d1 : decide (sq ≤ ps) = true := by simpa using h1
        clear HS HR HP HQ bad HI HW h1
        go_wp2_with (first
          | (refine wpList_loadK (us := fv ⟨_, sq, bd⟩) rfl rfl rfl aggFr sizeFr hc ?_)
          | (refine wpList_allocFr rfl rfl ?_; intro w2 g2 hg2 hbk hb2 hg3; have Hg2 := Lib.hid hg2; clear hg2)
          | (refine wpList_storeFr (k := ⟨_, sq, bd⟩) rfl rfl rfl rfl hbk ?_; intro w3 hbk3 hb3; obtain ⟨e0, e1, e2⟩ := hbk3.fr; have HB3 : Below wr.heap.size wr w3 := hb2.trans (hb3.mono (by rw [Hg2.out]; exact Nat.le_refl _)); clear hb2 hb3 hbk Hg2))
        go_ret
        exact ⟨by first | rfl | (rw [Bool.and_false]; rfl), hBw.trans (HB3.mono hBw.size)⟩
      have d1 : decide (sq ≤ ps) = false := by simpa using h1
      by_cases h2 : 2199023255552 < sq
      · have hV : R = false := by
          rw [← HR.out, HS.out]
          have : decide (sq ≤ 2199023255552) = false := by simp; omega
          rw [this]; simp
        subst hV
        have d2 : decide (2199023255552 < sq) = true := by simpa using h2
        clear HS HR HP HQ bad HI HW h1 h2
        go_wp2_with (first
          | (refine wpList_loadK (us := fv ⟨_, sq, bd⟩) rfl rfl rfl aggFr sizeFr hc ?_)
          | (refine wpList_allocFr rfl rfl ?_; intro w2 g2 hg2 hbk hb2 hg3; have Hg2 := Lib.hid hg2; clear hg2)
          | (refine wpList_storeFr (k := ⟨_, sq, bd⟩) rfl rfl rfl rfl hbk ?_; intro w3 hbk3 hb3; obtain ⟨e0, e1, e2⟩ := hbk3.fr; have HB3 : Below wr.heap.size wr w3 := hb2.trans (hb3.mono (by rw [Hg2.out]; exact Nat.le_refl _)); clear hb2 hb3 hbk Hg2))
        go_ret
        exact ⟨by first | rfl | (rw [Bool.and_false]; rfl), hBw.trans (HB3.mono hBw.size)⟩
      have d2 : decide (2199023255552 < sq) = false := by simpa using h2
      cases hx : short bd
      · have hV : R = false := by rw [← HR.out, HS.out, hx]; simp
        subst hV
        rw [hx] at HQ
        clear HS HR HP bad HI HW h1 h2 hx
        go_wp2_with (first
          | (refine wpList_loadK (us := fv ⟨_, sq, bd⟩) rfl rfl rfl aggFr sizeFr hc ?_)
          | (refine wpList_allocFr rfl rfl ?_; intro w2 g2 hg2 hbk hb2 hg3; have Hg2 := Lib.hid hg2; clear hg2)
          | (refine wpList_storeFr (k := ⟨_, sq, bd⟩) rfl rfl rfl rfl hbk ?_; intro w3 hbk3 hb3; obtain ⟨e0, e1, e2⟩ := hbk3.fr; have HB3 : Below wr.heap.size wr w3 := hb2.trans (hb3.mono (by rw [Hg2.out]; exact Nat.le_refl _)); clear hb2 hb3 hbk Hg2))
        refine (HQ.out _).mono ?_
        rintro e w4 ⟨rfl, hb4⟩
        go_wp2_with fail
        go_ret
        exact ⟨by first | rfl | (rw [Bool.and_false]; rfl), hBw.trans ((bstep HB3 hb4).mono hBw.size)⟩
      · have HN : Hid (okAhead (prevS nx l (k + 1)) (l.drop (k + 1)) = R) := Lib.hid (by
          rw [← HR.out, HS.out, hx]
          have a1 : decide (ps < sq) = true := by simp; omega
          have a2 : decide (sq ≤ 2199023255552) = true := by simp; omega
          rw [a1, a2]; simp)
        rw [hx] at HQ
        clear HS HR bad h1 h2 hx
        go_wp2_with (first
          | (refine wpList_loadK (us := fv ⟨_, sq, bd⟩) rfl rfl rfl aggFr sizeFr hc ?_)
          | (refine wpList_allocFr rfl rfl ?_; intro w2 g2 hg2 hbk hb2 hg3; have Hg2 := Lib.hid hg2; clear hg2)
          | (refine wpList_storeFr (k := ⟨_, sq, bd⟩) rfl rfl rfl rfl hbk ?_; intro w3 hbk3 hb3; obtain ⟨e0, e1, e2⟩ := hbk3.fr; have HB3 : Below wr.heap.size wr w3 := hb2.trans (hb3.mono (by rw [Hg2.out]; exact Nat.le_refl _)); clear hb2 hb3 hbk Hg2))
        refine (HQ.out _).mono ?_
        rintro e w4 ⟨rfl, hb4⟩
        obtain ⟨-, e1', -⟩ := (hbk3.below hb4).fr
        go_wp2_with fail
        have hB5 := bstep HB3 hb4
        exact ⟨⟨k + 1, by omega, by rw [HP.out], by go_num, hbw.trans (hB5.mono hbw.size), HN⟩, by simp [intOf]; omega⟩
    · obtain rfl : k = n := by omega
      have hR : R = true := by rw [← HR.out, List.drop_of_length_le (by have := HL.out; omega)]; rfl
      subst hR
      clear HR
      cases b1
      · go_wp2_with fail
        refine (HW.out _).mono ?_
        rintro e w4 ⟨rfl, hb4⟩
        go_wp2_with fail
        go_ret
        exact ⟨by first | rfl | (rw [Bool.and_true]; rfl), bstep hBw hb4⟩
      · go_wp2_with fail
        refine (HW.out _).mono ?_
        rintro e w4 ⟨rfl, hb4⟩
        have c1'' := (hb4.cell (p := ⟨w.heap.size, 1, none⟩) (Nat.lt_of_lt_of_le q0.lt hbw.size)).trans c1'
        go_wp2_with fail
        go_ret
        exact ⟨by first | rfl | (rw [Bool.and_true]; rfl), bstep hBw hb4⟩
end Go.Proofs.Ytecklplohgfohaa
