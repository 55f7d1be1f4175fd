/-
  Current in the program. Conditions: a ring's keys are valid and stand in order.
-/
import Derived.Test.YtfnpeclomcnpeaaDoorBw
namespace Go.Proofs.YtfnpeclomcnpeaaDoor
set_option linter.unusedSimpArgs false
set_option linter.unusedVariables false
open Go.RowKit Ring Go.Shelf
attribute [local go_sem] Oper.semAt_some
theorem back_none (day : Int) : ∀ (O : List Key), (∀ x ∈ O, cntB x day = false) → back day O = none
  | [], _ => rfl
  | x :: O, h => by
    have h1 := back_none day O fun y hy => h y (by simp [hy])
    have h2 : ¬ counts x day := fun hc => by have := h x (by simp); rw [(cntB_iff x day).2 hc] at this; cases this
    unfold back
    rw [h1]
    simp [h2]
theorem back_at (day : Int) : ∀ (O : List Key) (i : Nat) (h : i < O.length), cntB O[i] day = true → (∀ j (h' : j < O.length), i < j → cntB O[j] day = false) → back day O = some O[i]
  | x :: O, 0, _, h1, h2 => by
    simp only [List.getElem_cons_zero] at h1
    have h3 := back_none day O fun y hy => by
      obtain ⟨j, hj, rfl⟩ := List.mem_iff_getElem.1 hy
      have := h2 (j + 1) (by simpa using hj) (by omega)
      simpa using this
    have h4 := (cntB_iff x day).1 h1
    unfold back
    rw [h3]
    simp [h4]
  | x :: O, i + 1, h, h1, h2 => by
    have h3 := back_at day O i (by simpa using h) (by simpa using h1) fun j h' hj => by
      have := h2 (j + 1) (by simpa using h') (by omega)
      simpa using this
    unfold back
    rw [h3]
    rfl
/-- What Current returns. -/
def curV (day : Int) (O : List Key) : Key × Int := match back day O with | some k => (k, 0) | none => (zeroKey, if O.isEmpty then 5 else 9)
set_option maxHeartbeats 1000000 in
theorem backward_any (A : Option Addr) (m c : Nat) (w : World) :
    Calls Tryd.prog 38 #[.slice A m c] w fun e w' => e = .returned (.func (.func 51) #[] #[.pointer (some ⟨w.heap.size, 0, none⟩)]) ∧ w' = w.alloc (.cells #[.slice A m c] 22) := by
  go_enter Tryd.func38, Tryd.ntmps38
  go_wp2
  go_ret
  exact ⟨rfl, rfl⟩
theorem backward_stops (n : Nat) (hn : 1 ≤ n) (Bs n₀ : Nat) (A : Option Addr) (m cap : Nat) (hm : m ≤ 1000) (hmc : m ≤ cap) (hcap : cap ≤ 9223372036854775807) (L : Nat → KeyT) (w : World) (hBs : Bs < n₀) (hn₀ : n₀ ≤ w.heap.size)
    (hs : w.cell? ⟨Bs, 0, none⟩ = some (.slice A m cap)) (hc : ∀ W', Below n₀ w W' → ∀ i, i < m → ∃ ad, A = some ad ∧ ∀ j u, (kv (L i).1)[j]? = some u → W'.cell? ((ad.add (i * 5)).add j) = some u) :
    SeqStopsK Fence.wide n Tryd.prog 51 #[.pointer (some ⟨Bs, 0, none⟩)] (fun x : Nat × KeyT => #[Value.int .i64 (x.1 : Int), keyV x.2.1]) (Below n₀) (fun ys => ys = upto (bwAt m L) m) (fun pre => ∃ k, k ≤ m ∧ pre = upto (bwAt m L) k) m w := fun l J Jx W hW _ _ hY h0 =>
  backward1_in Fence.wide n trivial rfl hn l Bs n₀ A m cap hm hmc hcap L J Jx hY W hBs ((hW.cell (p := ⟨Bs, 0, none⟩) (by show Bs < _; omega)).trans hs) (fun W' hb => hc W' ((hW.mono hn₀).trans hb)) h0
theorem blk_own {β : Type} (B : Nat) (t : TypeId) (f : β → Array Value) : Go.Own (fun s W => Blk W B t (f s)) := fun s X Y row hs hg hrow =>
  (hg.block B hs.lt (fun e' => by
    obtain ⟨o, ho, hc⟩ := hrow B e'.symm
    rw [show X.heap[B]? = _ from hs] at ho
    cases ho
    cases hc)).trans hs
theorem keepsFrom_below {B : Nat} {W W' : World} (hb : Below W.heap.size W W') : KeepsFrom B W W' := ⟨hb.size, fun k o _ hk _ => (hb.block k (Array.getElem?_eq_some_iff.1 hk).1).trans hk⟩
theorem keepsFrom_setCells {B : Nat} {W : World} {g : Nat} (hg : g < B) (o : Nat) (vs : List Value) : KeepsFrom B W (W.setCells g o vs) := ⟨by rw [size_setCells]; exact Nat.le_refl _, fun k ob hB hk _ => (heap_setCells_other g vs o W k (by omega)).trans hk⟩
theorem results_two {P : Program} {fn : Func} {tmps : Array Value} {w : World} {g g2 : Nat} {t t2 : TypeId} {cs : Array Value} {u : Value} {p q : Tmp} {ty ty2 : TypeId} (h : fn.results = #[.cell p ty, .cell q ty2]) (hp : tmps.getD p undef = .pointer (some ⟨g, 0, none⟩))
    (hq : tmps.getD q undef = .pointer (some ⟨g2, 0, none⟩)) (hb : Blk w g t cs) (hb2 : Blk w g2 t2 #[u]) (hu : (P.underlying ty).map isAggDesc = some true) (hi : (P.info? ty).map (·.size) = some cs.size) (hu2 : (P.underlying ty2).map isAggDesc = some false) :
    (results fn tmps).run P w = .ok (.tuple #[.agg cs, u]) w := by
  have hp' : tmps[p]?.getD undef = .pointer (some ⟨g, 0, none⟩) := by simpa using hp
  have hq' : tmps[q]?.getD undef = .pointer (some ⟨g2, 0, none⟩) := by simpa using hq
  have hc : w.cell? ⟨g2, 0, none⟩ = some u := by have := hb2.cell 0; simpa using this
  simp [results, h, hp', hq', asAddr, run_loadVar_blk w g t ty cs hb hu hi, run_loadVar_one w _ ty2 u hu2 hc]
/-- The keys of a list, by place. -/
def kt (O : List Key) (hO : ∀ k ∈ O, 0 < k.til ∧ k.til ≤ 1048577) (i : Nat) : KeyT := if h : i < O.length then ⟨O[i], hO _ (List.getElem_mem h)⟩ else ⟨⟨0, 0, ⟨#[]⟩, 0, 1⟩, by decide⟩
theorem kt_at (O : List Key) (hO : ∀ k ∈ O, 0 < k.til ∧ k.til ≤ 1048577) (i : Nat) (h : i < O.length) : (kt O hO i).1 = O[i] := by unfold kt; rw [dif_pos h]
set_option maxRecDepth 100000 in
set_option maxHeartbeats 4000000 in
theorem current_any (A : Option Addr) (n c : Nat) (l : List Key) (p day : Int) (w : World) (hn : n ≤ 1000) (hnc : n ≤ c) (hc : c ≤ maxLen) (hr : RdK w A n l) (hs : Sorted l) (hv : ∀ k ∈ l, validB k = true) :
    Calls Tryd.prog 16 #[.slice A n c, .int .i64 p, .int .i64 day] w fun e w' => e = .returned (.tuple #[keyV (curV day (of p l)).1, .int .i64 (curV day (of p l)).2]) ∧ Below w.heap.size w w' := by
  have h1 : ∀ k ∈ l, 0 < k.serial := fun k hk => by have := (validB_iff k).1 (hv k hk); unfold validP at this; omega
  have hO : ∀ k ∈ of p l, 0 < k.til ∧ k.til ≤ 1048577 := fun k hk => by
    have := (validB_iff k).1 (hv k (List.mem_filter.1 hk).1)
    unfold validP at this
    omega
  have HQ := Lib.hid (fun W hr => of_any' A n c l p W (by omega) hnc hc hr hs h1)
  generalize of p l = O at *
  refine (callsIn_wide (n := 6)).1 ?_
  refine callsIn_of_wp_marks Tryd.func16 rfl trivial ?_ rfl
  simp only [Tryd.ntmps16, List.size_toArray, List.length_cons, List.length_nil, Nat.reduceAdd, Nat.reduceSub, Array.replicate_succ, Array.replicate_zero, List.push_toArray, List.append_toArray, List.nil_append, List.cons_append]
  gi_wp2_with fail
  obtain ⟨wa, hwa, hb0, q5, q6, q7, hsz⟩ : ∃ wa : World, wa = ((w.alloc (.cells #[.int .i64 day] 3)).alloc (.cells (keyC zeroKey) 24)).alloc (.cells #[.int .i64 0] 28) ∧ Below w.heap.size w wa ∧
      Blk wa w.heap.size 3 #[.int .i64 day] ∧ Blk wa (w.heap.size + 1) 24 (keyC zeroKey) ∧ Blk wa (w.heap.size + 1 + 1) 28 #[.int .i64 0] ∧ wa.heap.size = w.heap.size + 3 := by
    refine ⟨_, rfl, (((Below.refl _ w).alloc (Nat.le_refl _) _).alloc (by simp) _).alloc (by simp; omega) _, ((Blk.new w _ _).alloc _).alloc _, (Blk.new2 w _ _ _).alloc _, ?_, by simp⟩
    have := Blk.new ((w.alloc (.cells #[.int .i64 day] 3)).alloc (.cells (keyC zeroKey) 24)) 28 #[.int .i64 0]
    simpa using this
  change Fence.wide.fn 37 ∧ CallsIn Fence.wide 5 Tryd.prog 37 #[.slice A n c, .int .i64 p] (((w.alloc (.cells #[.int .i64 day] 3)).alloc (.cells (keyC zeroKey) 24)).alloc (.cells #[.int .i64 0] 28)) _
  rw [← hwa]
  have HSZ := Lib.hid hsz
  clear hwa hsz
  refine ⟨trivial, (callsIn_wide.2 (HQ.out _ (hr.below hb0))).mono ?_⟩
  rintro e w1 ⟨⟨A', m, rfl, hmn, hrO⟩, hb1⟩
  have hL1 := hb1.size
  gi_wp2_with fail
  refine ⟨trivial, (callsIn_wide.2 (backward_any A' m m w1)).mono ?_⟩
  rintro e w2 ⟨rfl, hw2⟩
  have hbs : w2.cell? ⟨w1.heap.size, 0, none⟩ = some (.slice A' m m) := by rw [hw2]; exact (Boxed.new w1 _ _).cell
  have hb2 : Below w1.heap.size w1 w2 := by rw [hw2]; exact (Below.refl _ _).alloc (Nat.le_refl _) _
  have hsz2 : w2.heap.size = w1.heap.size + 1 := by rw [hw2]; simp
  have HW2 := Lib.hid hw2
  clear hw2
  have hB0 : Below w.heap.size w w2 := bstep hb0 (bstep hb1 hb2)
  replace q5 := (q5.below hb1).below hb2
  replace q6 := (q6.below hb1).below hb2
  replace q7 := (q7.below hb1).below hb2
  gi_wp2_with fail
  have hOL : O.length = m := hrO.len
  have hm : m ≤ 1000 := by omega
  have hcc : ∀ W', Below w2.heap.size w2 W' → ∀ i, i < m → ∃ ad, A' = some ad ∧ ∀ j u, (kv (kt O hO i).1)[j]? = some u → W'.cell? ((ad.add (i * 5)).add j) = some u := fun W' hb i hi => by
    have := (hrO.below (bstep (bstep hb1 hb2) hb)).elem (i := i) (by omega)
    rw [kt_at O hO i (by omega)]
    exact this
  have hlt5 := q5.lt
  have hlt6 := q6.lt
  have hlt7 := q7.lt
  have hle : w.heap.size ≤ w2.heap.size := by omega
  refine wpIn_rangeFunc_ownH rfl (by omega) (gf := 51) (lb := #[.pointer (some ⟨w1.heap.size, 0, none⟩)]) rfl trivial (enters_of Tryd.func51 (by kernel_rfl) rfl)
    (backward_stops 5 (by omega) w1.heap.size w2.heap.size A' m m hm (Nat.le_refl _) (by omega) (kt O hO) w2 (by omega) (Nat.le_refl _) hbs hcc) belowK_t (belowK_b (Nat.le_refl _)) (Below.refl _ _) (fun _ => rfl)
    (fun pre W => ((∀ q ∈ pre, cntB q.2.1 day = false) ∧ Blk W w.heap.size 3 #[.int .i64 day] ∧ Blk W (w.heap.size + 1) 24 (keyC zeroKey) ∧ Blk W (w.heap.size + 1 + 1) 28 #[.int .i64 0]) ∧ Below w2.heap.size w2 W)
    (fun c pre W => (c = .ret ∧ ∃ ini last, pre = ini ++ [last] ∧ (∀ q ∈ ini, cntB q.2.1 day = false) ∧ cntB last.2.1 day = true ∧ Blk W (w.heap.size + 1) 24 (keyC last.2.1) ∧ Blk W (w.heap.size + 1 + 1) 28 #[.int .i64 0]) ∧ Below w.heap.size w W)
    (OwnFrom.and (Own.from (fun s X Y row hs hg hrow => ⟨hs.1, blk_own _ _ (fun (_ : Unit) => _) () X Y row hs.2.1 hg hrow, blk_own _ _ (fun (_ : Unit) => _) () X Y row hs.2.2.1 hg hrow, blk_own _ _ (fun (_ : Unit) => _) () X Y row hs.2.2.2 hg hrow⟩) _) (ownFrom_below (Nat.le_refl _) (Nat.le_refl _)))
    (fun c => OwnFrom.and (Own.from (fun s X Y row hs hg hrow => by
      obtain ⟨hc', ini, last, e1, e2, e3, e4, e5⟩ := hs
      exact ⟨hc', ini, last, e1, e2, e3, blk_own _ _ (fun (_ : Unit) => _) () X Y row e4 hg hrow, blk_own _ _ (fun (_ : Unit) => _) () X Y row e5 hg hrow⟩) _) (ownFrom_below (Nat.le_refl _) hle))
    ⟨⟨by simp, q5, q6, q7⟩, Below.refl _ _⟩
    (fun x a' W => ∃ Bx, w2.heap.size ≤ Bx ∧ Blk W Bx 24 (keyC x.2.1) ∧ a' = { tmps := #[.slice A n c, .int .i64 p, .int .i64 day, undef, undef, .pointer (some ⟨w.heap.size, 0, none⟩), .pointer (some ⟨w.heap.size + 1, 0, none⟩), .pointer (some ⟨w.heap.size + 1 + 1, 0, none⟩), .slice A' m m, undef, .pointer (some ⟨Bx, 0, none⟩),
      .slice A n c, .int .i64 p, .slice A' m m, .slice A' m m, .func (.func 51) #[] #[.pointer (some ⟨w1.heap.size, 0, none⟩)], .int .i64 (x.1 : Int), keyV x.2.1, undef, undef, undef, undef, undef, undef, undef, undef, undef], defers := [] })
    (fun x a' _ X Y row hs hg hr => by obtain ⟨Bx, h1, h2, h3⟩ := hs; exact ⟨Bx, h1, blk_own Bx _ (fun (_ : Unit) => _) () X Y row h2 hg (fun r e => (hr r e).2), h3⟩)
    ?assign ?body ?done ?stop
  case assign =>
    rintro l pre x W K ⟨⟨i1, i2, i3, i4⟩, hBW⟩ hK
    gi_wp2_with fail
    exact hK _ _ ((KeepsOthers.alloc _ _).from _) ((Below.refl _ W).alloc hBW.size _) ⟨⟨i1, i2.alloc _, i3.alloc _, i4.alloc _⟩, hBW.alloc hBW.size _⟩ ⟨W.heap.size, hBW.size, Blk.new W _ _, rfl⟩
  case body =>
    rintro l pre x a' W hl ⟨r, hr⟩ ⟨⟨i1, i2, i3, i4⟩, hBW⟩ ⟨Bx, hBx, bX, rfl⟩ hlt
    have c5 := i2.cell 0
    simp only [List.getElem?_toArray, List.getElem?_cons_zero] at c5
    obtain ⟨xi, xk, hx1, hx2⟩ := x
    have HC := Lib.hid (fun W => counts_any xk day W hx1 hx2)
    have HI1 : Hid (cntB xk day = false → ∀ q ∈ pre ++ [(xi, (⟨xk, hx1, hx2⟩ : KeyT))], cntB q.2.1 day = false) := Lib.hid (fun h0 q hq => by
      rcases List.mem_append.1 hq with h | h
      · exact i1 q h
      · simp only [List.mem_singleton] at h
        subst h
        exact h0)
    have HI2 := Lib.hid i1
    dsimp only at bX ⊢
    have HCT : Hid (cntB xk day = cntB xk day) := Lib.hid rfl
    gi_wp2_with (refine wpListIn_loadB rfl rfl rfl bX aggKy sizeKy ?_)
    refine ⟨trivial, (CallsIn.inRound l (callsIn_wide.2 (HC.out _))).mono ?_⟩
    rintro e W1 ⟨rfl, hb1⟩
    cases hcn : cntB xk day
    · have HN := Lib.hid (HI1.out hcn)
      clear HI1 HI2 HCT hcn i1
      gi_wp2_with fail
      exact ⟨keepsFrom_below hb1, hb1.mono hBW.size, ⟨HN.out, i2.below hb1, i3.below hb1, i4.below hb1⟩, hBW.trans (hb1.mono hBW.size)⟩
    · have bX1 := bX.below hb1
      have i31 := i3.below hb1
      have i41 := i4.below hb1
      have HCN := Lib.hid hcn
      clear HI1 HCT hcn i1 i2 i3 i4 c5
      gi_wp2_with (first
        | (refine wpListIn_loadB rfl rfl rfl bX1 aggKy sizeKy ?_)
        | (refine wpListIn_storeB rfl rfl rfl rfl i31 rfl (by kernel_rfl) (one_keyC _) ?_; intro w3 hw3 hbk3 hb3; have i43 : Blk w3 (w.heap.size + 1 + 1) 28 #[.int .i64 0] := (by rw [hw3]; exact i41.farRow (by omega) _ _); have kf3 : KeepsFrom w2.heap.size W1 w3 := (by rw [hw3]; exact keepsFrom_setCells (by omega) _ _); clear hw3; have c7 := i43.cell 0; have f7 := i43.free 0; simp only [List.getElem?_toArray, List.getElem?_cons_zero] at c7))
      have hfin : Below w.heap.size w (w3.setCell ⟨w.heap.size + 1 + 1, 0, none⟩ (.int .i64 0)) := ((hB0.trans (hBW.mono hle)).trans ((hb1.mono (by have := hBW.size; omega)).trans (hb3.mono (by omega)))).setCell (p := ⟨w.heap.size + 1 + 1, 0, none⟩) (by show _ ≤ w.heap.size + 1 + 1; omega) _
      exact ⟨(keepsFrom_below hb1).trans (kf3.trans ((KeepsOthers.setCell _ _ _).from _)), ⟨rfl, pre, ⟨xi, ⟨xk, hx1, hx2⟩⟩, rfl, HI2.out, HCN.out, hbk3.far (by show w.heap.size + 1 ≠ w.heap.size + 1 + 1; omega) _, i43.set 0 _⟩, hfin⟩
  case done =>
    rintro D ys W hD rfl ⟨⟨i1, i2, i3, i4⟩, hBW⟩ hK
    have hne6 : w.heap.size + 1 ≠ D := by omega
    have hne7 : w.heap.size + 1 + 1 ≠ D := by omega
    have hbn : back day O = none := back_none day O fun x hx => by
      obtain ⟨i, hi, rfl⟩ := List.mem_iff_getElem.1 hx
      have := i1 (i, kt O hO i) (by
        simp only [upto, List.mem_map, List.mem_range]
        exact ⟨m - 1 - i, by omega, by unfold bwAt; rw [show m - 1 - (m - 1 - i) = i by omega]⟩)
      simp only [kt_at O hO i hi] at this
      exact this
    have HV : Hid (curV day O = (zeroKey, if m = 0 then 5 else 9)) := Lib.hid (by
      unfold curV
      rw [hbn]
      by_cases h0 : m = 0
      · have : O = [] := List.eq_nil_of_length_eq_zero (by omega)
        simp [h0, this]
      · have : O.isEmpty = false := by
          cases O with
          | nil => simp at hOL; omega
          | cons x t => rfl
        simp [h0, this])
    clear i1 i2 hbn
    by_cases h0 : m = 0
    · have HV2 : Hid (curV day O = (zeroKey, 5)) := Lib.hid (by rw [HV.out, if_pos h0])
      clear HV
      subst h0
      gi_wp2_with (refine wpListIn_storeB rfl rfl rfl rfl i3 rfl (by kernel_rfl) (one_keyC zeroKey) ?_; intro w3 hw3 hbk3 hb3; have i43 : Blk w3 (w.heap.size + 1 + 1) 28 #[.int .i64 0] := (by rw [hw3]; exact i4.farRow (by omega) _ _); have hK3 : w3.heap[D]? = some (.deferred (some [])) := (by rw [hw3]; exact (heap_setCells_other _ _ _ _ D (by omega)).trans hK); have hsz3 : w3.heap.size = W.heap.size := (by rw [hw3, size_setCells]); clear hw3; have HS3 := Lib.hid hsz3; clear hsz3; have c7 := i43.cell 0; have f7 := i43.free 0; simp only [List.getElem?_toArray, List.getElem?_cons_zero] at c7)
      have hK4 := (KeepsOthers.setCell w3 ⟨w.heap.size + 1 + 1, 0, none⟩ (.int .i64 5)).same D _ hK3 rfl
      refine ⟨by simp, .inl ⟨_, _, rfl, run_takeDeferred hK4, ?_⟩⟩
      have hg := grownBy_putObj' (w3.setCell ⟨w.heap.size + 1 + 1, 0, none⟩ (.int .i64 5)) D (.deferred none)
      have b6 : Blk (w3.setCell ⟨w.heap.size + 1 + 1, 0, none⟩ (.int .i64 5)) (w.heap.size + 1) 24 (keyC zeroKey) := hbk3.far (by show w.heap.size + 1 ≠ w.heap.size + 1 + 1; omega) _
      have b7 : Blk (w3.setCell ⟨w.heap.size + 1 + 1, 0, none⟩ (.int .i64 5)) (w.heap.size + 1 + 1) 28 #[.int .i64 5] := i43.set 0 _
      have b6' := (hg.block _ b6.lt (by simpa using hne6)).trans b6
      have b7' := (hg.block _ b7.lt (by simpa using hne7)).trans b7
      refine ⟨_, results_two rfl rfl rfl b6' b7' aggKy sizeKy (by kernel_rfl), by rw [HV2.out], ?_⟩
      have hBf : Below w.heap.size w w3 := (hB0.trans (hBW.mono hle)).trans (hb3.mono (by omega))
      exact (hBf.setCell (p := ⟨w.heap.size + 1 + 1, 0, none⟩) (by show _ ≤ w.heap.size + 1 + 1; omega) _).trans (belowK_b (w := w) (Nat.le_refl _) _ D _ _ (by omega) hK4 rfl rfl)
    · have HV2 : Hid (curV day O = (zeroKey, 9)) := Lib.hid (by rw [HV.out, if_neg h0])
      clear HV
      have hm0 : 0 < m := by omega
      have hd : ((m : Int) == 0) = false := by simp; omega
      gi_wp2_with (refine wpListIn_storeB rfl rfl rfl rfl i3 rfl (by kernel_rfl) (one_keyC zeroKey) ?_; intro w3 hw3 hbk3 hb3; have i43 : Blk w3 (w.heap.size + 1 + 1) 28 #[.int .i64 0] := (by rw [hw3]; exact i4.farRow (by omega) _ _); have hK3 : w3.heap[D]? = some (.deferred (some [])) := (by rw [hw3]; exact (heap_setCells_other _ _ _ _ D (by omega)).trans hK); have hsz3 : w3.heap.size = W.heap.size := (by rw [hw3, size_setCells]); clear hw3; have HS3 := Lib.hid hsz3; clear hsz3; have c7 := i43.cell 0; have f7 := i43.free 0; simp only [List.getElem?_toArray, List.getElem?_cons_zero] at c7)
      have hK4 := (KeepsOthers.setCell w3 ⟨w.heap.size + 1 + 1, 0, none⟩ (.int .i64 9)).same D _ hK3 rfl
      refine ⟨by simp, .inl ⟨_, _, rfl, run_takeDeferred hK4, ?_⟩⟩
      have hg := grownBy_putObj' (w3.setCell ⟨w.heap.size + 1 + 1, 0, none⟩ (.int .i64 9)) D (.deferred none)
      have b6 : Blk (w3.setCell ⟨w.heap.size + 1 + 1, 0, none⟩ (.int .i64 9)) (w.heap.size + 1) 24 (keyC zeroKey) := hbk3.far (by show w.heap.size + 1 ≠ w.heap.size + 1 + 1; omega) _
      have b7 : Blk (w3.setCell ⟨w.heap.size + 1 + 1, 0, none⟩ (.int .i64 9)) (w.heap.size + 1 + 1) 28 #[.int .i64 9] := i43.set 0 _
      have b6' := (hg.block _ b6.lt (by simpa using hne6)).trans b6
      have b7' := (hg.block _ b7.lt (by simpa using hne7)).trans b7
      refine ⟨_, results_two rfl rfl rfl b6' b7' aggKy sizeKy (by kernel_rfl), by rw [HV2.out], ?_⟩
      have hBf : Below w.heap.size w w3 := (hB0.trans (hBW.mono hle)).trans (hb3.mono (by omega))
      exact (hBf.setCell (p := ⟨w.heap.size + 1 + 1, 0, none⟩) (by show _ ≤ w.heap.size + 1 + 1; omega) _).trans (belowK_b (w := w) (Nat.le_refl _) _ D _ _ (by omega) hK4 rfl rfl)
  case stop =>
    rintro D c' pre W hD ⟨k, hk, rfl⟩ ⟨⟨rfl, ini, last, e1, e2, e3, e4, e5⟩, hBW⟩ hK
    have HV : Hid (curV day O = (last.2.1, 0)) := Lib.hid (by
      obtain ⟨k', rfl⟩ : ∃ k', k = k' + 1 := by
        cases k with
        | zero => simp [upto] at e1
        | succ k' => exact ⟨k', rfl⟩
      rw [upto_succ] at e1
      obtain ⟨rfl, e6⟩ := List.append_inj' e1 rfl
      obtain rfl : bwAt m (kt O hO) k' = last := by simpa using e6
      have hi : m - 1 - k' < O.length := by omega
      have e : (bwAt m (kt O hO) k').2.1 = O[m - 1 - k'] := kt_at O hO _ hi
      unfold curV
      rw [back_at day O (m - 1 - k') hi (by rw [← e]; exact e3) (fun j hj hlt => by
        have := e2 (bwAt m (kt O hO) (m - 1 - j)) (by
          simp only [upto, List.mem_map, List.mem_range]
          exact ⟨m - 1 - j, by omega, rfl⟩)
        have e7 : (bwAt m (kt O hO) (m - 1 - j)).2.1 = O[j] := by
          unfold bwAt
          simp only [show m - 1 - (m - 1 - j) = j by omega]
          exact kt_at O hO j hj
        rw [e7] at this
        exact this), e])
    clear e1 e2 e3
    gi_wp2
    refine ⟨by simp, .inl ⟨_, _, rfl, run_takeDeferred hK, ?_⟩⟩
    have hg := grownBy_putObj' W D (.deferred none)
    have b6' := (hg.block _ e4.lt (by simp; omega)).trans e4
    have b7' := (hg.block _ e5.lt (by simp; omega)).trans e5
    exact ⟨_, results_two rfl rfl rfl b6' b7' aggKy sizeKy (by kernel_rfl), by rw [HV.out], hBW.trans (belowK_b (w := w) (Nat.le_refl _) W D _ _ (by omega) hK rfl rfl)⟩
end Go.Proofs.YtfnpeclomcnpeaaDoor
