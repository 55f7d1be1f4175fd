/-
  The library's Insert of one frame. Conditions: at most 64 frames; the frame lies in a block of its own.
-/
import Derived.Test.YtecklplohgfohaaDl
import Derived.Laws.Externs
namespace Go.Proofs.Ytecklplohgfohaa
set_option linter.unusedSimpArgs false
set_option linter.unusedVariables false
open Go.RowKit Link
section
variable {P : Program}
theorem wp_copyP {w : World} {o : Oper} {a : Act} {K : Act → World → Prop} {Q : Exit → Act → World → Prop} {d s : Operand} {dT sT elem : TypeId} {k g off dLen dCap : Nat} {pd p : Addr} {sLen sCap : Nat} (r : Nat) {cur : Array Value} {t : TypeId} (cs : List Value)
    (ho : o.op = .call { callee := .builtin .copy, args := #[d, s], argTypes := #[dT, sT] }) (hd : a.eval d = .slice (some pd) dLen dCap) (hpd : pd = ⟨g, off, none⟩) (hsv : a.eval s = .slice (some p) sLen sCap)
    (hu : P.underlying dT = some (.slice elem)) (hs : (P.info? elem).map (·.size) = some k) (hb : Blk w g t cur) (hr : Nat.min sLen dLen = r) (hn : cs.length = r * k)
    (hsrc : ∀ j v, cs[j]? = some v → w.cell? (p.add j) = some v) (hfit : off + cs.length ≤ cur.size) (h1 : ∀ v ∈ cs, v.oneCell' = true)
    (h : ∀ w', Turned g w w' → Blk w' g t (cur.toList.take off ++ cs ++ cur.toList.drop (off + cs.length)).toArray → K (a.put o.dst (goInt r)) w') : o.wp P a w K Q := by
  subst hpd
  exact wp_copyB r cs ho hd hsv hu hs hb hr hn hsrc hfit h1 h
theorem wpList_copyP {w : World} {ops : Array Oper} {rest : List Oper} {o : Oper} {a : Act} {Q : Exit → Act → World → Prop} (hgd : o.guard = none) {d s : Operand} {dT sT elem : TypeId} {k g off dLen dCap : Nat} {pd p : Addr} {sLen sCap : Nat} (r : Nat) {cur : Array Value} {t : TypeId} (cs : List Value)
    (ho : o.op = .call { callee := .builtin .copy, args := #[d, s], argTypes := #[dT, sT] }) (hd : a.eval d = .slice (some pd) dLen dCap) (hpd : pd = ⟨g, off, none⟩) (hsv : a.eval s = .slice (some p) sLen sCap)
    (hu : P.underlying dT = some (.slice elem)) (hs : (P.info? elem).map (·.size) = some k) (hb : Blk w g t cur) (hr : Nat.min sLen dLen = r) (hn : cs.length = r * k)
    (hsrc : ∀ j v, cs[j]? = some v → w.cell? (p.add j) = some v) (hfit : off + cs.length ≤ cur.size) (h1 : ∀ v ∈ cs, v.oneCell' = true)
    (h : ∀ w', Turned g w w' → Blk w' g t (cur.toList.take off ++ cs ++ cur.toList.drop (off + cs.length)).toArray → wpList P ops Q rest (a.put o.dst (goInt r)) w') : wpList P ops Q (o :: rest) a w :=
  wpList_plain hgd fun _ hK => wp_copyP r cs ho hd hpd hsv hu hs hb hr hn hsrc hfit h1 fun w' h1 h2 => hK _ _ (h w' h1 h2)
end
theorem splice1 {α} (X D F : List α) (a d : Nat) (hX : a + 3 + d ≤ X.length) (hD : D.length = d) (hF : F.length = 3) :
    ((X.take (a + 3) ++ D ++ X.drop (a + 3 + D.length)).take a ++ F ++ (X.take (a + 3) ++ D ++ X.drop (a + 3 + D.length)).drop (a + F.length)).take (a + 3 + d) = X.take a ++ F ++ D := by
  have hT : (X.take (a + 3)).length = a + 3 := by simp; omega
  generalize X.drop (a + 3 + D.length) = R
  have e1 : (X.take (a + 3) ++ D ++ R).take a = X.take a := by rw [List.append_assoc, List.take_append_of_le_length (by omega), List.take_take, Nat.min_eq_left (by omega)]
  have e2 : (X.take (a + 3) ++ D ++ R).drop (a + 3) = D ++ R := by rw [List.append_assoc]; exact List.drop_left' hT
  rw [hF, e1, e2, ← List.append_assoc]
  exact List.take_left' (by simp; omega)
theorem splice2 {α} (X D F : List α) (a d : Nat) (hX : a + 3 + d ≤ X.length) (hD : D.length = d) (hF : F.length = 3) :
    ((X.take a ++ F ++ X.drop (a + F.length)).take (a + 3) ++ D ++ (X.take a ++ F ++ X.drop (a + F.length)).drop (a + 3 + D.length)).take (a + 3 + d) = X.take a ++ F ++ D := by
  have hT : (X.take a ++ F).length = a + 3 := by simp; omega
  generalize (X.take a ++ F ++ X.drop (a + F.length)).drop (a + 3 + D.length) = R
  have e1 : (X.take a ++ F ++ X.drop (a + F.length)).take (a + 3) = X.take a ++ F := List.take_left' hT
  rw [e1]
  exact List.take_left' (by simp; omega)
/-- The cells of a row from an element on. -/
theorem row_cells {W : World} {gs : Nat} {cur : Array Value} {l : List Fr} {n i : Nat} {ad : Addr} (hb : Blk W gs 49 cur) (had : ad = ⟨gs, 0, none⟩) (hx : cur.toList.take (n * 3) = fvs l) (hl : l.length = n) (hi : i ≤ n) :
    ∀ j v, (fvs (l.drop i))[j]? = some v → W.cell? ((ad.add (i * 3)).add j) = some v := by
  intro j v hj
  have ht := row_tail hx hl hi
  rw [add_of_add, had, row_add, hb.cell]
  rw [← ht, List.getElem?_take] at hj
  split at hj
  · rw [List.getElem?_drop] at hj
    rw [← hj]; simp
  · cases hj
theorem wp_region_TS {P : Program} {ops : Array Oper} {Q : Exit → Act → World → Prop} {id : Nat} {a : Act} {w : World} {S : World → Prop} (t : Nat) (hm : P.follows .mixedOrders = true)
    (h : WpT P ops Q S t ops.size (Array.replicate ops.size false) a w.drew) : (Code.region id ops true).wp P Q a w :=
  wp_region_any hm (WpT.any _ _ _ _ h)
/-- What Insert returns here. -/
def InsIs (B n : Nat) (l : List Fr) (w : World) (e : Ending) (w' : World) : Prop := ∃ v', e = .returned v' ∧ w'.ownsRow B 49 3 v' (n + 1) (fvs l) ∧ Below B w w'
theorem overlaps_no (W : World) {gv gs : Nat} {f : Fr} {cur : Array Value} (hv : Blk W gv 49 (fv f).toArray) (hs : Blk W gs 49 cur) (hc : cur.size ≠ 0) (hne : gv ≠ gs) (p : Addr) (off : Nat) (hp : p = ⟨gs, off, none⟩) (lb cb : Nat) :
    (callFunc 50 #[.slice (some ⟨gv, 0, none⟩) 1 1, .slice (some p) lb cb]).run Try.prog W = .ok (.value (.bool false)) W := by
  subst hp
  have hsa : W.shape? gv = some (49, 3) := by unfold World.shape?; rw [hv]; rfl
  have hsb : W.shape? gs = some (49, cur.size) := by unfold World.shape?; rw [hs]
  rw [run_callFunc_extern (f := 50) (fn := Try.f50) Try.func50 (by kernel_rfl) (by kernel_rfl) (by kernel_rfl) (e := Extern.SlicesOverlaps.overlaps #[31, 31] #[4]) (by kernel_rfl),
    Lib.run_overlaps_apart W 31 4 49 (by kernel_rfl) 3 (fun w => by kernel_rfl) ⟨gv, 0, none⟩ ⟨gs, off, none⟩ 1 1 lb cb hne _ _ _ _ hsa hsb hc (hv.free 0) (hv.free 3)]
  rfl
set_option maxRecDepth 20000 in
set_option maxHeartbeats 4000000 in
theorem insertEnd_any (l : List Fr) (f : Fr) (w : World) {B : Nat} {v : Value} {n : Nat} (hown : w.ownsRow B 49 3 v n (fvs l)) (hn : n ≤ 64) (gv : Nat) (hv : Blk w gv 49 (fv f).toArray) (hB : B ≤ w.heap.size) :
    Calls Try.prog 41 #[v, .int .i64 n, .slice (some ⟨gv, 0, none⟩) 1 1] w (InsIs B n (l ++ [f]) w) := by
  obtain ⟨A, c, rfl, hnc, hcm, -⟩ := ownsRow_form hown
  have HR : Hid (RdF w (some ⟨gv, 0, none⟩) 1 [f]) := Lib.hid ⟨rfl, by
    refine ⟨by simp [fvs, fv], fun k u hk => ⟨_, rfl, ?_⟩⟩
    rw [row_add, hv.cell k]
    simpa [fvs] using hk⟩
  have HV := Lib.hid hv
  unfold maxLen at hcm
  clear hv
  go_enter Try.func41, Try.ntmps41
  go_wp2_with (refine wpList_appK rfl rfl elemFr rfl hown rfl (m := 1) HR.out.rd (one_fvs _) (by omega) hB ?_; intro v' w' hown' _ hbel)
  all_goals
    go_ret
    exact ⟨_, rfl, by rw [fvs_app]; exact hown', hbel⟩
set_option maxRecDepth 20000 in
set_option maxHeartbeats 4000000 in
theorem insertRoom_any (l : List Fr) (f : Fr) (i : Nat) (w : World) {B gs n c : Nat} {cur : Array Value} (ad : Addr) (had : ad = ⟨gs, 0, none⟩) (hb : Blk w gs 49 cur) (hBg : B ≤ gs) (hl : l.length = n) (hc : n + 1 ≤ c) (hcm : c ≤ maxLen) (hs : cur.size = c * 3) (hx : cur.toList.take (n * 3) = fvs l) (hi : i < n) (hn : n ≤ 64)
    (gv : Nat) (hv : Blk w gv 49 (fv f).toArray) (hne : gv ≠ gs) :
    Calls Try.prog 41 #[.slice (some ad) n c, .int .i64 i, .slice (some ⟨gv, 0, none⟩) 1 1] w (InsIs B n (l.take i ++ [f] ++ l.drop i) w) := by
  have HOV := Lib.hid (fun lb cb => overlaps_no w hv hb (by omega) hne (ad.add ((i + 1) * 3)) ((i + 1) * 3) (by rw [had]; exact row_add _ _) lb cb)
  have HV := Lib.hid hv
  have HAD := Lib.hid had
  have HX := Lib.hid hx
  have HS := Lib.hid hs
  have HL := Lib.hid hl
  have HCM := Lib.hid hcm
  have HB := Lib.hid hb
  have HNE := Lib.hid hne
  unfold maxLen at hcm
  have hc1 : ¬ c = i + 1 := by omega
  have hc2 : ¬ c = i := by omega
  clear had hx hs hl hb hv hne
  go_enter Try.func41, Try.ntmps41
  go_upto_region 14 with (fail)
  have hov := HOV.out
  go_upto_region 15 with (fail)
  have hw1 : IntKind.i64.wrap ((i : Int) + 1) = (i : Int) + 1 := by rw [IntKind.wrap_i64]; omega
  have hb1 : (0 : Int) ≤ (i : Int) + 1 := by omega
  have htn : ((i : Int) + 1).toNat = i + 1 := by omega
  have hlt1 : (i : Int) + 1 ≤ (n : Int) + 1 := by omega
  have hlt2 : (i : Int) ≤ (n : Int) + 1 := by omega
  have hD1 : (fvs (l.drop i)).length = (n - i) * 3 := by rw [length_fvs, List.length_drop, HL.out]
  have HD1 := Lib.hid hD1
  clear hD1
  have HSZ : Hid ((i + 1) * 3 + (fvs (l.drop i)).length ≤ cur.size) := Lib.hid (by rw [HD1.out, HS.out]; omega)
  have HRC := Lib.hid (row_cells (i := i) HB.out HAD.out HX.out HL.out (by omega))
  have HM : Hid (Nat.min (n + 1 - i) (n - i) = n - i) := Lib.hid (by show min _ _ = _; omega)
  refine wp_region_TS (S := fun _ => True) 9 (by kernel_rfl) ?_
  -- region 15: 9 operations, tail from 9
  refine WpT.take (i := 0) rfl (by kernel_rfl) (fun _ _ _ h => h) (.inl ⟨by rfl, fun w hSw => by clear hSw; go_simp; (try go_bits); (try rw [if_pos (by omega)]); (try with_reducible rfl)⟩) (trivial) ?_
  try simp only [Act.put, List.setIfInBounds_toArray, List.set_cons_zero, List.set_cons_succ]
  refine WpT.take (i := 1) rfl (by kernel_rfl) (fun _ _ _ h => h) (.inl ⟨by rfl, fun w hSw => by clear hSw; go_simp; (try go_bits); (try rw [if_pos (by omega)]); (try with_reducible rfl)⟩) (trivial) ?_
  try simp only [Act.put, List.setIfInBounds_toArray, List.set_cons_zero, List.set_cons_succ]
  refine WpT.take (i := 2) rfl (by kernel_rfl) (fun _ _ _ h => h) (.inl ⟨by rfl, fun w hSw => by clear hSw; go_simp; (try go_bits); (try rw [if_pos (by omega)]); (try with_reducible rfl)⟩) (trivial) ?_
  try simp only [Act.put, List.setIfInBounds_toArray, List.set_cons_zero, List.set_cons_succ]
  refine WpT.take (i := 3) rfl (by kernel_rfl) (fun _ _ _ h => h) (.inl ⟨by rfl, fun w hSw => by clear hSw; go_simp; (try go_bits); (try rw [if_pos (by omega)]); (try with_reducible rfl)⟩) (trivial) ?_
  try simp only [Act.put, List.setIfInBounds_toArray, List.set_cons_zero, List.set_cons_succ]
  refine WpT.take (i := 4) rfl (by kernel_rfl) (fun _ _ _ h => h) (.inl ⟨by rfl, fun w hSw => by clear hSw; go_simp; (try go_bits); (try rw [if_pos (by omega)]); (try with_reducible rfl)⟩) (trivial) ?_
  try simp only [Act.put, List.setIfInBounds_toArray, List.set_cons_zero, List.set_cons_succ]
  refine WpT.take (i := 5) rfl (by kernel_rfl) (fun _ _ _ h => h) (.inl ⟨by rfl, fun w hSw => by clear hSw; go_simp; (try go_bits); (try rw [if_pos (by omega)]); (try with_reducible rfl)⟩) (trivial) ?_
  try simp only [Act.put, List.setIfInBounds_toArray, List.set_cons_zero, List.set_cons_succ]
  refine WpT.take (i := 6) rfl (by kernel_rfl) (fun _ _ _ h => h) (.inl ⟨by rfl, fun w hSw => by clear hSw; go_simp; (try go_bits); (try rw [if_pos (by omega)]); (try with_reducible rfl)⟩) (trivial) ?_
  try simp only [Act.put, List.setIfInBounds_toArray, List.set_cons_zero, List.set_cons_succ]
  refine WpT.take (i := 7) rfl (by kernel_rfl) (fun _ _ _ h => h) (.inl ⟨by rfl, fun w hSw => by clear hSw; go_simp; (try go_bits); (try rw [if_pos (by omega)]); (try with_reducible rfl)⟩) (trivial) ?_
  try simp only [Act.put, List.setIfInBounds_toArray, List.set_cons_zero, List.set_cons_succ]
  refine WpT.one (i := 8) rfl (by kernel_rfl) (fun K hK => ?_)
  refine wp_copyP (k := 3) (elem := 49) (n - i) (fvs (l.drop i)) rfl (by rfl) (by rw [HAD.out]; exact row_add _ _) (by rfl) (by kernel_rfl) (by kernel_rfl) (Blk.drew HB.out) HM.out HD1.out HRC.out HSZ.out (one_fvs _) ?_; intro w4 ht4 hb4
  refine hK _ _ (trivial) ?_; clear hK K; try simp only [Act.put, List.setIfInBounds_toArray, List.set_cons_zero, List.set_cons_succ]
  refine WpT.done (by kernel_rfl) ?_ _
  have hF1 : (fv f).length = 1 * 3 := fv_len f
  have HF1 := Lib.hid hF1
  clear hF1
  have HM2 : Hid (Nat.min 1 (n + 1 - i) = 1) := Lib.hid (by show min _ _ = _; omega)
  obtain ⟨cur1, hcur1⟩ : ∃ cur1 : Array Value, cur1 = (cur.toList.take ((i + 1) * 3) ++ fvs (l.drop i) ++ cur.toList.drop ((i + 1) * 3 + (fvs (l.drop i)).length)).toArray := ⟨_, rfl⟩
  rw [← hcur1] at hb4
  have HC1 := Lib.hid hcur1
  have HSZ1 : Hid (cur1.size = c * 3) := Lib.hid (by
    have h1 := HS.out
    have h2 := HD1.out
    rw [hcur1]
    simp
    omega)
  clear hcur1
  have HV4 : Hid (Blk w4 gv 49 (fv f).toArray) := Lib.hid (ht4.blk (HV.out.drew) HNE.out)
  have HSRC : Hid (∀ j v, (fv f)[j]? = some v → w4.cell? ((⟨gv, 0, none⟩ : Addr).add j) = some v) := Lib.hid (fun j v hj => by rw [row_add, HV4.out.cell]; simpa using hj)
  clear hov
  go_wp2_with (refine wpList_copyP (k := 3) (elem := 49) (pd := ad.add (i * 3)) (g := gs) (off := i * 3) (dLen := n + 1 - i) (dCap := c - i) (p := ⟨gv, 0, none⟩) (sLen := 1) (sCap := 1) rfl 1 (fv f) rfl rfl (by rw [HAD.out]; exact row_add _ (i * 3)) rfl (by kernel_rfl) (by kernel_rfl) hb4 HM2.out HF1.out HSRC.out (by rw [HSZ1.out, HF1.out]; omega) (one_fv f) ?_; intro w5 ht5 hb5)
  have HFin : Hid (((cur1.toList.take (i * 3) ++ fv f ++ cur1.toList.drop (i * 3 + (fv f).length)).toArray).toList.take ((n + 1) * 3) = fvs (l.take i ++ [f] ++ l.drop i)) := Lib.hid (by
    rw [HC1.out]
    have h0 : (cur.toList.take (i * 3)) = fvs (l.take i) := by
      have h2 : cur.toList.take (i * 3) = (cur.toList.take (n * 3)).take (i * 3) := by rw [List.take_take, Nat.min_eq_left (by omega)]
      rw [h2, HX.out]
      unfold fvs
      exact fl_take fv_len l i (by have := HL.out; omega)
    have h1 := splice1 cur.toList (fvs (l.drop i)) (fv f) (i * 3) ((n - i) * 3) (by rw [Array.length_toList, HS.out]; omega) HD1.out (fv_len f)
    rw [h0, show i * 3 + 3 = (i + 1) * 3 by omega, show (i + 1) * 3 + (n - i) * 3 = (n + 1) * 3 by omega] at h1
    rw [fvs_app, fvs_app, show fvs [f] = fv f by simp [fvs]]
    exact h1)
  have HS5 : Hid (((cur1.toList.take (i * 3) ++ fv f ++ cur1.toList.drop (i * 3 + (fv f).length)).toArray).size = c * 3) := Lib.hid (by
    have h1 := HSZ1.out
    simp [fv_len]
    omega)
  go_ret
  refine ⟨_, rfl, ?_, ((Below.refl B w).drew.trans (ht4.below _ hBg)).trans (ht5.below _ hBg)⟩
  rw [HAD.out]
  exact blk_ownsRow hBg hb5 hc HCM.out HS5.out HFin.out
set_option maxRecDepth 20000 in
set_option maxHeartbeats 4000000 in
theorem insertGrow_any (l : List Fr) (f : Fr) (i : Nat) (w : World) {B gs n c : Nat} {cur : Array Value} (ad : Addr) (had : ad = ⟨gs, 0, none⟩) (hb : Blk w gs 49 cur) (hB : B ≤ w.heap.size) (hl : l.length = n) (hnc : n ≤ c) (hc : c < n + 1) (hx : cur.toList.take (n * 3) = fvs l) (hi : i < n) (hn : n ≤ 64)
    (gv : Nat) (hv : Blk w gv 49 (fv f).toArray) :
    Calls Try.prog 41 #[.slice (some ad) n c, .int .i64 i, .slice (some ⟨gv, 0, none⟩) 1 1] w (InsIs B n (l.take i ++ [f] ++ l.drop i) w) := by
  obtain rfl : c = n := by omega
  obtain ⟨i0, hi0, hz0, hzs, hzb⟩ := info_parts (show (Try.prog.info? 49).map (fun i => (i.zero, i.size, i.bytes)) = some (some (.agg #[.bool false, .int .i64 0, .string ⟨#[]⟩]), 3, 32) by kernel_rfl)
  have HAD := Lib.hid had
  have HX := Lib.hid hx
  have HL := Lib.hid hl
  have HB := Lib.hid hb
  have HV := Lib.hid hv
  have hF1 : (fv f).length = 1 * 3 := fv_len f
  have HF1 := Lib.hid hF1
  have hD1 : (fvs (l.drop i)).length = (c - i) * 3 := by rw [length_fvs, List.length_drop, hl]
  have HD1 := Lib.hid hD1
  have HRC := Lib.hid (row_cells (i := i) hb had hx hl (by omega))
  have htk : cur.toList.take (i * 3) = fvs (l.take i) := by
    have h2 : cur.toList.take (i * 3) = (cur.toList.take (c * 3)).take (i * 3) := by rw [List.take_take, Nat.min_eq_left (by omega)]
    rw [h2, hx]
    unfold fvs
    exact fl_take fv_len l i (by omega)
  have hold : (Builtin.firstCells i0.size i (.slice (some ad) i c)).run Try.prog w.drew = .ok (fvs (l.take i)).toArray w.drew := by
    rw [hzs]
    refine run_firstCells_some w.drew 3 i ad i c (fvs (l.take i)) (by rw [length_fvs, List.length_take]; omega) (fun j v hj => ?_)
    rw [had, row_add]
    show w.cell? _ = _
    rw [hb.cell]
    rw [← htk, List.getElem?_take] at hj
    split at hj
    · rw [← hj]; simp
    · cases hj
  have HG : Hid (∀ ty, (Builtin.append_ #[31, 3] ty #[.slice (some ad) i c, .int .i64 ((c + 1 - i : Nat) : Int)]).run Try.prog w = _) := Lib.hid (fun ty => Lib.run_append_grow_zeros w 31 3 ty 49 i0 _ .i64 .i64 (by kernel_rfl) (by kernel_rfl) hi0 hz0 (some ad) i c (fvs (l.take i)) hold (c + 1 - i) (by omega) (by omega) (by omega) (by omega) (by rw [hzb]; omega) (by rw [hzb, show i + (c + 1 - i) = c + 1 by omega]; exact growslice_fits (by omega) (by omega)))
  rw [show i + (c + 1 - i) = c + 1 by omega] at HG
  rw [show ((c + 1 - i : Nat) : Int) = (c : Int) + 1 - i by omega] at HG
  obtain ⟨ad2, had2⟩ : ∃ ad2 : Addr, ad2 = ⟨w.heap.size, 0, none⟩ := ⟨_, rfl⟩
  rw [← had2] at HG
  have HAD2 := Lib.hid had2
  have hG1 := grownCap_ge w (c + 1) c 49
  have hG2 := grownCap_le_maxLen w (c + 1) c 49 (by unfold maxLen; omega)
  generalize grownCap w (c + 1) c 49 = G at *
  have HG2 := Lib.hid hG2
  unfold maxLen at hG2
  obtain ⟨ROW, hROW⟩ : ∃ ROW : Array Value, ROW = (fvs (l.take i)).toArray ++ Builtin.zeroCells (Value.agg #[Value.bool false, Value.int IntKind.i64 0, Value.string ⟨#[]⟩]).cells (c + 1 - i) ++ Builtin.zeroCells (Value.agg #[Value.bool false, Value.int IntKind.i64 0, Value.string ⟨#[]⟩]).cells (G - (c + 1)) := ⟨_, rfl⟩
  rw [← hROW] at HG
  have HRS : Hid (ROW.size = G * 3) := Lib.hid (by
    rw [hROW]
    simp only [Array.size_append, zeroCells_len, List.size_toArray, length_fvs, List.length_take, Value.cells]
    simp
    omega)
  have HRT : Hid (ROW.toList.take (i * 3) = fvs (l.take i)) := Lib.hid (by
    rw [hROW]
    simp only [Array.toList_append]
    rw [List.append_assoc]
    exact List.take_left' (by rw [length_fvs, List.length_take]; omega))
  have HW1 : Hid (Blk (w.drew.alloc (.cells ROW 49)) w.heap.size 49 ROW) := Lib.hid (Blk.new w.drew _ _)
  have HB1 : Hid (Below w.heap.size w (w.drew.alloc (.cells ROW 49))) := Lib.hid ((Below.refl w.heap.size w).drew.alloc (Nat.le_refl _) _)
  have HNV : Hid (gv ≠ w.heap.size) := Lib.hid (by have := hv.lt; omega)
  generalize (w.drew.alloc (.cells ROW 49)) = w1 at *
  clear hROW had had2 hold hb hv hx hl htk hD1 hF1 hi0 hz0 hzs hzb
  have HV1 := Lib.hid (HV.out.below HB1.out)
  have HSRC : Hid (∀ j v, (fv f)[j]? = some v → w1.cell? ((⟨gv, 0, none⟩ : Addr).add j) = some v) := Lib.hid (fun j v hj => by rw [row_add, HV1.out.cell]; simpa using hj)
  have HM2 : Hid (Nat.min 1 (c + 1 - i) = 1) := Lib.hid (by show min _ _ = _; omega)
  have HM : Hid (Nat.min (c - i) (c - i) = c - i) := Lib.hid (by show min _ _ = _; omega)
  have hd1 : ((i : Int) == c) = false := by simp; omega
  have hd2 : decide ((c : Int) < c + 1) = true := by simp; omega
  have hg1 : ¬ G = i := by omega
  have hg2 : ¬ G = i + 1 := by omega
  have hg3 : ¬ c = i := by omega
  have hil : (i : Int) ≤ (c : Int) + 1 := by omega
  go_enter Try.func41, Try.ntmps41
  go_upto_region 9 with (fail)
  go_upto_region 10 with (at_builtin; refine Lib.wpList_append_run _ rfl _ _ _ _ rfl _ _ rfl rfl _ _ (HG.out _) ?_)
  go_upto_region 11 with (refine wpList_copyP (k := 3) (elem := 49) (pd := ad2.add (i * 3)) (g := w.heap.size) (off := i * 3) (dLen := c + 1 - i) (dCap := G - i) (p := ⟨gv, 0, none⟩) (sLen := 1) (sCap := 1) rfl 1 (fv f) rfl rfl (by rw [HAD2.out]; exact row_add _ (i * 3)) rfl (by kernel_rfl) (by kernel_rfl) HW1.out HM2.out HF1.out HSRC.out (by rw [HRS.out, HF1.out]; omega) (one_fv f) ?_; intro w4 ht4 hb4)
  obtain ⟨cur1, hcur1⟩ : ∃ cur1 : Array Value, cur1 = (ROW.toList.take (i * 3) ++ fv f ++ ROW.toList.drop (i * 3 + (fv f).length)).toArray := ⟨_, rfl⟩
  rw [← hcur1] at hb4
  have HC1 := Lib.hid hcur1
  have HSZ1 : Hid (cur1.size = G * 3) := Lib.hid (by
    have h1 := HRS.out
    rw [hcur1]
    simp [fv_len]
    omega)
  clear hcur1
  have HRC4 : Hid (∀ j v, (fvs (l.drop i))[j]? = some v → w4.cell? ((ad.add (i * 3)).add j) = some v) := Lib.hid (fun j v hj => by
    have h1 := HRC.out j v hj
    rw [add_of_add, HAD.out, row_add] at h1 ⊢
    have hb4' : Blk w4 gs 49 cur := ht4.blk (HB.out.below HB1.out) (by have := HB.out.lt; omega)
    rw [hb4'.cell]
    rw [HB.out.cell] at h1
    exact h1)
  have hw1 : IntKind.i64.wrap ((i : Int) + 1) = (i : Int) + 1 := by rw [IntKind.wrap_i64]; omega
  have hb1 : (0 : Int) ≤ (i : Int) + 1 := by omega
  have htn : ((i : Int) + 1).toNat = i + 1 := by omega
  have hlt1 : (i : Int) + 1 ≤ (c : Int) + 1 := by omega
  have hlt2 : (i : Int) ≤ (c : Int) := by omega
  refine wp_region_TS (S := fun _ => True) 9 (by kernel_rfl) ?_
  -- region 11: 9 operations, tail from 9
  refine WpT.take (i := 0) rfl (by kernel_rfl) (fun _ _ _ h => h) (.inl ⟨by rfl, fun w hSw => by clear hSw; go_simp; (try go_bits); (try rw [if_pos (by omega)]); (try with_reducible rfl)⟩) (trivial) ?_
  try simp only [Act.put, List.setIfInBounds_toArray, List.set_cons_zero, List.set_cons_succ]
  refine WpT.take (i := 1) rfl (by kernel_rfl) (fun _ _ _ h => h) (.inl ⟨by rfl, fun w hSw => by clear hSw; go_simp; (try go_bits); (try rw [if_pos (by omega)]); (try with_reducible rfl)⟩) (trivial) ?_
  try simp only [Act.put, List.setIfInBounds_toArray, List.set_cons_zero, List.set_cons_succ]
  refine WpT.take (i := 2) rfl (by kernel_rfl) (fun _ _ _ h => h) (.inl ⟨by rfl, fun w hSw => by clear hSw; go_simp; (try go_bits); (try rw [if_pos (by omega)]); (try with_reducible rfl)⟩) (trivial) ?_
  try simp only [Act.put, List.setIfInBounds_toArray, List.set_cons_zero, List.set_cons_succ]
  refine WpT.take (i := 3) rfl (by kernel_rfl) (fun _ _ _ h => h) (.inl ⟨by rfl, fun w hSw => by clear hSw; go_simp; (try go_bits); (try rw [if_pos (by omega)]); (try with_reducible rfl)⟩) (trivial) ?_
  try simp only [Act.put, List.setIfInBounds_toArray, List.set_cons_zero, List.set_cons_succ]
  refine WpT.take (i := 4) rfl (by kernel_rfl) (fun _ _ _ h => h) (.inl ⟨by rfl, fun w hSw => by clear hSw; go_simp; (try go_bits); (try rw [if_pos (by omega)]); (try with_reducible rfl)⟩) (trivial) ?_
  try simp only [Act.put, List.setIfInBounds_toArray, List.set_cons_zero, List.set_cons_succ]
  refine WpT.take (i := 5) rfl (by kernel_rfl) (fun _ _ _ h => h) (.inl ⟨by rfl, fun w hSw => by clear hSw; go_simp; (try go_bits); (try rw [if_pos (by omega)]); (try with_reducible rfl)⟩) (trivial) ?_
  try simp only [Act.put, List.setIfInBounds_toArray, List.set_cons_zero, List.set_cons_succ]
  refine WpT.take (i := 6) rfl (by kernel_rfl) (fun _ _ _ h => h) (.inl ⟨by rfl, fun w hSw => by clear hSw; go_simp; (try go_bits); (try rw [if_pos (by omega)]); (try with_reducible rfl)⟩) (trivial) ?_
  try simp only [Act.put, List.setIfInBounds_toArray, List.set_cons_zero, List.set_cons_succ]
  refine WpT.take (i := 7) rfl (by kernel_rfl) (fun _ _ _ h => h) (.inl ⟨by rfl, fun w hSw => by clear hSw; go_simp; (try go_bits); (try rw [if_pos (by omega)]); (try with_reducible rfl)⟩) (trivial) ?_
  try simp only [Act.put, List.setIfInBounds_toArray, List.set_cons_zero, List.set_cons_succ]
  refine WpT.one (i := 8) rfl (by kernel_rfl) (fun K hK => ?_)
  refine wp_copyP (k := 3) (elem := 49) (pd := ad2.add ((i + 1) * 3)) (g := w.heap.size) (off := (i + 1) * 3) (c - i) (fvs (l.drop i)) rfl (by rfl) (by rw [HAD2.out]; exact row_add _ _) (by rfl) (by kernel_rfl) (by kernel_rfl) (Blk.drew hb4) HM.out HD1.out HRC4.out (by rw [HSZ1.out, HD1.out]; omega) (one_fvs _) ?_; intro w5 ht5 hb5
  refine hK _ _ (trivial) ?_; clear hK K; try simp only [Act.put, List.setIfInBounds_toArray, List.set_cons_zero, List.set_cons_succ]
  refine WpT.done (by kernel_rfl) ?_ _
  have HFin : Hid (((cur1.toList.take ((i + 1) * 3) ++ fvs (l.drop i) ++ cur1.toList.drop ((i + 1) * 3 + (fvs (l.drop i)).length)).toArray).toList.take ((c + 1) * 3) = fvs (l.take i ++ [f] ++ l.drop i)) := Lib.hid (by
    rw [HC1.out]
    have h1 := splice2 ROW.toList (fvs (l.drop i)) (fv f) (i * 3) ((c - i) * 3) (by rw [Array.length_toList, HRS.out]; omega) HD1.out (fv_len f)
    rw [HRT.out, show i * 3 + 3 = (i + 1) * 3 by omega, show (i + 1) * 3 + (c - i) * 3 = (c + 1) * 3 by omega] at h1
    rw [fvs_app, fvs_app, show fvs [f] = fv f by simp [fvs], HRT.out]
    exact h1)
  have HS5 : Hid (((cur1.toList.take ((i + 1) * 3) ++ fvs (l.drop i) ++ cur1.toList.drop ((i + 1) * 3 + (fvs (l.drop i)).length)).toArray).size = G * 3) := Lib.hid (by
    have h1 := HSZ1.out
    have h2 := HD1.out
    simp
    omega)
  clear hw1 hb1 htn hlt1 hlt2
  go_wp2_with fail
  go_ret
  refine ⟨_, rfl, ?_, (((HB1.out.mono hB).trans (ht4.below _ hB)).drew.trans (ht5.below _ hB))⟩
  rw [HAD2.out]
  exact blk_ownsRow hB hb5 hG1 HG2.out HS5.out (by rw [show List.take i l ++ f :: List.drop i l = List.take i l ++ [f] ++ List.drop i l by simp]; exact HFin.out)
/-- Insert of one frame into a row of the call's own. -/
theorem insertF_any (l : List Fr) (f : Fr) (i : Nat) (w : World) {B : Nat} {v : Value} {n : Nat} (hown : w.ownsRow B 49 3 v n (fvs l)) (hl : l.length = n) (hi : i ≤ n) (hn : n ≤ 64) (gv : Nat) (hv : Blk w gv 49 (fv f).toArray) (hne : v.ownBlock ≠ some gv) (hB : B ≤ w.heap.size) :
    Calls Try.prog 41 #[v, .int .i64 i, .slice (some ⟨gv, 0, none⟩) 1 1] w (InsIs B n (l.take i ++ [f] ++ l.drop i) w) := by
  by_cases h : i = n
  · subst h
    rw [List.take_of_length_le (by omega), List.drop_of_length_le (by omega), List.append_nil]
    exact insertEnd_any l f w hown hn gv hv hB
  · obtain ⟨g, cap, cur, rfl, hg, hb, hc, hm, hs, ht⟩ := own_blk hown (by omega)
    have hgv : gv ≠ g := fun e => hne (by rw [e]; rfl)
    by_cases hr : n + 1 ≤ cap
    · exact insertRoom_any l f i w ⟨g, 0, none⟩ rfl hb hg hl hr hm hs ht (by omega) hn gv hv hgv
    · exact insertGrow_any l f i w ⟨g, 0, none⟩ rfl hb hB hl hc (by omega) ht (by omega) hn gv hv
end Go.Proofs.Ytecklplohgfohaa
