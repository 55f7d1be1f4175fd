/-
  These texts, joined.
  Items and stocks as cells; the name of a text; Place, Same of the reference. Conditions: the tables of constants stand (GCon, RCon).
  The library's binary search at items and at names; find and Find. Conditions: the names stand in order.
  The library's Clone and Insert at items. Conditions: at most 1000 items; the item lies in a block of its own.
  find, Find and Add of the program. Conditions: the stock's names stand in order; at most 1000 items; texts of at most 400 bytes; the table of constants stands.
-/
import Derived.Test.YtieamjjnofelcaaDoorB2
import Derived.Test.YtieamjjnofelcaaDoorB4
import Derived.Laws.CopyRow
import Derived.Laws.IdiomCopy
import Derived.Lib.AppendZerosOnto
import Derived.Lib.Overlaps
import Derived.Laws.Externs
namespace Go.Proofs.YtieamjjnofelcaaDoor
set_option linter.unusedSimpArgs false
set_option linter.unusedVariables false
open Go.RowKit Exch
structure It where
  nm : Nat
  tx : ByteArray
deriving DecidableEq
abbrev itL (x : It) : List Value := bv (dg x.nm) ++ [.string x.tx]
abbrev itC (x : It) : Array Value := (itL x).toArray
abbrev itV (x : It) : Value := .agg (itC x)
theorem itL_len (x : It) : (itL x).length = 17 := by simp [itL, dg_len]
theorem itC_size (x : It) : (itC x).size = 17 := by simp [itC, itL, dg_len]
def itsL (l : List It) : List Value := l.flatMap itL
theorem length_itsL (l : List It) : (itsL l).length = l.length * 17 := length_fl itL_len l
theorem itsL_app (a b : List It) : itsL (a ++ b) = itsL a ++ itsL b := by simp [itsL]
theorem one_itL (x : It) : ∀ u ∈ itL x, u.oneCell' = true := by
  intro u hu
  simp only [itL, bv, List.mem_append, List.mem_map, List.mem_singleton] at hu
  rcases hu with ⟨b, _, rfl⟩ | rfl <;> rfl
theorem one_itsL (l : List It) : ∀ u ∈ itsL l, u.oneCell' = true := by
  intro u hu
  simp only [itsL, List.mem_flatMap] at hu
  obtain ⟨x, _, hu⟩ := hu
  exact one_itL x u hu
theorem one_itC (x : It) : (itC x).all (·.oneCell') = true := by
  rw [Array.all_eq_true']
  intro u hu
  exact one_itL x u (by simpa [itC] using hu)
theorem aggIt : (Tryd.prog.underlying 50).map isAggDesc = some true := by kernel_rfl
theorem sizeIt : (Tryd.prog.info? 50).map (·.size) = some 17 := by kernel_rfl
theorem aggSt : (Tryd.prog.underlying 24).map isAggDesc = some true := by kernel_rfl
theorem sizeSt : (Tryd.prog.info? 24).map (·.size) = some 1 := by kernel_rfl
abbrev stC (A : Option Addr) (n c : Nat) : Array Value := #[.slice A n c]
abbrev stV (A : Option Addr) (n c : Nat) : Value := .agg #[.slice A n c]
structure RdT (W : World) (A : Option Addr) (n : Nat) (l : List It) : Prop where
  len : l.length = n
  rd : Rd W A (n * 17) (itsL l)
theorem RdT.below {W W' : World} {A : Option Addr} {n : Nat} {l : List It} (h : RdT W A n l) (hb : Below W.heap.size W W') : RdT W' A n l := ⟨h.len, h.rd.below hb⟩
theorem RdT.none_ (W : World) : RdT W none 0 [] := ⟨rfl, Rd.none_ W⟩
theorem RdT.elem {W : World} {A : Option Addr} {n : Nat} {l : List It} (h : RdT W A n l) {i : Nat} (hi : i < l.length) : ∃ ad, A = some ad ∧ ∀ j u, (itL l[i])[j]? = some u → W.cell? ((ad.add (i * 17)).add j) = some u :=
  Rd.elem itL_len (by omega) h.rd hi
theorem it_name {x : It} {w : World} {p : Addr} (h : ∀ j u, (itL x)[j]? = some u → w.cell? (p.add j) = some u) : ∀ j u, (bv (dg x.nm))[j]? = some u → w.cell? (p.add j) = some u := fun j u hj =>
  h j u (by rw [List.getElem?_append_left (List.getElem?_eq_some_iff.1 hj).1]; exact hj)
theorem it_text {x : It} {w : World} {p : Addr} (h : ∀ j u, (itL x)[j]? = some u → w.cell? (p.add j) = some u) : w.cell? (p.add 16) = some (.string x.tx) :=
  h 16 _ (by rw [List.getElem?_append_right (by simp [dg_len])]; simp [dg_len])
theorem Blk.it {x : It} {w : World} {g : Nat} {t : TypeId} (h : Blk w g t (itC x)) : ∀ j u, (itL x)[j]? = some u → w.cell? ((⟨g, 0, none⟩ : Addr).add j) = some u :=
  blk_at h 0 fun j u hj => by rw [Nat.zero_add]; exact hj
structure WfT (x : It) : Prop where
  nm : x.nm < 2 ^ 128
  tx : x.tx.size ≤ maxLen
/-- The name of a text. -/
def nameOf (t : ByteArray) : Nat := val (dig16 (inputL 44 [t]))
def sumOf (l : List Nat) : Nat := val (dig16 (inputL 45 (l.map fun n => ⟨(dg n).toArray⟩)))
theorem nameOf_lt (t : ByteArray) : nameOf t < 2 ^ 128 := by
  have := val_lt (dig16 (inputL 44 [t]))
  rwa [length_dig16, n256] at this
theorem sumOf_lt (l : List Nat) : sumOf l < 2 ^ 128 := by
  have := val_lt (dig16 (inputL 45 (l.map fun n => ⟨(dg n).toArray⟩)))
  rwa [length_dig16, n256] at this
theorem nameOf_dg (t : ByteArray) : (bv (dig16 (inputL 44 [t]))).toArray = dgC (nameOf t) := by unfold nameOf; rw [dgC, dg_val (length_dig16 _)]
theorem sumOf_dg (l : List Nat) : (bv (dig16 (inputL 45 (l.map fun n => ⟨(dg n).toArray⟩)))).toArray = dgC (sumOf l) := by unfold sumOf; rw [dgC, dg_val (length_dig16 _)]
theorem zeroDg (W : World) : (zeroValue 26).run Tryd.prog W = .ok (dgV 0) W := by kernel_rfl
theorem build1_S (s : ByteArray) (W : World) : (Instr.buildSlice 66 1 #[(0, .string s)]).run Tryd.prog W = .ok (.slice (some ⟨W.heap.size, 0, none⟩) 1 1) (W.alloc (.cells #[.string s] 9)) := by kernel_rfl
theorem wpList_lit1S {w : World} {ops : Array Oper} {rest : List Oper} {o : Oper} {a : Act} {Q : Exit → Act → World → Prop} (hgd : o.guard = none) {x : Operand} {s : ByteArray} (ho : o.op = .buildSlice 66 1 #[(0, x)]) (hx : a.eval x = .string s)
    (h : ∀ w' g, g = w.heap.size → Rd w' (some ⟨g, 0, none⟩) 1 (sv [s]) → Below w.heap.size w w' → wpList Tryd.prog ops Q rest (a.put o.dst (.slice (some ⟨g, 0, none⟩) 1 1)) w') : wpList Tryd.prog ops Q (o :: rest) a w := by
  refine wpList_plain hgd fun K hK => ?_
  have h2 := h _ _ rfl (Rd.new1 w (.string s) 9) ((Below.refl _ _).alloc (Nat.le_refl _) _)
  unfold Oper.wp execOp
  simp only [ho, List.map_toArray, List.map_cons, List.map_nil, hx, build1_S, Sem.run_bind, Result.andThen_ok, Sem.run_pure]
  exact hK _ _ h2
set_option maxRecDepth 20000 in
set_option maxHeartbeats 1000000 in
theorem name_any (t : ByteArray) (w : World) (ht : t.size ≤ 65536) (hg : GCon w) : Calls Tryd.prog 13 #[.string t] w fun e w' => e = .returned (dgV (nameOf t)) ∧ Below w.heap.size w w' := by
  have HO := Lib.hid (fun (W : World) (g : Nat) (hr : Rd W (some ⟨g, 0, none⟩) 1 (sv [t])) (hG : GCon W) => of_any 44 (some ⟨g, 0, none⟩) 1 1 [t] W (by omega) (fun s hs => by simp at hs; subst hs; exact ht) hr hG)
  rw [nameOf_dg] at HO
  have HG := Lib.hid hg
  clear hg
  generalize nameOf t = M at *
  go_enter Tryd.func13, Tryd.ntmps13
  go_upto_region 1 with ((with_reducible show wpList _ _ _ _ _ _); refine wpList_new (cs := dgC 0) rfl rfl zeroDg ?_; intro w0 g0 hg0 q0 hb0 lt0; have HG0 := Lib.hid hg0; clear hg0)
  go_wp2_with ((with_reducible show wpList _ _ _ _ _ _); refine wpList_lit1S rfl rfl rfl ?_; intro w1 g1 hg1 hr1 hb1; clear hg1)
  refine (HO.out _ _ hr1 (HG.out.below (bstep hb0 hb1))).mono ?_
  rintro e w2 ⟨rfl, hb2⟩
  have q2 := (q0.below hb1).below hb2
  go_wp2_with ((with_reducible show wpList _ _ _ _ _ _); refine wpList_put (vs := dgC M) rfl rfl rfl rfl q2 (by rw [dgC_size, dgC_size]) (by rw [sizeDg, dgC_size]) (one_dgC _) ?_; intro w9 ht9 b9)
  exact ret_blk rfl rfl rfl b9 aggDg (by rw [sizeDg, dgC_size]) ⟨rfl, (bstep (bstep hb0 hb1) hb2).trans (ht9.below _ (by have := HG0.out; omega))⟩
set_option maxRecDepth 20000 in
set_option maxHeartbeats 1000000 in
theorem refName_any (t : ByteArray) (w : World) (ht : t.size ≤ 400) (hg : RCon w) : Calls Tryd.prog 14 #[.string t] w fun e w' => e = .returned (dgV (nameOf t)) ∧ Below w.heap.size w w' := by
  have HO := Lib.hid (fun (W : World) (g : Nat) (hr : Rd W (some ⟨g, 0, none⟩) 1 (sv [t])) (hG : RCon W) => refOf_any 44 (some ⟨g, 0, none⟩) 1 1 [t] W (by omega) (fun s hs => by simp at hs; subst hs; exact ht) hr hG)
  rw [nameOf_dg] at HO
  have HG := Lib.hid hg
  clear hg
  generalize nameOf t = M at *
  go_enter Tryd.func14, Tryd.ntmps14
  go_upto_region 1 with ((with_reducible show wpList _ _ _ _ _ _); refine wpList_new (cs := dgC 0) rfl rfl zeroDg ?_; intro w0 g0 hg0 q0 hb0 lt0; have HG0 := Lib.hid hg0; clear hg0)
  go_wp2_with ((with_reducible show wpList _ _ _ _ _ _); refine wpList_lit1S rfl rfl rfl ?_; intro w1 g1 hg1 hr1 hb1; clear hg1)
  refine (HO.out _ _ hr1 (HG.out.below (bstep hb0 hb1))).mono ?_
  rintro e w2 ⟨rfl, hb2⟩
  have q2 := (q0.below hb1).below hb2
  go_wp2_with ((with_reducible show wpList _ _ _ _ _ _); refine wpList_put (vs := dgC M) rfl rfl rfl rfl q2 (by rw [dgC_size, dgC_size]) (by rw [sizeDg, dgC_size]) (one_dgC _) ?_; intro w9 ht9 b9)
  exact ret_blk rfl rfl rfl b9 aggDg (by rw [sizeDg, dgC_size]) ⟨rfl, (bstep (bstep hb0 hb1) hb2).trans (ht9.below _ (by have := HG0.out; omega))⟩
/-- The place of a name in a stock. -/
def place (l : List It) (n : Nat) : Int := match l.findIdx? (fun x => decide (x.nm = n)) with | some k => k | none => -1
def placeGo (n : Nat) : Nat → List It → Int
  | _, [] => -1
  | k, x :: l => if x.nm = n then k else placeGo n (k + 1) l
theorem placeGo_place (n : Nat) : ∀ (l : List It) (k : Nat), placeGo n k l = match l.findIdx? (fun x => decide (x.nm = n)) with | some j => ((j + k : Nat) : Int) | none => -1
  | [], k => rfl
  | x :: l, k => by
    rw [placeGo, placeGo_place n l (k + 1), List.findIdx?_cons]
    by_cases h : x.nm = n
    · simp [h]
    · rw [if_neg h]
      simp only [h, decide_false, Bool.false_eq_true, if_false]
      cases l.findIdx? (fun x => decide (x.nm = n)) with
      | none => rfl
      | some j => simp only [Option.map_some]; congr 1; omega
theorem place_go (l : List It) (n : Nat) : place l n = placeGo n 0 l := by rw [placeGo_place]; rfl
theorem stBox (w : World) (A : Option Addr) (m c n : Nat) : ∃ wa : World, wa = (w.alloc (.cells (stC A m c) 24)).alloc (.cells (dgC n) 26) ∧ Below w.heap.size w wa ∧ Blk wa w.heap.size 24 (stC A m c) ∧ Blk wa (w.heap.size + 1) 26 (dgC n) :=
  ⟨_, rfl, ((Below.refl w.heap.size w).alloc (Nat.le_refl _) _).alloc (by simp) _, (Blk.new _ _ _).alloc _, Blk.new2 _ _ _ _⟩
set_option maxRecDepth 20000 in
set_option maxHeartbeats 1000000 in
theorem place_any (l : List It) (A : Option Addr) (m c n : Nat) (w : World) (hm : m ≤ 1000000) (hr : RdT w A m l) (hl : ∀ x ∈ l, WfT x) (hn : n < 2 ^ 128) :
    Calls Tryd.prog 17 #[stV A m c, dgV n] w fun e w' => e = .returned (.int .i64 (place l n)) ∧ Below w.heap.size w w' := by
  obtain ⟨wa, hwa, hb0, q0, q1⟩ := stBox w A m c n
  have HWA := Lib.hid hwa
  clear hwa
  have HR := Lib.hid hr
  have HL := Lib.hid hr.len
  have HW := Lib.hid hl
  rw [place_go]
  have HV0 : Hid (placeGo n 0 l = placeGo n 0 (l.drop 0)) := Lib.hid rfl
  generalize placeGo n 0 l = V at *
  clear hr hl
  go_enter Tryd.func17, Tryd.ntmps17
  go_upto_region 1 with (fail)
  change Code.wp _ _ _ _ ((w.alloc (.cells (stC A m c) 24)).alloc (.cells (dgC n) 26))
  rw [← HWA.out]
  go_wp2_with fail
  go_loopw [5] (fun vk wr => ∃ k : Nat, k ≤ m ∧ vk = .int .i64 k ∧ Below wa.heap.size wa wr ∧ Hid (V = placeGo n k (l.drop k))) (fun vk _ => m - (intOf vk).toNat)
  case atStart => exact ⟨0, Nat.zero_le _, rfl, Below.refl _ _, HV0⟩
  case round =>
    obtain ⟨k, hk, rfl, hbw, HV⟩ := hrel
    replace q0 := q0.below hbw
    replace q1 := q1.below hbw
    replace hb0 := bstep hb0 hbw
    have c0 := q0.cell 0
    simp only [List.getElem?_toArray, List.getElem?_cons_zero] at c0
    by_cases hlt : k < m
    · have hkl : k < l.length := by have := HL.out; omega
      obtain ⟨ad, rfl, hc⟩ := (HR.out.below hb0).elem hkl
      have hv := HV.out
      have hwf := (HW.out _ (List.getElem_mem hkl)).nm
      rw [List.drop_eq_getElem_cons hkl] at hv
      simp only [placeGo] at hv
      generalize l[k] = x at *
      have heq := eql_Dg hwf hn
      clear hwf
      by_cases hx : x.nm = n
      · rw [if_pos hx] at hv
        subst hv
        have dx : decide (x.nm = n) = true := by simpa using hx
        rw [dx] at heq
        clear hx HV HV0
        go_upto_region 4 with fail
        refine wp_region_T 8 (by kernel_rfl) ?_
        refine WpT.take (i := 0) rfl (by kernel_rfl) (fun _ _ _ h => h) (.inl ⟨by rfl, fun w hSw => by clear hSw; go_simp; (try go_bits); (try rw [if_pos (by omega)]); (try with_reducible rfl)⟩) ((Below.refl _ _).drew) ?_
        try simp only [nrm]
        refine WpT.take (i := 1) rfl (by kernel_rfl) (fun _ _ _ h => h) (yields_load rfl rfl rfl (by kernel_rfl) c0) ((Below.refl _ _).drew) ?_
        try simp only [nrm]
        refine WpT.take (i := 2) rfl (by kernel_rfl) (fun _ _ _ h => h) (.inl ⟨by rfl, fun w hSw => by clear hSw; go_simp; (try go_bits); (try rw [if_pos (by omega)]); (try with_reducible rfl)⟩) ((Below.refl _ _).drew) ?_
        try simp only [nrm]
        refine WpT.take (i := 3) rfl (by kernel_rfl) (fun _ _ _ h => h) (.inl ⟨by rfl, fun w hSw => by clear hSw; go_simp; (try go_bits); (try rw [if_pos (by omega)]); (try with_reducible rfl)⟩) ((Below.refl _ _).drew) ?_
        try simp only [nrm]
        refine WpT.take (i := 4) rfl (by kernel_rfl) (fun _ _ _ h => h) (.inl ⟨by rfl, fun w hSw => by clear hSw; go_simp; (try go_bits); (try rw [if_pos (by omega)]); (try with_reducible rfl)⟩) ((Below.refl _ _).drew) ?_
        try simp only [nrm]
        refine WpT.take (i := 5) rfl (by kernel_rfl) (fun _ _ _ h => h) (yields_loadK (us := bv (dg x.nm)) rfl rfl rfl aggDg (by rw [sizeDg, bv_dg_len]) (it_name hc)) ((Below.refl _ _).drew) ?_
        try simp only [nrm]
        refine WpT.take (i := 6) rfl (by kernel_rfl) (fun _ _ _ h => h) (yields_blk rfl rfl rfl aggDg (by rw [sizeDg, dgC_size]) q1) ((Below.refl _ _).drew) ?_
        try simp only [nrm]
        refine WpT.take (i := 7) rfl (by kernel_rfl) (fun _ _ _ h => h) (.inl ⟨by rfl, fun w hSw => by clear hSw; go_simp; (try go_bits); (try rw [if_pos (by omega)]); (try with_reducible rfl)⟩) ((Below.refl _ _).drew) ?_
        try simp only [nrm]
        refine WpT.done (by kernel_rfl) ?_ _
        go_wp2_with fail
        go_ret
        exact ⟨rfl, hb0.drew⟩
      · rw [if_neg hx] at hv
        have HN := Lib.hid hv
        have dx : decide (x.nm = n) = false := by simpa using hx
        rw [dx] at heq
        clear hx HV HV0 hv
        go_upto_region 4 with fail
        refine wp_region_T 8 (by kernel_rfl) ?_
        refine WpT.take (i := 0) rfl (by kernel_rfl) (fun _ _ _ h => h) (.inl ⟨by rfl, fun w hSw => by clear hSw; go_simp; (try go_bits); (try rw [if_pos (by omega)]); (try with_reducible rfl)⟩) ((Below.refl _ _).drew) ?_
        try simp only [nrm]
        refine WpT.take (i := 1) rfl (by kernel_rfl) (fun _ _ _ h => h) (yields_load rfl rfl rfl (by kernel_rfl) c0) ((Below.refl _ _).drew) ?_
        try simp only [nrm]
        refine WpT.take (i := 2) rfl (by kernel_rfl) (fun _ _ _ h => h) (.inl ⟨by rfl, fun w hSw => by clear hSw; go_simp; (try go_bits); (try rw [if_pos (by omega)]); (try with_reducible rfl)⟩) ((Below.refl _ _).drew) ?_
        try simp only [nrm]
        refine WpT.take (i := 3) rfl (by kernel_rfl) (fun _ _ _ h => h) (.inl ⟨by rfl, fun w hSw => by clear hSw; go_simp; (try go_bits); (try rw [if_pos (by omega)]); (try with_reducible rfl)⟩) ((Below.refl _ _).drew) ?_
        try simp only [nrm]
        refine WpT.take (i := 4) rfl (by kernel_rfl) (fun _ _ _ h => h) (.inl ⟨by rfl, fun w hSw => by clear hSw; go_simp; (try go_bits); (try rw [if_pos (by omega)]); (try with_reducible rfl)⟩) ((Below.refl _ _).drew) ?_
        try simp only [nrm]
        refine WpT.take (i := 5) rfl (by kernel_rfl) (fun _ _ _ h => h) (yields_loadK (us := bv (dg x.nm)) rfl rfl rfl aggDg (by rw [sizeDg, bv_dg_len]) (it_name hc)) ((Below.refl _ _).drew) ?_
        try simp only [nrm]
        refine WpT.take (i := 6) rfl (by kernel_rfl) (fun _ _ _ h => h) (yields_blk rfl rfl rfl aggDg (by rw [sizeDg, dgC_size]) q1) ((Below.refl _ _).drew) ?_
        try simp only [nrm]
        refine WpT.take (i := 7) rfl (by kernel_rfl) (fun _ _ _ h => h) (.inl ⟨by rfl, fun w hSw => by clear hSw; go_simp; (try go_bits); (try rw [if_pos (by omega)]); (try with_reducible rfl)⟩) ((Below.refl _ _).drew) ?_
        try simp only [nrm]
        refine WpT.done (by kernel_rfl) ?_ _
        go_wp2_with fail
        exact ⟨⟨k + 1, by omega, by go_num, hbw.drew, HN⟩, by simp [intOf]; omega⟩
    · obtain rfl : k = m := by omega
      have hv := HV.out
      rw [List.drop_of_length_le (by have := HL.out; omega)] at hv
      rw [placeGo] at hv
      subst hv
      clear HV HV0
      go_wp2_with fail
      go_ret
      exact ⟨rfl, hb0⟩
end Go.Proofs.YtieamjjnofelcaaDoor
namespace Go.Proofs.YtieamjjnofelcaaDoor
set_option linter.unusedSimpArgs false
set_option linter.unusedVariables false
open Go.RowKit Exch
def lowN (z : Nat) : List Nat → Nat
  | [] => 0
  | x :: l => if x < z then lowN z l + 1 else 0
def knownN (z : Nat) (l : List Nat) : Bool := match l[lowN z l]? with | some x => decide (x = z) | none => false
def SortedN (l : List Nat) : Prop := l.Pairwise fun a b => a < b
theorem lowN_unique (z : Nat) : ∀ (l : List Nat) (i : Nat), i ≤ l.length → (∀ (m : Nat) (h : m < l.length), m < i → l[m] < z) → (∀ (m : Nat) (h : m < l.length), i ≤ m → ¬ l[m] < z) → i = lowN z l
  | [], i, h, _, _ => by simpa [lowN] using h
  | x :: l, 0, _, _, h2 => by
    have := h2 0 (by simp) (Nat.le_refl _)
    simp only [List.getElem_cons_zero] at this
    simp [lowN, this]
  | x :: l, i + 1, h, h1, h2 => by
    have h3 := h1 0 (by simp) (by omega)
    simp only [List.getElem_cons_zero] at h3
    have h4 := lowN_unique z l i (by simpa using h) (fun m hm hi => h1 (m + 1) (by simpa using hm) (by omega)) (fun m hm hi => h2 (m + 1) (by simpa using hm) (by omega))
    simp [lowN, h3, h4]
theorem lowN_le (z : Nat) (l : List Nat) : lowN z l ≤ l.length := by
  induction l with
  | nil => simp [lowN]
  | cons x l ih => simp only [lowN]; split <;> simp <;> omega
theorem knownN_get {z : Nat} {l : List Nat} (h : knownN z l = true) : ∃ hl : lowN z l < l.length, l[lowN z l] = z := by
  unfold knownN at h
  by_cases hl : lowN z l < l.length
  · rw [List.getElem?_eq_getElem hl] at h; exact ⟨hl, by simpa using h⟩
  · rw [List.getElem?_eq_none (by omega)] at h; cases h
theorem cmpN_lt (a b : Nat) : (cmpN a b < 0) ↔ a < b := by unfold cmpN; split <;> (try split) <;> omega
theorem cmpN_eq (a b : Nat) : (cmpN a b = 0) ↔ a = b := by unfold cmpN; split <;> (try split) <;> omega
/-- Names in a row. -/
def dgsL (l : List Nat) : List Value := l.flatMap fun n => bv (dg n)
theorem length_dgsL (l : List Nat) : (dgsL l).length = l.length * 16 := length_fl bv_dg_len l
theorem dgsL_app (a b : List Nat) : dgsL (a ++ b) = dgsL a ++ dgsL b := by simp [dgsL]
theorem one_dgsL (l : List Nat) : ∀ u ∈ dgsL l, u.oneCell' = true := by
  intro u hu
  simp only [dgsL, List.mem_flatMap, bv, List.mem_map] at hu
  obtain ⟨x, _, b, _, rfl⟩ := hu
  rfl
structure RdD (W : World) (A : Option Addr) (n : Nat) (l : List Nat) : Prop where
  len : l.length = n
  rd : Rd W A (n * 16) (dgsL l)
theorem RdD.below {W W' : World} {A : Option Addr} {n : Nat} {l : List Nat} (h : RdD W A n l) (hb : Below W.heap.size W W') : RdD W' A n l := ⟨h.len, h.rd.below hb⟩
theorem RdD.none_ (W : World) : RdD W none 0 [] := ⟨rfl, Rd.none_ W⟩
theorem RdD.elem {W : World} {A : Option Addr} {n : Nat} {l : List Nat} (h : RdD W A n l) {i : Nat} (hi : i < l.length) : ∃ ad, A = some ad ∧ ∀ j u, (bv (dg l[i]))[j]? = some u → W.cell? ((ad.add (i * 16)).add j) = some u :=
  Rd.elem bv_dg_len (by omega) h.rd hi
theorem itBox (w : World) (x : It) (n : Nat) : ∃ wa : World, wa = (w.alloc (.cells (itC x) 50)).alloc (.cells (dgC n) 26) ∧ Below w.heap.size w wa ∧ Blk wa w.heap.size 50 (itC x) ∧ Blk wa (w.heap.size + 1) 26 (dgC n) :=
  ⟨_, rfl, ((Below.refl w.heap.size w).alloc (Nat.le_refl _) _).alloc (by simp) _, (Blk.new _ _ _).alloc _, Blk.new2 _ _ _ _⟩
set_option maxRecDepth 20000 in
set_option maxHeartbeats 1000000 in
theorem findCmp_any (x : It) (n : Nat) (w : World) (hx : x.nm < 2 ^ 128) (hn : n < 2 ^ 128) : Calls Tryd.prog 68 #[itV x, dgV n] w fun e w' => e = .returned (.int .i64 (cmpN x.nm n)) ∧ Below w.heap.size w w' := by
  obtain ⟨wa, hwa, hb0, q0, q1⟩ := itBox w x n
  have HWA := Lib.hid hwa
  clear hwa
  have HO := Lib.hid (fun W => order_any x.nm n W hx hn)
  generalize cmpN x.nm n = V at *
  go_enter Tryd.func68, Tryd.ntmps68
  go_upto_region 1 with (fail)
  change Code.wp _ _ _ _ ((w.alloc (.cells (itC x) 50)).alloc (.cells (dgC n) 26))
  rw [← HWA.out]
  go_wp2_with (first
    | ((with_reducible show wpList _ _ _ _ _ _); refine wpList_loadK (us := bv (dg x.nm)) rfl rfl rfl aggDg (by rw [sizeDg, bv_dg_len]) (it_name q0.it) ?_)
    | ((with_reducible show wpList _ _ _ _ _ _); refine wpList_loadRow rfl rfl rfl q1 aggDg (by rw [sizeDg, dgC_size]) ?_))
  refine (HO.out _).mono ?_
  rintro e w3 ⟨rfl, hb3⟩
  go_wp2_with fail
  go_ret
  exact ⟨rfl, bstep hb0 hb3⟩
set_option maxRecDepth 20000 in
set_option maxHeartbeats 2000000 in
theorem searchT_any (A : Option Addr) (n c : Nat) (l : List It) (z : Nat) (w : World) (hn : n ≤ 1000000) (hr : RdT w A n l) (hs : SortedN (l.map (·.nm))) (hl : ∀ x ∈ l, x.nm < 2 ^ 128) (h2 : z < 2 ^ 128) :
    Calls Tryd.prog 67 #[.slice A n c, dgV z, .func (.func 68) #[] #[]] w fun e w' => e = .returned (.tuple #[.int .i64 (lowN z (l.map (·.nm))), .bool (knownN z (l.map (·.nm)))]) ∧ Below w.heap.size w w' := by
  have HL := Lib.hid hr.len
  have HO := Lib.hid (fun x h W => findCmp_any x z W (hl x h) h2)
  have hll : (l.map (·.nm)).length = l.length := by simp
  have hg : ∀ (m : Nat) (h : m < l.length), (l.map (·.nm))[m]'(by rw [hll]; exact h) = l[m].nm := fun m h => by simp
  have HI : Hid (∀ i, i ≤ l.length → (∀ (m : Nat) (h : m < l.length), m < i → l[m].nm < z) → (∀ (m : Nat) (h : m < l.length), i ≤ m → ¬ l[m].nm < z) → i = lowN z (l.map (·.nm))) := Lib.hid (fun i h h1 h2 => lowN_unique z (l.map (·.nm)) i (by rw [hll]; exact h) (fun m hm hi => by rw [hg m (by rwa [hll] at hm)]; exact h1 m (by rwa [hll] at hm) hi) (fun m hm hi => by rw [hg m (by rwa [hll] at hm)]; exact h2 m (by rwa [hll] at hm) hi))
  have HF : Hid (knownN z (l.map (·.nm)) = if h : lowN z (l.map (·.nm)) < l.length then decide (l[lowN z (l.map (·.nm))].nm = z) else false) := Lib.hid (by
    unfold knownN
    by_cases h : lowN z (l.map (·.nm)) < l.length
    · rw [dif_pos h, List.getElem?_eq_getElem (by rw [hll]; exact h), hg _ h]
    · rw [dif_neg h, List.getElem?_eq_none (by rw [hll]; omega)])
  have HS : Hid (∀ (i j : Nat) (hi : i < l.length) (hj : j < l.length), i < j → l[i].nm < l[j].nm) := Lib.hid (fun i j hi hj h => by
    have := List.pairwise_iff_getElem.1 hs i j (by rw [hll]; exact hi) (by rw [hll]; exact hj) h
    rwa [hg i hi, hg j hj] at this)
  clear hs hl h2 hg hll
  generalize lowN z (l.map (·.nm)) = L at *
  generalize knownN z (l.map (·.nm)) = F at *
  obtain ⟨wa, hwa, hba, qz⟩ : ∃ wa : World, wa = w.alloc (.cells (dgC z) 26) ∧ Below w.heap.size w wa ∧ Blk wa w.heap.size 26 (dgC z) := ⟨_, rfl, (Below.refl w.heap.size w).alloc (Nat.le_refl _) _, Blk.new _ _ _⟩
  have HWA := Lib.hid hwa
  clear hwa
  go_enter Tryd.func67, Tryd.ntmps67
  go_upto_region 1 with (fail)
  change Code.wp _ _ _ _ (w.alloc (.cells (dgC z) 26))
  rw [← HWA.out]
  go_wp2_with fail
  go_loopw [9, 10, 11] (fun vi vj _ wr => ∃ i j : Nat, i ≤ j ∧ j ≤ n ∧ vi = .int .i64 i ∧ vj = .int .i64 j ∧ Below wa.heap.size wa wr ∧ Hid (∀ (m : Nat) (h : m < l.length), m < i → l[m].nm < z) ∧ Hid (∀ (m : Nat) (h : m < l.length), j ≤ m → z ≤ l[m].nm)) (fun vi vj _ _ => (intOf vj - intOf vi).toNat)
  case atStart => exact ⟨0, n, Nat.zero_le _, Nat.le_refl _, rfl, rfl, Below.refl _ _, Lib.hid (fun _ _ h => by omega), Lib.hid (fun m h h' => by have := HL.out; omega)⟩
  case round =>
    obtain ⟨i, j, hij, hjn, rfl, rfl, hbw, hlo, hhi⟩ := hrel
    replace qz := qz.below hbw
    have hbx := bstep hba hbw
    have hS : Below wr.heap.size wr wr.drew := (Below.refl _ wr).drew
    by_cases hlt : i < j
    · go_upto_region 5 with (fail)
      obtain ⟨h, hh⟩ : ∃ h : Nat, ((i : Int) + j) / 2 = h := ⟨((i : Int) + j).toNat / 2, by omega⟩
      have h1 : i ≤ h := by omega
      have h2 : h < j := by omega
      rw [hh]
      clear hh
      obtain ⟨ad, rfl, hc⟩ := (hr.below hbx).elem (i := h) (by have := HL.out; omega)
      have HLT : Hid ((l[h]'(by have := HL.out; omega)).nm < z → ∀ (m : Nat) (hm : m < l.length), m < h + 1 → l[m].nm < z) := Lib.hid (fun h0 m hm hmh => by
        rcases Nat.lt_or_ge m h with hx | hx
        · exact Nat.lt_trans (HS.out m h hm (by have := HL.out; omega) hx) h0
        · obtain rfl : m = h := by omega
          exact h0)
      have HGE : Hid (z ≤ (l[h]'(by have := HL.out; omega)).nm → ∀ (m : Nat) (hm : m < l.length), h ≤ m → z ≤ l[m].nm) := Lib.hid (fun h0 m hm hmh => by
        rcases Nat.lt_or_ge h m with hx | hx
        · exact Nat.le_trans h0 (Nat.le_of_lt (HS.out h m (by have := HL.out; omega) hm hx))
        · obtain rfl : m = h := by omega
          exact h0)
      have HO1 := Lib.hid (HO.out _ (List.getElem_mem (show h < l.length by have := HL.out; omega)))
      generalize (l[h]'(by have := HL.out; omega)) = x at *
      have HX := Lib.hid (cmpN_lt (x.nm) z)
      generalize cmpN (x.nm) z = V at *
      by_cases hV : V < 0
      · have d : decide (V < 0) = true := by simpa using hV
        have HN := Lib.hid (HLT.out (HX.out.1 hV))
        clear HLT HGE HX hlo hV
        refine wp_region_TB (S := Below (wr).heap.size (wr)) 8 (by kernel_rfl) ?_
        refine WpT.take (i := 0) rfl (by kernel_rfl) (fun _ _ _ h => h) (.inl ⟨by rfl, fun w hSw => by clear hSw; go_simp; (try go_bits); (try rw [if_pos (by omega)]); (try with_reducible rfl)⟩) (hS) ?_
        try simp only [nrm]
        refine WpT.take (i := 1) rfl (by kernel_rfl) (fun _ _ _ h => h) (.inl ⟨by rfl, fun w hSw => by clear hSw; go_simp; (try go_bits); (try rw [if_pos (by omega)]); (try with_reducible rfl)⟩) (hS) ?_
        try simp only [nrm]
        refine WpT.take (i := 2) rfl (by kernel_rfl) (fun _ _ _ h => h) (.inl ⟨by rfl, fun w hSw => by clear hSw; go_simp; (try go_bits); (try rw [if_pos (by omega)]); (try with_reducible rfl)⟩) (hS) ?_
        try simp only [nrm]
        refine WpT.take (i := 3) rfl (by kernel_rfl) (fun _ _ _ h => h) (.inl ⟨by rfl, fun w hSw => by clear hSw; go_simp; (try go_bits); (try rw [if_pos (by omega)]); (try with_reducible rfl)⟩) (hS) ?_
        try simp only [nrm]
        refine WpT.take (i := 4) rfl (by kernel_rfl) (fun _ _ _ h => h) (yields_loadK (us := itL x) rfl rfl rfl aggIt (by rw [sizeIt, itL_len]) hc) (hS) ?_
        try simp only [nrm]
        refine WpT.take (i := 5) rfl (by kernel_rfl) (fun _ _ _ h => h) (yields_blk rfl rfl rfl aggDg (by rw [sizeDg, dgC_size]) qz) (hS) ?_
        try simp only [nrm]
        refine WpT.one (i := 6) rfl (by kernel_rfl) (fun K hK => ?_)
        go_simp; refine (HO1.out _).mono ?_; rintro e w1 ⟨rfl, hb1⟩; replace hS := bstep hS hb1
        refine hK _ _ (hS) ?_; clear hK K; try simp only [nrm]
        refine WpT.take (i := 7) rfl (by kernel_rfl) (fun _ _ _ h => h) (.inl ⟨by rfl, fun w hSw => by clear hSw; go_simp; (try go_bits); (try rw [if_pos (by omega)]); (try with_reducible rfl)⟩) (hS) ?_
        try simp only [nrm]
        refine WpT.done (by kernel_rfl) ?_ _
        have hbn := bstep hbw hS
        go_wp2_with fail
        exact ⟨⟨h + 1, j, by omega, by omega, by go_num, rfl, hbn, HN, hhi⟩, by simp [intOf]; omega⟩
      · have d : decide (V < 0) = false := by simpa using hV
        have HN := Lib.hid (HGE.out (Nat.le_of_not_lt fun h => hV (HX.out.2 h)))
        clear HLT HGE HX hhi hV
        refine wp_region_TB (S := Below (wr).heap.size (wr)) 8 (by kernel_rfl) ?_
        refine WpT.take (i := 0) rfl (by kernel_rfl) (fun _ _ _ h => h) (.inl ⟨by rfl, fun w hSw => by clear hSw; go_simp; (try go_bits); (try rw [if_pos (by omega)]); (try with_reducible rfl)⟩) (hS) ?_
        try simp only [nrm]
        refine WpT.take (i := 1) rfl (by kernel_rfl) (fun _ _ _ h => h) (.inl ⟨by rfl, fun w hSw => by clear hSw; go_simp; (try go_bits); (try rw [if_pos (by omega)]); (try with_reducible rfl)⟩) (hS) ?_
        try simp only [nrm]
        refine WpT.take (i := 2) rfl (by kernel_rfl) (fun _ _ _ h => h) (.inl ⟨by rfl, fun w hSw => by clear hSw; go_simp; (try go_bits); (try rw [if_pos (by omega)]); (try with_reducible rfl)⟩) (hS) ?_
        try simp only [nrm]
        refine WpT.take (i := 3) rfl (by kernel_rfl) (fun _ _ _ h => h) (.inl ⟨by rfl, fun w hSw => by clear hSw; go_simp; (try go_bits); (try rw [if_pos (by omega)]); (try with_reducible rfl)⟩) (hS) ?_
        try simp only [nrm]
        refine WpT.take (i := 4) rfl (by kernel_rfl) (fun _ _ _ h => h) (yields_loadK (us := itL x) rfl rfl rfl aggIt (by rw [sizeIt, itL_len]) hc) (hS) ?_
        try simp only [nrm]
        refine WpT.take (i := 5) rfl (by kernel_rfl) (fun _ _ _ h => h) (yields_blk rfl rfl rfl aggDg (by rw [sizeDg, dgC_size]) qz) (hS) ?_
        try simp only [nrm]
        refine WpT.one (i := 6) rfl (by kernel_rfl) (fun K hK => ?_)
        go_simp; refine (HO1.out _).mono ?_; rintro e w1 ⟨rfl, hb1⟩; replace hS := bstep hS hb1
        refine hK _ _ (hS) ?_; clear hK K; try simp only [nrm]
        refine WpT.take (i := 7) rfl (by kernel_rfl) (fun _ _ _ h => h) (.inl ⟨by rfl, fun w hSw => by clear hSw; go_simp; (try go_bits); (try rw [if_pos (by omega)]); (try with_reducible rfl)⟩) (hS) ?_
        try simp only [nrm]
        refine WpT.done (by kernel_rfl) ?_ _
        have hbn := bstep hbw hS
        go_wp2_with fail
        exact ⟨⟨i, h, by omega, by omega, rfl, rfl, hbn, hlo, HN⟩, by simp [intOf]; omega⟩
    · obtain rfl : i = j := by omega
      obtain rfl := HI.out i (by have := HL.out; omega) hlo.out (fun m h hm => by have := hhi.out m h hm; omega)
      clear hlo hhi HS HI
      by_cases hin : i < n
      · obtain ⟨ad, rfl, hc⟩ := (hr.below hbx).elem (i := i) (by have := HL.out; omega)
        have HF2 : Hid (F = decide ((l[i]'(by have := HL.out; omega)).nm = z)) := Lib.hid (by rw [HF.out, dif_pos (by have := HL.out; omega)])
        clear HF
        have HO1 := Lib.hid (HO.out _ (List.getElem_mem (show i < l.length by have := HL.out; omega)))
        generalize (l[i]'(by have := HL.out; omega)) = x at *
        have hE : (cmpN (x.nm) z == 0) = F := by rw [HF2.out, Bool.eq_iff_iff, beq_iff_eq, decide_eq_true_eq]; exact cmpN_eq _ _
        generalize cmpN (x.nm) z = V at *
        clear HF2
        go_upto_region 8 with fail
        refine wp_region_TB (S := Below (wr).heap.size (wr)) 15 (by kernel_rfl) ?_
        refine WpT.take (i := 0) rfl (by kernel_rfl) (fun _ _ _ h => h) (.inl ⟨by rfl, fun w hSw => by clear hSw; go_simp; (try go_bits); (try rw [if_pos (by omega)]); (try with_reducible rfl)⟩) (hS) ?_
        try simp only [nrm]
        refine WpT.take (i := 1) rfl (by kernel_rfl) (fun _ _ _ h => h) (.inl ⟨by rfl, fun w hSw => by clear hSw; go_simp; (try go_bits); (try rw [if_pos (by omega)]); (try with_reducible rfl)⟩) (hS) ?_
        try simp only [nrm]
        refine WpT.take (i := 2) rfl (by kernel_rfl) (fun _ _ _ h => h) (.inl ⟨by rfl, fun w hSw => by clear hSw; go_simp; (try go_bits); (try rw [if_pos (by omega)]); (try with_reducible rfl)⟩) (hS) ?_
        try simp only [nrm]
        refine WpT.take (i := 3) rfl (by kernel_rfl) (fun _ _ _ h => h) (.inl ⟨by rfl, fun w hSw => by clear hSw; go_simp; (try go_bits); (try rw [if_pos (by omega)]); (try with_reducible rfl)⟩) (hS) ?_
        try simp only [nrm]
        refine WpT.take (i := 4) rfl (by kernel_rfl) (fun _ _ _ h => h) (.inl ⟨by rfl, fun w hSw => by clear hSw; go_simp; (try go_bits); (try rw [if_pos (by omega)]); (try with_reducible rfl)⟩) (hS) ?_
        try simp only [nrm]
        refine WpT.take (i := 5) rfl (by kernel_rfl) (fun _ _ _ h => h) (.inl ⟨by rfl, fun w hSw => by clear hSw; go_simp; (try go_bits); (try rw [if_pos (by omega)]); (try with_reducible rfl)⟩) (hS) ?_
        try simp only [nrm]
        refine WpT.take (i := 6) rfl (by kernel_rfl) (fun _ _ _ h => h) (.inl ⟨by rfl, fun w hSw => by clear hSw; go_simp; (try go_bits); (try rw [if_pos (by omega)]); (try with_reducible rfl)⟩) (hS) ?_
        try simp only [nrm]
        refine WpT.take (i := 7) rfl (by kernel_rfl) (fun _ _ _ h => h) (.inl ⟨by rfl, fun w hSw => by clear hSw; go_simp; (try go_bits); (try rw [if_pos (by omega)]); (try with_reducible rfl)⟩) (hS) ?_
        try simp only [nrm]
        refine WpT.take (i := 8) rfl (by kernel_rfl) (fun _ _ _ h => h) (.inl ⟨by rfl, fun w hSw => by clear hSw; go_simp; (try go_bits); (try rw [if_pos (by omega)]); (try with_reducible rfl)⟩) (hS) ?_
        try simp only [nrm]
        refine WpT.take (i := 9) rfl (by kernel_rfl) (fun _ _ _ h => h) (yields_loadKW (us := itL x) (by rfl) rfl rfl aggIt (by rw [sizeIt, itL_len]) hc) (hS) ?_
        try simp only [nrm]
        refine WpT.take (i := 10) rfl (by kernel_rfl) (fun _ _ _ h => h) (yields_blkW (by rfl) rfl rfl aggDg (by rw [sizeDg, dgC_size]) qz) (hS) ?_
        try simp only [nrm]
        refine WpT.one (i := 11) rfl (by kernel_rfl) (fun K hK => ?_)
        go_simp; refine (HO1.out _).mono ?_; rintro e w1 ⟨rfl, hb1⟩; replace hS := bstep hS hb1
        refine hK _ _ (hS) ?_; clear hK K; try simp only [nrm]
        refine WpT.take (i := 12) rfl (by kernel_rfl) (fun _ _ _ h => h) (.inl ⟨by rfl, fun w hSw => by clear hSw; go_simp; (try go_bits); (try rw [if_pos (by omega)]); (try with_reducible rfl)⟩) (hS) ?_
        try simp only [nrm]
        refine WpT.take (i := 13) rfl (by kernel_rfl) (fun _ _ _ h => h) (.inl ⟨by rfl, fun w hSw => by clear hSw; go_simp; (try go_bits); (try rw [if_pos (by omega)]); (try with_reducible rfl)⟩) (hS) ?_
        try simp only [nrm]
        refine WpT.one (i := 14) rfl (by kernel_rfl) (fun K hK => ?_)
        go_simp; (try go_bits)
        refine hK _ _ (hS) ?_; clear hK K; try simp only [nrm]
        refine WpT.tail (i := 15) rfl (by kernel_rfl) (by kernel_rfl) (fun K hK => ?_)
        go_simp; (try go_bits)
        refine hK _ _ ?_; clear hK K; try simp only [nrm]
        refine WpT.done (by kernel_rfl) ?_ _
        go_wp2_with fail
        go_ret2
        exact ⟨rfl, bstep hbx hS⟩
      · obtain rfl : i = n := by omega
        obtain rfl : F = false := by rw [HF.out, dif_neg (by have := HL.out; omega)]
        clear HF
        go_upto_region 8 with fail
        refine wp_region_TB (S := Below (wr).heap.size (wr)) 15 (by kernel_rfl) ?_
        refine WpT.take (i := 0) rfl (by kernel_rfl) (fun _ _ _ h => h) (.inl ⟨by rfl, fun w hSw => by clear hSw; go_simp; (try go_bits); (try rw [if_pos (by omega)]); (try with_reducible rfl)⟩) (hS) ?_
        try simp only [nrm]
        refine WpT.take (i := 1) rfl (by kernel_rfl) (fun _ _ _ h => h) (.inl ⟨by rfl, fun w hSw => by clear hSw; go_simp; (try go_bits); (try rw [if_pos (by omega)]); (try with_reducible rfl)⟩) (hS) ?_
        try simp only [nrm]
        refine WpT.take (i := 2) rfl (by kernel_rfl) (fun _ _ _ h => h) (.inl ⟨by rfl, fun w hSw => by clear hSw; go_simp; (try go_bits); (try rw [if_pos (by omega)]); (try with_reducible rfl)⟩) (hS) ?_
        try simp only [nrm]
        refine WpT.take (i := 3) rfl (by kernel_rfl) (fun _ _ _ h => h) (.inl ⟨by rfl, fun w hSw => by clear hSw; go_simp; (try go_bits); (try rw [if_pos (by omega)]); (try with_reducible rfl)⟩) (hS) ?_
        try simp only [nrm]
        refine WpT.take (i := 4) rfl (by kernel_rfl) (fun _ _ _ h => h) (.inl ⟨by rfl, fun w hSw => by clear hSw; go_simp; (try go_bits); (try rw [if_pos (by omega)]); (try with_reducible rfl)⟩) (hS) ?_
        try simp only [nrm]
        refine WpT.take (i := 5) rfl (by kernel_rfl) (fun _ _ _ h => h) (.inr ⟨by rfl, rfl⟩) (hS) ?_
        try simp only [nrm]
        refine WpT.take (i := 6) rfl (by kernel_rfl) (fun _ _ _ h => h) (.inr ⟨by rfl, rfl⟩) (hS) ?_
        try simp only [nrm]
        refine WpT.take (i := 7) rfl (by kernel_rfl) (fun _ _ _ h => h) (.inr ⟨by rfl, rfl⟩) (hS) ?_
        try simp only [nrm]
        refine WpT.take (i := 8) rfl (by kernel_rfl) (fun _ _ _ h => h) (.inr ⟨by rfl, rfl⟩) (hS) ?_
        try simp only [nrm]
        refine WpT.take (i := 9) rfl (by kernel_rfl) (fun _ _ _ h => h) (.inr ⟨by rfl, rfl⟩) (hS) ?_
        try simp only [nrm]
        refine WpT.take (i := 10) rfl (by kernel_rfl) (fun _ _ _ h => h) (.inr ⟨by rfl, rfl⟩) (hS) ?_
        try simp only [nrm]
        refine WpT.take (i := 11) rfl (by kernel_rfl) (fun _ _ _ h => h) (.inr ⟨by rfl, rfl⟩) (hS) ?_
        try simp only [nrm]
        refine WpT.take (i := 12) rfl (by kernel_rfl) (fun _ _ _ h => h) (.inr ⟨by rfl, rfl⟩) (hS) ?_
        try simp only [nrm]
        refine WpT.take (i := 13) rfl (by kernel_rfl) (fun _ _ _ h => h) (.inl ⟨by rfl, fun w hSw => by clear hSw; go_simp; (try go_bits); (try rw [if_pos (by omega)]); (try with_reducible rfl)⟩) (hS) ?_
        try simp only [nrm]
        refine WpT.one (i := 14) rfl (by kernel_rfl) (fun K hK => ?_)
        go_simp; (try go_bits)
        refine hK _ _ (hS) ?_; clear hK K; try simp only [nrm]
        refine WpT.tail (i := 15) rfl (by kernel_rfl) (by kernel_rfl) (fun K hK => ?_)
        go_simp; (try go_bits)
        refine hK _ _ ?_; clear hK K; try simp only [nrm]
        refine WpT.done (by kernel_rfl) ?_ _
        go_wp2_with fail
        go_ret2
        exact ⟨rfl, bstep hbx hS⟩
set_option maxRecDepth 20000 in
set_option maxHeartbeats 2000000 in
theorem searchD_any (A : Option Addr) (n c : Nat) (l : List Nat) (z : Nat) (w : World) (hn : n ≤ 1000000) (hr : RdD w A n l) (hs : SortedN (l.map id)) (hl : ∀ x ∈ l, x < 2 ^ 128) (h2 : z < 2 ^ 128) :
    Calls Tryd.prog 75 #[.slice A n c, dgV z, .func (.func 41) #[] #[]] w fun e w' => e = .returned (.tuple #[.int .i64 (lowN z (l.map id)), .bool (knownN z (l.map id))]) ∧ Below w.heap.size w w' := by
  have HL := Lib.hid hr.len
  have HO := Lib.hid (fun x h W => order_any x z W (hl x h) h2)
  have hll : (l.map id).length = l.length := by simp
  have hg : ∀ (m : Nat) (h : m < l.length), (l.map id)[m]'(by rw [hll]; exact h) = l[m] := fun m h => by simp
  have HI : Hid (∀ i, i ≤ l.length → (∀ (m : Nat) (h : m < l.length), m < i → l[m] < z) → (∀ (m : Nat) (h : m < l.length), i ≤ m → ¬ l[m] < z) → i = lowN z (l.map id)) := Lib.hid (fun i h h1 h2 => lowN_unique z (l.map id) i (by rw [hll]; exact h) (fun m hm hi => by rw [hg m (by rwa [hll] at hm)]; exact h1 m (by rwa [hll] at hm) hi) (fun m hm hi => by rw [hg m (by rwa [hll] at hm)]; exact h2 m (by rwa [hll] at hm) hi))
  have HF : Hid (knownN z (l.map id) = if h : lowN z (l.map id) < l.length then decide (l[lowN z (l.map id)] = z) else false) := Lib.hid (by
    unfold knownN
    by_cases h : lowN z (l.map id) < l.length
    · rw [dif_pos h, List.getElem?_eq_getElem (by rw [hll]; exact h), hg _ h]
    · rw [dif_neg h, List.getElem?_eq_none (by rw [hll]; omega)])
  have HS : Hid (∀ (i j : Nat) (hi : i < l.length) (hj : j < l.length), i < j → l[i] < l[j]) := Lib.hid (fun i j hi hj h => by
    have := List.pairwise_iff_getElem.1 hs i j (by rw [hll]; exact hi) (by rw [hll]; exact hj) h
    rwa [hg i hi, hg j hj] at this)
  clear hs hl h2 hg hll
  generalize lowN z (l.map id) = L at *
  generalize knownN z (l.map id) = F at *
  obtain ⟨wa, hwa, hba, qz⟩ : ∃ wa : World, wa = w.alloc (.cells (dgC z) 26) ∧ Below w.heap.size w wa ∧ Blk wa w.heap.size 26 (dgC z) := ⟨_, rfl, (Below.refl w.heap.size w).alloc (Nat.le_refl _) _, Blk.new _ _ _⟩
  have HWA := Lib.hid hwa
  clear hwa
  go_enter Tryd.func75, Tryd.ntmps75
  go_upto_region 1 with (fail)
  change Code.wp _ _ _ _ (w.alloc (.cells (dgC z) 26))
  rw [← HWA.out]
  go_wp2_with fail
  go_loopw [9, 10, 11] (fun vi vj _ wr => ∃ i j : Nat, i ≤ j ∧ j ≤ n ∧ vi = .int .i64 i ∧ vj = .int .i64 j ∧ Below wa.heap.size wa wr ∧ Hid (∀ (m : Nat) (h : m < l.length), m < i → l[m] < z) ∧ Hid (∀ (m : Nat) (h : m < l.length), j ≤ m → z ≤ l[m])) (fun vi vj _ _ => (intOf vj - intOf vi).toNat)
  case atStart => exact ⟨0, n, Nat.zero_le _, Nat.le_refl _, rfl, rfl, Below.refl _ _, Lib.hid (fun _ _ h => by omega), Lib.hid (fun m h h' => by have := HL.out; omega)⟩
  case round =>
    obtain ⟨i, j, hij, hjn, rfl, rfl, hbw, hlo, hhi⟩ := hrel
    replace qz := qz.below hbw
    have hbx := bstep hba hbw
    have hS : Below wr.heap.size wr wr.drew := (Below.refl _ wr).drew
    by_cases hlt : i < j
    · go_upto_region 5 with (fail)
      obtain ⟨h, hh⟩ : ∃ h : Nat, ((i : Int) + j) / 2 = h := ⟨((i : Int) + j).toNat / 2, by omega⟩
      have h1 : i ≤ h := by omega
      have h2 : h < j := by omega
      rw [hh]
      clear hh
      obtain ⟨ad, rfl, hc⟩ := (hr.below hbx).elem (i := h) (by have := HL.out; omega)
      have HLT : Hid ((l[h]'(by have := HL.out; omega)) < z → ∀ (m : Nat) (hm : m < l.length), m < h + 1 → l[m] < z) := Lib.hid (fun h0 m hm hmh => by
        rcases Nat.lt_or_ge m h with hx | hx
        · exact Nat.lt_trans (HS.out m h hm (by have := HL.out; omega) hx) h0
        · obtain rfl : m = h := by omega
          exact h0)
      have HGE : Hid (z ≤ (l[h]'(by have := HL.out; omega)) → ∀ (m : Nat) (hm : m < l.length), h ≤ m → z ≤ l[m]) := Lib.hid (fun h0 m hm hmh => by
        rcases Nat.lt_or_ge h m with hx | hx
        · exact Nat.le_trans h0 (Nat.le_of_lt (HS.out h m (by have := HL.out; omega) hm hx))
        · obtain rfl : m = h := by omega
          exact h0)
      have HO1 := Lib.hid (HO.out _ (List.getElem_mem (show h < l.length by have := HL.out; omega)))
      generalize (l[h]'(by have := HL.out; omega)) = x at *
      have HX := Lib.hid (cmpN_lt (x) z)
      generalize cmpN (x) z = V at *
      by_cases hV : V < 0
      · have d : decide (V < 0) = true := by simpa using hV
        have HN := Lib.hid (HLT.out (HX.out.1 hV))
        clear HLT HGE HX hlo hV
        refine wp_region_TB (S := Below (wr).heap.size (wr)) 8 (by kernel_rfl) ?_
        refine WpT.take (i := 0) rfl (by kernel_rfl) (fun _ _ _ h => h) (.inl ⟨by rfl, fun w hSw => by clear hSw; go_simp; (try go_bits); (try rw [if_pos (by omega)]); (try with_reducible rfl)⟩) (hS) ?_
        try simp only [nrm]
        refine WpT.take (i := 1) rfl (by kernel_rfl) (fun _ _ _ h => h) (.inl ⟨by rfl, fun w hSw => by clear hSw; go_simp; (try go_bits); (try rw [if_pos (by omega)]); (try with_reducible rfl)⟩) (hS) ?_
        try simp only [nrm]
        refine WpT.take (i := 2) rfl (by kernel_rfl) (fun _ _ _ h => h) (.inl ⟨by rfl, fun w hSw => by clear hSw; go_simp; (try go_bits); (try rw [if_pos (by omega)]); (try with_reducible rfl)⟩) (hS) ?_
        try simp only [nrm]
        refine WpT.take (i := 3) rfl (by kernel_rfl) (fun _ _ _ h => h) (.inl ⟨by rfl, fun w hSw => by clear hSw; go_simp; (try go_bits); (try rw [if_pos (by omega)]); (try with_reducible rfl)⟩) (hS) ?_
        try simp only [nrm]
        refine WpT.take (i := 4) rfl (by kernel_rfl) (fun _ _ _ h => h) (yields_loadK (us := bv (dg x)) rfl rfl rfl aggDg (by rw [sizeDg, bv_dg_len]) hc) (hS) ?_
        try simp only [nrm]
        refine WpT.take (i := 5) rfl (by kernel_rfl) (fun _ _ _ h => h) (yields_blk rfl rfl rfl aggDg (by rw [sizeDg, dgC_size]) qz) (hS) ?_
        try simp only [nrm]
        refine WpT.one (i := 6) rfl (by kernel_rfl) (fun K hK => ?_)
        go_simp; refine (HO1.out _).mono ?_; rintro e w1 ⟨rfl, hb1⟩; replace hS := bstep hS hb1
        refine hK _ _ (hS) ?_; clear hK K; try simp only [nrm]
        refine WpT.take (i := 7) rfl (by kernel_rfl) (fun _ _ _ h => h) (.inl ⟨by rfl, fun w hSw => by clear hSw; go_simp; (try go_bits); (try rw [if_pos (by omega)]); (try with_reducible rfl)⟩) (hS) ?_
        try simp only [nrm]
        refine WpT.done (by kernel_rfl) ?_ _
        have hbn := bstep hbw hS
        go_wp2_with fail
        exact ⟨⟨h + 1, j, by omega, by omega, by go_num, rfl, hbn, HN, hhi⟩, by simp [intOf]; omega⟩
      · have d : decide (V < 0) = false := by simpa using hV
        have HN := Lib.hid (HGE.out (Nat.le_of_not_lt fun h => hV (HX.out.2 h)))
        clear HLT HGE HX hhi hV
        refine wp_region_TB (S := Below (wr).heap.size (wr)) 8 (by kernel_rfl) ?_
        refine WpT.take (i := 0) rfl (by kernel_rfl) (fun _ _ _ h => h) (.inl ⟨by rfl, fun w hSw => by clear hSw; go_simp; (try go_bits); (try rw [if_pos (by omega)]); (try with_reducible rfl)⟩) (hS) ?_
        try simp only [nrm]
        refine WpT.take (i := 1) rfl (by kernel_rfl) (fun _ _ _ h => h) (.inl ⟨by rfl, fun w hSw => by clear hSw; go_simp; (try go_bits); (try rw [if_pos (by omega)]); (try with_reducible rfl)⟩) (hS) ?_
        try simp only [nrm]
        refine WpT.take (i := 2) rfl (by kernel_rfl) (fun _ _ _ h => h) (.inl ⟨by rfl, fun w hSw => by clear hSw; go_simp; (try go_bits); (try rw [if_pos (by omega)]); (try with_reducible rfl)⟩) (hS) ?_
        try simp only [nrm]
        refine WpT.take (i := 3) rfl (by kernel_rfl) (fun _ _ _ h => h) (.inl ⟨by rfl, fun w hSw => by clear hSw; go_simp; (try go_bits); (try rw [if_pos (by omega)]); (try with_reducible rfl)⟩) (hS) ?_
        try simp only [nrm]
        refine WpT.take (i := 4) rfl (by kernel_rfl) (fun _ _ _ h => h) (yields_loadK (us := bv (dg x)) rfl rfl rfl aggDg (by rw [sizeDg, bv_dg_len]) hc) (hS) ?_
        try simp only [nrm]
        refine WpT.take (i := 5) rfl (by kernel_rfl) (fun _ _ _ h => h) (yields_blk rfl rfl rfl aggDg (by rw [sizeDg, dgC_size]) qz) (hS) ?_
        try simp only [nrm]
        refine WpT.one (i := 6) rfl (by kernel_rfl) (fun K hK => ?_)
        go_simp; refine (HO1.out _).mono ?_; rintro e w1 ⟨rfl, hb1⟩; replace hS := bstep hS hb1
        refine hK _ _ (hS) ?_; clear hK K; try simp only [nrm]
        refine WpT.take (i := 7) rfl (by kernel_rfl) (fun _ _ _ h => h) (.inl ⟨by rfl, fun w hSw => by clear hSw; go_simp; (try go_bits); (try rw [if_pos (by omega)]); (try with_reducible rfl)⟩) (hS) ?_
        try simp only [nrm]
        refine WpT.done (by kernel_rfl) ?_ _
        have hbn := bstep hbw hS
        go_wp2_with fail
        exact ⟨⟨i, h, by omega, by omega, rfl, rfl, hbn, hlo, HN⟩, by simp [intOf]; omega⟩
    · obtain rfl : i = j := by omega
      obtain rfl := HI.out i (by have := HL.out; omega) hlo.out (fun m h hm => by have := hhi.out m h hm; omega)
      clear hlo hhi HS HI
      by_cases hin : i < n
      · obtain ⟨ad, rfl, hc⟩ := (hr.below hbx).elem (i := i) (by have := HL.out; omega)
        have HF2 : Hid (F = decide ((l[i]'(by have := HL.out; omega)) = z)) := Lib.hid (by rw [HF.out, dif_pos (by have := HL.out; omega)])
        clear HF
        have HO1 := Lib.hid (HO.out _ (List.getElem_mem (show i < l.length by have := HL.out; omega)))
        generalize (l[i]'(by have := HL.out; omega)) = x at *
        have hE : (cmpN (x) z == 0) = F := by rw [HF2.out, Bool.eq_iff_iff, beq_iff_eq, decide_eq_true_eq]; exact cmpN_eq _ _
        generalize cmpN (x) z = V at *
        clear HF2
        go_upto_region 8 with fail
        refine wp_region_TB (S := Below (wr).heap.size (wr)) 15 (by kernel_rfl) ?_
        refine WpT.take (i := 0) rfl (by kernel_rfl) (fun _ _ _ h => h) (.inl ⟨by rfl, fun w hSw => by clear hSw; go_simp; (try go_bits); (try rw [if_pos (by omega)]); (try with_reducible rfl)⟩) (hS) ?_
        try simp only [nrm]
        refine WpT.take (i := 1) rfl (by kernel_rfl) (fun _ _ _ h => h) (.inl ⟨by rfl, fun w hSw => by clear hSw; go_simp; (try go_bits); (try rw [if_pos (by omega)]); (try with_reducible rfl)⟩) (hS) ?_
        try simp only [nrm]
        refine WpT.take (i := 2) rfl (by kernel_rfl) (fun _ _ _ h => h) (.inl ⟨by rfl, fun w hSw => by clear hSw; go_simp; (try go_bits); (try rw [if_pos (by omega)]); (try with_reducible rfl)⟩) (hS) ?_
        try simp only [nrm]
        refine WpT.take (i := 3) rfl (by kernel_rfl) (fun _ _ _ h => h) (.inl ⟨by rfl, fun w hSw => by clear hSw; go_simp; (try go_bits); (try rw [if_pos (by omega)]); (try with_reducible rfl)⟩) (hS) ?_
        try simp only [nrm]
        refine WpT.take (i := 4) rfl (by kernel_rfl) (fun _ _ _ h => h) (.inl ⟨by rfl, fun w hSw => by clear hSw; go_simp; (try go_bits); (try rw [if_pos (by omega)]); (try with_reducible rfl)⟩) (hS) ?_
        try simp only [nrm]
        refine WpT.take (i := 5) rfl (by kernel_rfl) (fun _ _ _ h => h) (.inl ⟨by rfl, fun w hSw => by clear hSw; go_simp; (try go_bits); (try rw [if_pos (by omega)]); (try with_reducible rfl)⟩) (hS) ?_
        try simp only [nrm]
        refine WpT.take (i := 6) rfl (by kernel_rfl) (fun _ _ _ h => h) (.inl ⟨by rfl, fun w hSw => by clear hSw; go_simp; (try go_bits); (try rw [if_pos (by omega)]); (try with_reducible rfl)⟩) (hS) ?_
        try simp only [nrm]
        refine WpT.take (i := 7) rfl (by kernel_rfl) (fun _ _ _ h => h) (.inl ⟨by rfl, fun w hSw => by clear hSw; go_simp; (try go_bits); (try rw [if_pos (by omega)]); (try with_reducible rfl)⟩) (hS) ?_
        try simp only [nrm]
        refine WpT.take (i := 8) rfl (by kernel_rfl) (fun _ _ _ h => h) (.inl ⟨by rfl, fun w hSw => by clear hSw; go_simp; (try go_bits); (try rw [if_pos (by omega)]); (try with_reducible rfl)⟩) (hS) ?_
        try simp only [nrm]
        refine WpT.take (i := 9) rfl (by kernel_rfl) (fun _ _ _ h => h) (yields_loadKW (us := bv (dg x)) (by rfl) rfl rfl aggDg (by rw [sizeDg, bv_dg_len]) hc) (hS) ?_
        try simp only [nrm]
        refine WpT.take (i := 10) rfl (by kernel_rfl) (fun _ _ _ h => h) (yields_blkW (by rfl) rfl rfl aggDg (by rw [sizeDg, dgC_size]) qz) (hS) ?_
        try simp only [nrm]
        refine WpT.one (i := 11) rfl (by kernel_rfl) (fun K hK => ?_)
        go_simp; refine (HO1.out _).mono ?_; rintro e w1 ⟨rfl, hb1⟩; replace hS := bstep hS hb1
        refine hK _ _ (hS) ?_; clear hK K; try simp only [nrm]
        refine WpT.take (i := 12) rfl (by kernel_rfl) (fun _ _ _ h => h) (.inl ⟨by rfl, fun w hSw => by clear hSw; go_simp; (try go_bits); (try rw [if_pos (by omega)]); (try with_reducible rfl)⟩) (hS) ?_
        try simp only [nrm]
        refine WpT.take (i := 13) rfl (by kernel_rfl) (fun _ _ _ h => h) (.inl ⟨by rfl, fun w hSw => by clear hSw; go_simp; (try go_bits); (try rw [if_pos (by omega)]); (try with_reducible rfl)⟩) (hS) ?_
        try simp only [nrm]
        refine WpT.one (i := 14) rfl (by kernel_rfl) (fun K hK => ?_)
        go_simp; (try go_bits)
        refine hK _ _ (hS) ?_; clear hK K; try simp only [nrm]
        refine WpT.tail (i := 15) rfl (by kernel_rfl) (by kernel_rfl) (fun K hK => ?_)
        go_simp; (try go_bits)
        refine hK _ _ ?_; clear hK K; try simp only [nrm]
        refine WpT.done (by kernel_rfl) ?_ _
        go_wp2_with fail
        go_ret2
        exact ⟨rfl, bstep hbx hS⟩
      · obtain rfl : i = n := by omega
        obtain rfl : F = false := by rw [HF.out, dif_neg (by have := HL.out; omega)]
        clear HF
        go_upto_region 8 with fail
        refine wp_region_TB (S := Below (wr).heap.size (wr)) 15 (by kernel_rfl) ?_
        refine WpT.take (i := 0) rfl (by kernel_rfl) (fun _ _ _ h => h) (.inl ⟨by rfl, fun w hSw => by clear hSw; go_simp; (try go_bits); (try rw [if_pos (by omega)]); (try with_reducible rfl)⟩) (hS) ?_
        try simp only [nrm]
        refine WpT.take (i := 1) rfl (by kernel_rfl) (fun _ _ _ h => h) (.inl ⟨by rfl, fun w hSw => by clear hSw; go_simp; (try go_bits); (try rw [if_pos (by omega)]); (try with_reducible rfl)⟩) (hS) ?_
        try simp only [nrm]
        refine WpT.take (i := 2) rfl (by kernel_rfl) (fun _ _ _ h => h) (.inl ⟨by rfl, fun w hSw => by clear hSw; go_simp; (try go_bits); (try rw [if_pos (by omega)]); (try with_reducible rfl)⟩) (hS) ?_
        try simp only [nrm]
        refine WpT.take (i := 3) rfl (by kernel_rfl) (fun _ _ _ h => h) (.inl ⟨by rfl, fun w hSw => by clear hSw; go_simp; (try go_bits); (try rw [if_pos (by omega)]); (try with_reducible rfl)⟩) (hS) ?_
        try simp only [nrm]
        refine WpT.take (i := 4) rfl (by kernel_rfl) (fun _ _ _ h => h) (.inl ⟨by rfl, fun w hSw => by clear hSw; go_simp; (try go_bits); (try rw [if_pos (by omega)]); (try with_reducible rfl)⟩) (hS) ?_
        try simp only [nrm]
        refine WpT.take (i := 5) rfl (by kernel_rfl) (fun _ _ _ h => h) (.inr ⟨by rfl, rfl⟩) (hS) ?_
        try simp only [nrm]
        refine WpT.take (i := 6) rfl (by kernel_rfl) (fun _ _ _ h => h) (.inr ⟨by rfl, rfl⟩) (hS) ?_
        try simp only [nrm]
        refine WpT.take (i := 7) rfl (by kernel_rfl) (fun _ _ _ h => h) (.inr ⟨by rfl, rfl⟩) (hS) ?_
        try simp only [nrm]
        refine WpT.take (i := 8) rfl (by kernel_rfl) (fun _ _ _ h => h) (.inr ⟨by rfl, rfl⟩) (hS) ?_
        try simp only [nrm]
        refine WpT.take (i := 9) rfl (by kernel_rfl) (fun _ _ _ h => h) (.inr ⟨by rfl, rfl⟩) (hS) ?_
        try simp only [nrm]
        refine WpT.take (i := 10) rfl (by kernel_rfl) (fun _ _ _ h => h) (.inr ⟨by rfl, rfl⟩) (hS) ?_
        try simp only [nrm]
        refine WpT.take (i := 11) rfl (by kernel_rfl) (fun _ _ _ h => h) (.inr ⟨by rfl, rfl⟩) (hS) ?_
        try simp only [nrm]
        refine WpT.take (i := 12) rfl (by kernel_rfl) (fun _ _ _ h => h) (.inr ⟨by rfl, rfl⟩) (hS) ?_
        try simp only [nrm]
        refine WpT.take (i := 13) rfl (by kernel_rfl) (fun _ _ _ h => h) (.inl ⟨by rfl, fun w hSw => by clear hSw; go_simp; (try go_bits); (try rw [if_pos (by omega)]); (try with_reducible rfl)⟩) (hS) ?_
        try simp only [nrm]
        refine WpT.one (i := 14) rfl (by kernel_rfl) (fun K hK => ?_)
        go_simp; (try go_bits)
        refine hK _ _ (hS) ?_; clear hK K; try simp only [nrm]
        refine WpT.tail (i := 15) rfl (by kernel_rfl) (by kernel_rfl) (fun K hK => ?_)
        go_simp; (try go_bits)
        refine hK _ _ ?_; clear hK K; try simp only [nrm]
        refine WpT.done (by kernel_rfl) ?_ _
        go_wp2_with fail
        go_ret2
        exact ⟨rfl, bstep hbx hS⟩
end Go.Proofs.YtieamjjnofelcaaDoor
namespace Go.Proofs.YtieamjjnofelcaaDoor
set_option linter.unusedSimpArgs false
set_option linter.unusedVariables false
open Go.RowKit Exch
theorem elemIt : ElemK Tryd.prog 22 50 17 := by
  obtain ⟨i, h1, h2, h3, h4⟩ := info_parts (show (Tryd.prog.info? 50).map (fun i => (i.zero, i.size, i.bytes)) = some (some (itV ⟨0, ⟨#[]⟩⟩), 17, 32) by kernel_rfl)
  exact ⟨by kernel_rfl, ⟨i, _, h1, h2, h3, by omega, rfl⟩, by omega⟩
def OwnTs (w : World) (B : Nat) (v : Value) (l : List It) : Prop := w.ownsRow B 50 17 v l.length (itsL l)
theorem OwnTs.nil (w : World) (B : Nat) : OwnTs w B (.slice none 0 0) [] := World.ownsRow_nil w B _ 17
theorem own_blk {w : World} {B : Nat} {e : TypeId} {k : Nat} {v : Value} {n : Nat} {xs : List Value} (h : w.ownsRow B e k v n xs) (hn : 0 < n) :
    ∃ g cap cur, v = .slice (some ⟨g, 0, none⟩) n cap ∧ B ≤ g ∧ Blk w g e cur ∧ n ≤ cap ∧ cap ≤ maxLen ∧ cur.size = cap * k ∧ cur.toList.take (n * k) = xs := by
  rcases h.2 with ⟨_, h0⟩ | ⟨g, cap, cur, hv, hg, hh, hc, hm, hs, ht⟩
  · omega
  · exact ⟨g, cap, cur, hv, hg, hh, hc, hm, hs, ht⟩
theorem blk_ownsRow {w : World} {B : Nat} {e : TypeId} {k g n cap : Nat} {cur : Array Value} {xs : List Value} (hB : B ≤ g) (hb : Blk w g e cur) (hn : n ≤ cap) (hm : cap ≤ maxLen) (hs : cur.size = cap * k) (ht : cur.toList.take (n * k) = xs) :
    w.ownsRow B e k (.slice (some ⟨g, 0, none⟩) n cap) n xs := by
  refine ⟨?_, .inr ⟨g, cap, cur, rfl, hB, hb, hn, hm, hs, ht⟩⟩
  rw [← ht, List.length_take, Array.length_toList, hs]
  exact Nat.min_eq_left (Nat.mul_le_mul_right k hn)
theorem Turned.of_setRow (w : World) (g : Nat) (cs : Array Value) : Turned g w (w.setRow g cs) :=
  ⟨fun B hB => ⟨rfl, rfl, rfl, by simp [World.setRow], fun k hk => setRow_other w g k cs (by omega)⟩, by simp [World.setRow], fun k hk => setRow_other w g k cs hk⟩
section
variable {P : Program}
theorem run_copyK (w : World) (dT sT ty elem : TypeId) (k g o dLen dCap : Nat) (a : Addr) (sLen sCap r : Nat) (cur : Array Value) (t : TypeId) (cs : List Value)
    (hu : P.underlying dT = some (.slice elem)) (hs : (P.info? elem).map (·.size) = some k) (hg : Blk w g t cur) (hr : Nat.min sLen dLen = r) (hn : cs.length = r * k)
    (hsrc : ∀ j v, cs[j]? = some v → w.cell? (a.add j) = some v) (hfit : o + cs.length ≤ cur.size) (h1 : ∀ v ∈ cs, v.oneCell' = true) :
    (Builtin.copy_ #[dT, sT] ty #[.slice (some ⟨g, o, none⟩) dLen dCap, .slice (some a) sLen sCap]).run P w =
      .ok (goInt r) (w.setRow g (cur.toList.take o ++ cs ++ cur.toList.drop (o + cs.length)).toArray) := by
  have hl := run_loadCells_list (P := P) w a cs hsrc
  have hst := run_storeCells_at P g o t cs 0 cur w hg (by simpa using hfit) h1
  cases hq : P.info? elem with
  | none => simp [hq] at hs
  | some i =>
    have hi : i.size = k := by simpa [hq] using hs
    rw [hn] at hl
    simp [Builtin.copy_, run_underlying hu, Builtin.lenOf, Builtin.firstCells, sizeOf, typeInfo, hq, hi, hr, hl, hst]
theorem wp_copyB {w : World} {o : Oper} {a : Act} {K : Act → World → Prop} {Q : Exit → Act → World → Prop} {d s : Operand} {dT sT elem : TypeId} {k g off dLen dCap : Nat} {p : Addr} {sLen sCap : Nat} (r : Nat) {cur : Array Value} {t : TypeId} (cs : List Value)
    (ho : o.op = .call { callee := .builtin .copy, args := #[d, s], argTypes := #[dT, sT] }) (hd : a.eval d = .slice (some ⟨g, off, none⟩) dLen dCap) (hsv : a.eval s = .slice (some p) sLen sCap)
    (hu : P.underlying dT = some (.slice elem)) (hs : (P.info? elem).map (·.size) = some k) (hb : Blk w g t cur) (hr : Nat.min sLen dLen = r) (hn : cs.length = r * k)
    (hsrc : ∀ j v, cs[j]? = some v → w.cell? (p.add j) = some v) (hfit : off + cs.length ≤ cur.size) (h1 : ∀ v ∈ cs, v.oneCell' = true)
    (h : ∀ w', Turned g w w' → Blk w' g t (cur.toList.take off ++ cs ++ cur.toList.drop (off + cs.length)).toArray → K (a.put o.dst (goInt r)) w') : o.wp P a w K Q := by
  have hrun := run_copyK (P := P) w dT sT o.type elem k g off dLen dCap p sLen sCap r cur t cs hu hs hb hr hn hsrc hfit h1
  unfold Oper.wp execOp
  simp only [ho, resolve, invoke, builtin, Sem.run_bind, Sem.run_pure, Result.andThen_ok, List.map_toArray, List.map_cons, List.map_nil, hd, hsv, hrun]
  exact h _ (Turned.of_setRow _ _ _) (setRow_heap w g cur _ t (0, 0) hb)
theorem wpList_copyB {w : World} {ops : Array Oper} {rest : List Oper} {o : Oper} {a : Act} {Q : Exit → Act → World → Prop} (hgd : o.guard = none) {d s : Operand} {dT sT elem : TypeId} {k g off dLen dCap : Nat} {p : Addr} {sLen sCap : Nat} (r : Nat) {cur : Array Value} {t : TypeId} (cs : List Value)
    (ho : o.op = .call { callee := .builtin .copy, args := #[d, s], argTypes := #[dT, sT] }) (hd : a.eval d = .slice (some ⟨g, off, none⟩) dLen dCap) (hsv : a.eval s = .slice (some p) sLen sCap)
    (hu : P.underlying dT = some (.slice elem)) (hs : (P.info? elem).map (·.size) = some k) (hb : Blk w g t cur) (hr : Nat.min sLen dLen = r) (hn : cs.length = r * k)
    (hsrc : ∀ j v, cs[j]? = some v → w.cell? (p.add j) = some v) (hfit : off + cs.length ≤ cur.size) (h1 : ∀ v ∈ cs, v.oneCell' = true)
    (h : ∀ w', Turned g w w' → Blk w' g t (cur.toList.take off ++ cs ++ cur.toList.drop (off + cs.length)).toArray → wpList P ops Q rest (a.put o.dst (goInt r)) w') : wpList P ops Q (o :: rest) a w :=
  wpList_plain hgd fun _ hK => wp_copyB r cs ho hd hsv hu hs hb hr hn hsrc hfit h1 fun w' h1 h2 => hK _ _ (h w' h1 h2)
theorem zeroCells_len (z : Array Value) (n : Nat) : (Builtin.zeroCells z n).size = z.size * n := by simp [Builtin.zeroCells, Nat.mul_comm]
/-- clear of a slice of no element. -/
theorem run_clear0 (w : World) (t e ty : TypeId) (a : Option Addr) (c : Nat) (z : Value) (ht : P.underlying t = some (.slice e)) (hv : ∀ w, (zeroValue e).run P w = .ok z w) : (Builtin.clear_ #[t] ty #[.slice a 0 c]).run P w = .ok (.tuple #[]) w := by
  have h0 : (Builtin.zeroCells z.cells 0).toList = [] := by
    apply List.eq_nil_of_length_eq_zero
    simp [Builtin.zeroCells]
  cases a <;> simp [Builtin.clear_, run_underlying ht, hv, h0, storeCells]
theorem run_clearK (w : World) (t e ty : TypeId) (z : Value) (ht : P.underlying t = some (.slice e)) (hv : ∀ w, (zeroValue e).run P w = .ok z w) (h1 : ∀ v ∈ z.cells, v.oneCell' = true) (g o n c : Nat) (hn : 0 < n) {T : TypeId} {cur : Array Value} (hg : Blk w g T cur) (hfit : o + z.cells.size * n ≤ cur.size) :
    (Builtin.clear_ #[t] ty #[.slice (some ⟨g, o, none⟩) n c]).run P w = .ok (.tuple #[]) (w.setRow g (cur.toList.take o ++ (Builtin.zeroCells z.cells n).toList ++ cur.toList.drop (o + z.cells.size * n)).toArray) := by
  have hl : (Builtin.zeroCells z.cells n).toList.length = z.cells.size * n := by rw [Array.length_toList, zeroCells_len]
  have hst := run_storeCells_at P g o T (Builtin.zeroCells z.cells n).toList 0 cur w hg (by rw [hl]; simpa using hfit) (by
    intro v hv'
    simp [Builtin.zeroCells] at hv'
    obtain ⟨i, hi, rfl⟩ := hv'
    refine h1 _ ?_
    rw [getElem!_pos z.cells _ (Nat.mod_lt _ (by
      rcases Nat.eq_zero_or_pos z.cells.size with h | h
      · rw [h] at hi; simp at hi
      · exact h))]
    exact Array.getElem_mem _)
  simp only [Nat.add_zero, hl] at hst
  obtain ⟨m, rfl⟩ : ∃ m, n = m + 1 := ⟨n - 1, by omega⟩
  simp [Builtin.clear_, run_underlying ht, hv, hst]
end
theorem row_tail {cur : Array Value} {l : List It} {m j : Nat} (h : cur.toList.take (m * 17) = itsL l) (hm : l.length = m) (hj : j ≤ m) : (cur.toList.drop (j * 17)).take ((l.length - j) * 17) = itsL (l.drop j) := by
  rw [hm, Nat.sub_mul, ← List.drop_take, h]
  unfold itsL
  exact fl_drop itL_len l j (by omega)
theorem row_add (gs o : Nat) : (⟨gs, 0, none⟩ : Addr).add o = ⟨gs, o, none⟩ := by unfold Addr.add; split <;> simp_all
section
variable {P : Program}
theorem wp_copyP {w : World} {o : Oper} {a : Act} {K : Act → World → Prop} {Q : Exit → Act → World → Prop} {d s : Operand} {dT sT elem : TypeId} {k g off dLen dCap : Nat} {pd p : Addr} {sLen sCap : Nat} (r : Nat) {cur : Array Value} {t : TypeId} (cs : List Value)
    (ho : o.op = .call { callee := .builtin .copy, args := #[d, s], argTypes := #[dT, sT] }) (hd : a.eval d = .slice (some pd) dLen dCap) (hpd : pd = ⟨g, off, none⟩) (hsv : a.eval s = .slice (some p) sLen sCap)
    (hu : P.underlying dT = some (.slice elem)) (hs : (P.info? elem).map (·.size) = some k) (hb : Blk w g t cur) (hr : Nat.min sLen dLen = r) (hn : cs.length = r * k)
    (hsrc : ∀ j v, cs[j]? = some v → w.cell? (p.add j) = some v) (hfit : off + cs.length ≤ cur.size) (h1 : ∀ v ∈ cs, v.oneCell' = true)
    (h : ∀ w', Turned g w w' → Blk w' g t (cur.toList.take off ++ cs ++ cur.toList.drop (off + cs.length)).toArray → K (a.put o.dst (goInt r)) w') : o.wp P a w K Q := by
  subst hpd
  exact wp_copyB r cs ho hd hsv hu hs hb hr hn hsrc hfit h1 h
theorem wpList_copyP {w : World} {ops : Array Oper} {rest : List Oper} {o : Oper} {a : Act} {Q : Exit → Act → World → Prop} (hgd : o.guard = none) {d s : Operand} {dT sT elem : TypeId} {k g off dLen dCap : Nat} {pd p : Addr} {sLen sCap : Nat} (r : Nat) {cur : Array Value} {t : TypeId} (cs : List Value)
    (ho : o.op = .call { callee := .builtin .copy, args := #[d, s], argTypes := #[dT, sT] }) (hd : a.eval d = .slice (some pd) dLen dCap) (hpd : pd = ⟨g, off, none⟩) (hsv : a.eval s = .slice (some p) sLen sCap)
    (hu : P.underlying dT = some (.slice elem)) (hs : (P.info? elem).map (·.size) = some k) (hb : Blk w g t cur) (hr : Nat.min sLen dLen = r) (hn : cs.length = r * k)
    (hsrc : ∀ j v, cs[j]? = some v → w.cell? (p.add j) = some v) (hfit : off + cs.length ≤ cur.size) (h1 : ∀ v ∈ cs, v.oneCell' = true)
    (h : ∀ w', Turned g w w' → Blk w' g t (cur.toList.take off ++ cs ++ cur.toList.drop (off + cs.length)).toArray → wpList P ops Q rest (a.put o.dst (goInt r)) w') : wpList P ops Q (o :: rest) a w :=
  wpList_plain hgd fun _ hK => wp_copyP r cs ho hd hpd hsv hu hs hb hr hn hsrc hfit h1 fun w' h1 h2 => hK _ _ (h w' h1 h2)
end
theorem splice1 {α} (X D F : List α) (a d : Nat) (hX : a + 17 + d ≤ X.length) (hD : D.length = d) (hF : F.length = 17) :
    ((X.take (a + 17) ++ D ++ X.drop (a + 17 + D.length)).take a ++ F ++ (X.take (a + 17) ++ D ++ X.drop (a + 17 + D.length)).drop (a + F.length)).take (a + 17 + d) = X.take a ++ F ++ D := by
  have hT : (X.take (a + 17)).length = a + 17 := by simp; omega
  generalize X.drop (a + 17 + D.length) = R
  have e1 : (X.take (a + 17) ++ D ++ R).take a = X.take a := by rw [List.append_assoc, List.take_append_of_le_length (by omega), List.take_take, Nat.min_eq_left (by omega)]
  have e2 : (X.take (a + 17) ++ D ++ R).drop (a + 17) = D ++ R := by rw [List.append_assoc]; exact List.drop_left' hT
  rw [hF, e1, e2, ← List.append_assoc]
  exact List.take_left' (by simp; omega)
theorem splice2 {α} (X D F : List α) (a d : Nat) (hX : a + 17 + d ≤ X.length) (hD : D.length = d) (hF : F.length = 17) :
    ((X.take a ++ F ++ X.drop (a + F.length)).take (a + 17) ++ D ++ (X.take a ++ F ++ X.drop (a + F.length)).drop (a + 17 + D.length)).take (a + 17 + d) = X.take a ++ F ++ D := by
  have hT : (X.take a ++ F).length = a + 17 := by simp; omega
  generalize (X.take a ++ F ++ X.drop (a + F.length)).drop (a + 17 + D.length) = R
  have e1 : (X.take a ++ F ++ X.drop (a + F.length)).take (a + 17) = X.take a ++ F := List.take_left' hT
  rw [e1]
  exact List.take_left' (by simp; omega)
/-- The cells of a row from an element on. -/
theorem row_cells {W : World} {gs : Nat} {cur : Array Value} {l : List It} {n i : Nat} {ad : Addr} (hb : Blk W gs 50 cur) (had : ad = ⟨gs, 0, none⟩) (hx : cur.toList.take (n * 17) = itsL l) (hl : l.length = n) (hi : i ≤ n) :
    ∀ j v, (itsL (l.drop i))[j]? = some v → W.cell? ((ad.add (i * 17)).add j) = some v := by
  intro j v hj
  have ht := row_tail hx hl hi
  rw [add_of_add, had, row_add, hb.cell]
  rw [← ht, List.getElem?_take] at hj
  split at hj
  · rw [List.getElem?_drop] at hj
    rw [← hj]; simp
  · cases hj
theorem wp_region_TS {P : Program} {ops : Array Oper} {Q : Exit → Act → World → Prop} {id : Nat} {a : Act} {w : World} {S : World → Prop} (t : Nat) (hm : P.follows .mixedOrders = true)
    (h : WpT P ops Q S t ops.size (Array.replicate ops.size false) a w.drew) : (Code.region id ops true).wp P Q a w :=
  wp_region_any hm (WpT.any _ _ _ _ h)
/-- What Insert returns here. -/
def InsIs (B n : Nat) (l : List It) (w : World) (e : Ending) (w' : World) : Prop := ∃ v', e = .returned v' ∧ w'.ownsRow B 50 17 v' (n + 1) (itsL l) ∧ Below B w w'
theorem overlaps_no (W : World) {gv gs : Nat} {f : It} {cur : Array Value} (hv : Blk W gv 50 (itL f).toArray) (hs : Blk W gs 50 cur) (hc : cur.size ≠ 0) (hne : gv ≠ gs) (p : Addr) (off : Nat) (hp : p = ⟨gs, off, none⟩) (lb cb : Nat) :
    (callFunc 69 #[.slice (some ⟨gv, 0, none⟩) 1 1, .slice (some p) lb cb]).run Tryd.prog W = .ok (.value (.bool false)) W := by
  subst hp
  have hsa : W.shape? gv = some (50, 17) := by unfold World.shape?; rw [hv]; rfl
  have hsb : W.shape? gs = some (50, cur.size) := by unfold World.shape?; rw [hs]
  rw [run_callFunc_extern (f := 69) (fn := Tryd.f69) Tryd.func69 (by kernel_rfl) (by kernel_rfl) (by kernel_rfl) (e := Extern.SlicesOverlaps.overlaps #[22, 22] #[4]) (by kernel_rfl),
    Lib.run_overlaps_apart W 22 4 50 (by kernel_rfl) 17 (fun w => by kernel_rfl) ⟨gv, 0, none⟩ ⟨gs, off, none⟩ 1 1 lb cb hne _ _ _ _ hsa hsb hc (hv.free 0) (hv.free 17)]
  rfl
set_option maxRecDepth 20000 in
set_option maxHeartbeats 4000000 in
theorem insertEnd_any (l : List It) (f : It) (w : World) {B : Nat} {v : Value} {n : Nat} (hown : w.ownsRow B 50 17 v n (itsL l)) (hn : n ≤ 1000) (gv : Nat) (hv : Blk w gv 50 (itL f).toArray) (hB : B ≤ w.heap.size) :
    Calls Tryd.prog 47 #[v, .int .i64 n, .slice (some ⟨gv, 0, none⟩) 1 1] w (InsIs B n (l ++ [f]) w) := by
  obtain ⟨A, c, rfl, hnc, hcm, -⟩ := ownsRow_form hown
  have HR : Hid (RdT w (some ⟨gv, 0, none⟩) 1 [f]) := Lib.hid ⟨rfl, by
    refine ⟨by rw [length_itsL]; rfl, fun k u hk => ⟨_, rfl, ?_⟩⟩
    rw [row_add, hv.cell k]
    simpa [itsL] using hk⟩
  have HV := Lib.hid hv
  unfold maxLen at hcm
  clear hv
  go_enter Tryd.func47, Tryd.ntmps47
  go_wp2_with (refine wpList_appK rfl rfl elemIt rfl hown rfl (m := 1) HR.out.rd (one_itsL _) (by omega) hB ?_; intro v' w' hown' _ hbel)
  all_goals
    go_ret
    exact ⟨_, rfl, by rw [itsL_app]; exact hown', hbel⟩
set_option maxRecDepth 20000 in
set_option maxHeartbeats 4000000 in
theorem insertRoom_any (l : List It) (f : It) (i : Nat) (w : World) {B gs n c : Nat} {cur : Array Value} (ad : Addr) (had : ad = ⟨gs, 0, none⟩) (hb : Blk w gs 50 cur) (hBg : B ≤ gs) (hl : l.length = n) (hc : n + 1 ≤ c) (hcm : c ≤ maxLen) (hs : cur.size = c * 17) (hx : cur.toList.take (n * 17) = itsL l) (hi : i < n) (hn : n ≤ 1000)
    (gv : Nat) (hv : Blk w gv 50 (itL f).toArray) (hne : gv ≠ gs) :
    Calls Tryd.prog 47 #[.slice (some ad) n c, .int .i64 i, .slice (some ⟨gv, 0, none⟩) 1 1] w (InsIs B n (l.take i ++ [f] ++ l.drop i) w) := by
  have HOV := Lib.hid (fun lb cb => overlaps_no w hv hb (by omega) hne (ad.add ((i + 1) * 17)) ((i + 1) * 17) (by rw [had]; exact row_add _ _) lb cb)
  have HV := Lib.hid hv
  have HAD := Lib.hid had
  have HX := Lib.hid hx
  have HS := Lib.hid hs
  have HL := Lib.hid hl
  have HCM := Lib.hid hcm
  have HB := Lib.hid hb
  have HNE := Lib.hid hne
  unfold maxLen at hcm
  have hc1 : ¬ c = i + 1 := by omega
  have hc2 : ¬ c = i := by omega
  clear had hx hs hl hb hv hne
  go_enter Tryd.func47, Tryd.ntmps47
  go_upto_region 14 with (fail)
  have hov := HOV.out
  go_upto_region 15 with (fail)
  have hw1 : IntKind.i64.wrap ((i : Int) + 1) = (i : Int) + 1 := by rw [IntKind.wrap_i64]; omega
  have hb1 : (0 : Int) ≤ (i : Int) + 1 := by omega
  have htn : ((i : Int) + 1).toNat = i + 1 := by omega
  have hlt1 : (i : Int) + 1 ≤ (n : Int) + 1 := by omega
  have hlt2 : (i : Int) ≤ (n : Int) + 1 := by omega
  have hD1 : (itsL (l.drop i)).length = (n - i) * 17 := by rw [length_itsL, List.length_drop, HL.out]
  have HD1 := Lib.hid hD1
  clear hD1
  have HSZ : Hid ((i + 1) * 17 + (itsL (l.drop i)).length ≤ cur.size) := Lib.hid (by rw [HD1.out, HS.out]; omega)
  have HRC := Lib.hid (row_cells (i := i) HB.out HAD.out HX.out HL.out (by omega))
  have HM : Hid (Nat.min (n + 1 - i) (n - i) = n - i) := Lib.hid (by show min _ _ = _; omega)
  refine wp_region_TS (S := fun _ => True) 9 (by kernel_rfl) ?_
  refine WpT.take (i := 0) rfl (by kernel_rfl) (fun _ _ _ h => h) (.inl ⟨by rfl, fun w hSw => by clear hSw; go_simp; (try go_bits); (try rw [if_pos (by omega)]); (try with_reducible rfl)⟩) (trivial) ?_
  try simp only [nrm]
  refine WpT.take (i := 1) rfl (by kernel_rfl) (fun _ _ _ h => h) (.inl ⟨by rfl, fun w hSw => by clear hSw; go_simp; (try go_bits); (try rw [if_pos (by omega)]); (try with_reducible rfl)⟩) (trivial) ?_
  try simp only [nrm]
  refine WpT.take (i := 2) rfl (by kernel_rfl) (fun _ _ _ h => h) (.inl ⟨by rfl, fun w hSw => by clear hSw; go_simp; (try go_bits); (try rw [if_pos (by omega)]); (try with_reducible rfl)⟩) (trivial) ?_
  try simp only [nrm]
  refine WpT.take (i := 3) rfl (by kernel_rfl) (fun _ _ _ h => h) (.inl ⟨by rfl, fun w hSw => by clear hSw; go_simp; (try go_bits); (try rw [if_pos (by omega)]); (try with_reducible rfl)⟩) (trivial) ?_
  try simp only [nrm]
  refine WpT.take (i := 4) rfl (by kernel_rfl) (fun _ _ _ h => h) (.inl ⟨by rfl, fun w hSw => by clear hSw; go_simp; (try go_bits); (try rw [if_pos (by omega)]); (try with_reducible rfl)⟩) (trivial) ?_
  try simp only [nrm]
  refine WpT.take (i := 5) rfl (by kernel_rfl) (fun _ _ _ h => h) (.inl ⟨by rfl, fun w hSw => by clear hSw; go_simp; (try go_bits); (try rw [if_pos (by omega)]); (try with_reducible rfl)⟩) (trivial) ?_
  try simp only [nrm]
  refine WpT.take (i := 6) rfl (by kernel_rfl) (fun _ _ _ h => h) (.inl ⟨by rfl, fun w hSw => by clear hSw; go_simp; (try go_bits); (try rw [if_pos (by omega)]); (try with_reducible rfl)⟩) (trivial) ?_
  try simp only [nrm]
  refine WpT.take (i := 7) rfl (by kernel_rfl) (fun _ _ _ h => h) (.inl ⟨by rfl, fun w hSw => by clear hSw; go_simp; (try go_bits); (try rw [if_pos (by omega)]); (try with_reducible rfl)⟩) (trivial) ?_
  try simp only [nrm]
  refine WpT.one (i := 8) rfl (by kernel_rfl) (fun K hK => ?_)
  refine wp_copyP (k := 17) (elem := 50) (n - i) (itsL (l.drop i)) rfl (by rfl) (by rw [HAD.out]; exact row_add _ _) (by rfl) (by kernel_rfl) (by kernel_rfl) (Blk.drew HB.out) HM.out HD1.out HRC.out HSZ.out (one_itsL _) ?_; intro w4 ht4 hb4
  refine hK _ _ (trivial) ?_; clear hK K; try simp only [nrm]
  refine WpT.done (by kernel_rfl) ?_ _
  have hF1 : (itL f).length = 1 * 17 := itL_len f
  have HF1 := Lib.hid hF1
  clear hF1
  have HM2 : Hid (Nat.min 1 (n + 1 - i) = 1) := Lib.hid (by show min _ _ = _; omega)
  obtain ⟨cur1, hcur1⟩ : ∃ cur1 : Array Value, cur1 = (cur.toList.take ((i + 1) * 17) ++ itsL (l.drop i) ++ cur.toList.drop ((i + 1) * 17 + (itsL (l.drop i)).length)).toArray := ⟨_, rfl⟩
  rw [← hcur1] at hb4
  have HC1 := Lib.hid hcur1
  have HSZ1 : Hid (cur1.size = c * 17) := Lib.hid (by
    have h1 := HS.out
    have h2 := HD1.out
    rw [hcur1]
    simp
    omega)
  clear hcur1
  have HV4 : Hid (Blk w4 gv 50 (itL f).toArray) := Lib.hid (ht4.blk (HV.out.drew) HNE.out)
  have HSRC : Hid (∀ j v, (itL f)[j]? = some v → w4.cell? ((⟨gv, 0, none⟩ : Addr).add j) = some v) := Lib.hid (fun j v hj => by rw [row_add, HV4.out.cell]; simpa using hj)
  clear hov
  go_wp2_with (refine wpList_copyP (k := 17) (elem := 50) (pd := ad.add (i * 17)) (g := gs) (off := i * 17) (dLen := n + 1 - i) (dCap := c - i) (p := ⟨gv, 0, none⟩) (sLen := 1) (sCap := 1) rfl 1 (itL f) rfl rfl (by rw [HAD.out]; exact row_add _ (i * 17)) rfl (by kernel_rfl) (by kernel_rfl) hb4 HM2.out HF1.out HSRC.out (by rw [HSZ1.out, HF1.out]; omega) (one_itL f) ?_; intro w5 ht5 hb5)
  have HFin : Hid (((cur1.toList.take (i * 17) ++ itL f ++ cur1.toList.drop (i * 17 + (itL f).length)).toArray).toList.take ((n + 1) * 17) = itsL (l.take i ++ [f] ++ l.drop i)) := Lib.hid (by
    rw [HC1.out]
    have h0 : (cur.toList.take (i * 17)) = itsL (l.take i) := by
      have h2 : cur.toList.take (i * 17) = (cur.toList.take (n * 17)).take (i * 17) := by rw [List.take_take, Nat.min_eq_left (by omega)]
      rw [h2, HX.out]
      unfold itsL
      exact fl_take itL_len l i (by have := HL.out; omega)
    have h1 := splice1 cur.toList (itsL (l.drop i)) (itL f) (i * 17) ((n - i) * 17) (by rw [Array.length_toList, HS.out]; omega) HD1.out (itL_len f)
    rw [h0, show i * 17 + 17 = (i + 1) * 17 by omega, show (i + 1) * 17 + (n - i) * 17 = (n + 1) * 17 by omega] at h1
    rw [itsL_app, itsL_app, show itsL [f] = itL f by simp [itsL]]
    exact h1)
  have HS5 : Hid (((cur1.toList.take (i * 17) ++ itL f ++ cur1.toList.drop (i * 17 + (itL f).length)).toArray).size = c * 17) := Lib.hid (by
    have h1 := HSZ1.out
    simp [itL_len, dg_len]
    omega)
  go_ret
  refine ⟨_, rfl, ?_, ((Below.refl B w).drew.trans (ht4.below _ hBg)).trans (ht5.below _ hBg)⟩
  rw [HAD.out]
  exact blk_ownsRow hBg hb5 hc HCM.out HS5.out HFin.out
set_option maxRecDepth 20000 in
set_option maxHeartbeats 4000000 in
theorem insertGrow_any (l : List It) (f : It) (i : Nat) (w : World) {B gs n c : Nat} {cur : Array Value} (ad : Addr) (had : ad = ⟨gs, 0, none⟩) (hb : Blk w gs 50 cur) (hB : B ≤ w.heap.size) (hl : l.length = n) (hnc : n ≤ c) (hc : c < n + 1) (hx : cur.toList.take (n * 17) = itsL l) (hi : i < n) (hn : n ≤ 1000)
    (gv : Nat) (hv : Blk w gv 50 (itL f).toArray) :
    Calls Tryd.prog 47 #[.slice (some ad) n c, .int .i64 i, .slice (some ⟨gv, 0, none⟩) 1 1] w (InsIs B n (l.take i ++ [f] ++ l.drop i) w) := by
  obtain rfl : c = n := by omega
  obtain ⟨i0, hi0, hz0, hzs, hzb⟩ := info_parts (show (Tryd.prog.info? 50).map (fun i => (i.zero, i.size, i.bytes)) = some (some (itV ⟨0, ⟨#[]⟩⟩), 17, 32) by kernel_rfl)
  have HAD := Lib.hid had
  have HX := Lib.hid hx
  have HL := Lib.hid hl
  have HB := Lib.hid hb
  have HV := Lib.hid hv
  have hF1 : (itL f).length = 1 * 17 := itL_len f
  have HF1 := Lib.hid hF1
  have hD1 : (itsL (l.drop i)).length = (c - i) * 17 := by rw [length_itsL, List.length_drop, hl]
  have HD1 := Lib.hid hD1
  have HRC := Lib.hid (row_cells (i := i) hb had hx hl (by omega))
  have htk : cur.toList.take (i * 17) = itsL (l.take i) := by
    have h2 : cur.toList.take (i * 17) = (cur.toList.take (c * 17)).take (i * 17) := by rw [List.take_take, Nat.min_eq_left (by omega)]
    rw [h2, hx]
    unfold itsL
    exact fl_take itL_len l i (by omega)
  have hold : (Builtin.firstCells i0.size i (.slice (some ad) i c)).run Tryd.prog w.drew = .ok (itsL (l.take i)).toArray w.drew := by
    rw [hzs]
    refine run_firstCells_some w.drew 17 i ad i c (itsL (l.take i)) (by rw [length_itsL, List.length_take]; omega) (fun j v hj => ?_)
    rw [had, row_add]
    show w.cell? _ = _
    rw [hb.cell]
    rw [← htk, List.getElem?_take] at hj
    split at hj
    · rw [← hj]; simp
    · cases hj
  have HG : Hid (∀ ty, (Builtin.append_ #[22, 3] ty #[.slice (some ad) i c, .int .i64 ((c + 1 - i : Nat) : Int)]).run Tryd.prog w = _) := Lib.hid (fun ty => Lib.run_append_grow_zeros w 22 3 ty 50 i0 _ .i64 .i64 (by kernel_rfl) (by kernel_rfl) hi0 hz0 (some ad) i c (itsL (l.take i)) hold (c + 1 - i) (by omega) (by omega) (by omega) (by omega) (by rw [hzb]; omega) (by rw [hzb, show i + (c + 1 - i) = c + 1 by omega]; exact growslice_fits (by omega) (by omega)))
  rw [show i + (c + 1 - i) = c + 1 by omega] at HG
  rw [show ((c + 1 - i : Nat) : Int) = (c : Int) + 1 - i by omega] at HG
  obtain ⟨ad2, had2⟩ : ∃ ad2 : Addr, ad2 = ⟨w.heap.size, 0, none⟩ := ⟨_, rfl⟩
  rw [← had2] at HG
  have HAD2 := Lib.hid had2
  have hG1 := grownCap_ge w (c + 1) c 50
  have hG2 := grownCap_le_maxLen w (c + 1) c 50 (by unfold maxLen; omega)
  generalize grownCap w (c + 1) c 50 = G at *
  have HG2 := Lib.hid hG2
  unfold maxLen at hG2
  obtain ⟨ROW, hROW⟩ : ∃ ROW : Array Value, ROW = (itsL (l.take i)).toArray ++ Builtin.zeroCells (itV ⟨0, ⟨#[]⟩⟩).cells (c + 1 - i) ++ Builtin.zeroCells (itV ⟨0, ⟨#[]⟩⟩).cells (G - (c + 1)) := ⟨_, rfl⟩
  rw [← hROW] at HG
  have HRS : Hid (ROW.size = G * 17) := Lib.hid (by
    rw [hROW]
    simp only [Array.size_append, zeroCells_len, List.size_toArray, length_itsL, List.length_take, Value.cells]
    simp [dg_len]
    omega)
  have HRT : Hid (ROW.toList.take (i * 17) = itsL (l.take i)) := Lib.hid (by
    rw [hROW]
    simp only [Array.toList_append]
    rw [List.append_assoc]
    exact List.take_left' (by rw [length_itsL, List.length_take]; omega))
  have HW1 : Hid (Blk (w.drew.alloc (.cells ROW 50)) w.heap.size 50 ROW) := Lib.hid (Blk.new w.drew _ _)
  have HB1 : Hid (Below w.heap.size w (w.drew.alloc (.cells ROW 50))) := Lib.hid ((Below.refl w.heap.size w).drew.alloc (Nat.le_refl _) _)
  have HNV : Hid (gv ≠ w.heap.size) := Lib.hid (by have := hv.lt; omega)
  generalize (w.drew.alloc (.cells ROW 50)) = w1 at *
  clear hROW had had2 hold hb hv hx hl htk hD1 hF1 hi0 hz0 hzs hzb
  have HV1 := Lib.hid (HV.out.below HB1.out)
  have HSRC : Hid (∀ j v, (itL f)[j]? = some v → w1.cell? ((⟨gv, 0, none⟩ : Addr).add j) = some v) := Lib.hid (fun j v hj => by rw [row_add, HV1.out.cell]; simpa using hj)
  have HM2 : Hid (Nat.min 1 (c + 1 - i) = 1) := Lib.hid (by show min _ _ = _; omega)
  have HM : Hid (Nat.min (c - i) (c - i) = c - i) := Lib.hid (by show min _ _ = _; omega)
  have hd1 : ((i : Int) == c) = false := by simp; omega
  have hd2 : decide ((c : Int) < c + 1) = true := by simp; omega
  have hg1 : ¬ G = i := by omega
  have hg2 : ¬ G = i + 1 := by omega
  have hg3 : ¬ c = i := by omega
  have hil : (i : Int) ≤ (c : Int) + 1 := by omega
  go_enter Tryd.func47, Tryd.ntmps47
  go_upto_region 9 with (fail)
  go_upto_region 10 with (at_builtin; refine Lib.wpList_append_run _ rfl _ _ _ _ rfl _ _ rfl rfl _ _ (HG.out _) ?_)
  go_upto_region 11 with (refine wpList_copyP (k := 17) (elem := 50) (pd := ad2.add (i * 17)) (g := w.heap.size) (off := i * 17) (dLen := c + 1 - i) (dCap := G - i) (p := ⟨gv, 0, none⟩) (sLen := 1) (sCap := 1) rfl 1 (itL f) rfl rfl (by rw [HAD2.out]; exact row_add _ (i * 17)) rfl (by kernel_rfl) (by kernel_rfl) HW1.out HM2.out HF1.out HSRC.out (by rw [HRS.out, HF1.out]; omega) (one_itL f) ?_; intro w4 ht4 hb4)
  obtain ⟨cur1, hcur1⟩ : ∃ cur1 : Array Value, cur1 = (ROW.toList.take (i * 17) ++ itL f ++ ROW.toList.drop (i * 17 + (itL f).length)).toArray := ⟨_, rfl⟩
  rw [← hcur1] at hb4
  have HC1 := Lib.hid hcur1
  have HSZ1 : Hid (cur1.size = G * 17) := Lib.hid (by
    have h1 := HRS.out
    rw [hcur1]
    simp [itL_len, dg_len]
    omega)
  clear hcur1
  have HRC4 : Hid (∀ j v, (itsL (l.drop i))[j]? = some v → w4.cell? ((ad.add (i * 17)).add j) = some v) := Lib.hid (fun j v hj => by
    have h1 := HRC.out j v hj
    rw [add_of_add, HAD.out, row_add] at h1 ⊢
    have hb4' : Blk w4 gs 50 cur := ht4.blk (HB.out.below HB1.out) (by have := HB.out.lt; omega)
    rw [hb4'.cell]
    rw [HB.out.cell] at h1
    exact h1)
  have hw1 : IntKind.i64.wrap ((i : Int) + 1) = (i : Int) + 1 := by rw [IntKind.wrap_i64]; omega
  have hb1 : (0 : Int) ≤ (i : Int) + 1 := by omega
  have htn : ((i : Int) + 1).toNat = i + 1 := by omega
  have hlt1 : (i : Int) + 1 ≤ (c : Int) + 1 := by omega
  have hlt2 : (i : Int) ≤ (c : Int) := by omega
  refine wp_region_TS (S := fun _ => True) 9 (by kernel_rfl) ?_
  refine WpT.take (i := 0) rfl (by kernel_rfl) (fun _ _ _ h => h) (.inl ⟨by rfl, fun w hSw => by clear hSw; go_simp; (try go_bits); (try rw [if_pos (by omega)]); (try with_reducible rfl)⟩) (trivial) ?_
  try simp only [nrm]
  refine WpT.take (i := 1) rfl (by kernel_rfl) (fun _ _ _ h => h) (.inl ⟨by rfl, fun w hSw => by clear hSw; go_simp; (try go_bits); (try rw [if_pos (by omega)]); (try with_reducible rfl)⟩) (trivial) ?_
  try simp only [nrm]
  refine WpT.take (i := 2) rfl (by kernel_rfl) (fun _ _ _ h => h) (.inl ⟨by rfl, fun w hSw => by clear hSw; go_simp; (try go_bits); (try rw [if_pos (by omega)]); (try with_reducible rfl)⟩) (trivial) ?_
  try simp only [nrm]
  refine WpT.take (i := 3) rfl (by kernel_rfl) (fun _ _ _ h => h) (.inl ⟨by rfl, fun w hSw => by clear hSw; go_simp; (try go_bits); (try rw [if_pos (by omega)]); (try with_reducible rfl)⟩) (trivial) ?_
  try simp only [nrm]
  refine WpT.take (i := 4) rfl (by kernel_rfl) (fun _ _ _ h => h) (.inl ⟨by rfl, fun w hSw => by clear hSw; go_simp; (try go_bits); (try rw [if_pos (by omega)]); (try with_reducible rfl)⟩) (trivial) ?_
  try simp only [nrm]
  refine WpT.take (i := 5) rfl (by kernel_rfl) (fun _ _ _ h => h) (.inl ⟨by rfl, fun w hSw => by clear hSw; go_simp; (try go_bits); (try rw [if_pos (by omega)]); (try with_reducible rfl)⟩) (trivial) ?_
  try simp only [nrm]
  refine WpT.take (i := 6) rfl (by kernel_rfl) (fun _ _ _ h => h) (.inl ⟨by rfl, fun w hSw => by clear hSw; go_simp; (try go_bits); (try rw [if_pos (by omega)]); (try with_reducible rfl)⟩) (trivial) ?_
  try simp only [nrm]
  refine WpT.take (i := 7) rfl (by kernel_rfl) (fun _ _ _ h => h) (.inl ⟨by rfl, fun w hSw => by clear hSw; go_simp; (try go_bits); (try rw [if_pos (by omega)]); (try with_reducible rfl)⟩) (trivial) ?_
  try simp only [nrm]
  refine WpT.one (i := 8) rfl (by kernel_rfl) (fun K hK => ?_)
  refine wp_copyP (k := 17) (elem := 50) (pd := ad2.add ((i + 1) * 17)) (g := w.heap.size) (off := (i + 1) * 17) (c - i) (itsL (l.drop i)) rfl (by rfl) (by rw [HAD2.out]; exact row_add _ _) (by rfl) (by kernel_rfl) (by kernel_rfl) (Blk.drew hb4) HM.out HD1.out HRC4.out (by rw [HSZ1.out, HD1.out]; omega) (one_itsL _) ?_; intro w5 ht5 hb5
  refine hK _ _ (trivial) ?_; clear hK K; try simp only [nrm]
  refine WpT.done (by kernel_rfl) ?_ _
  have HFin : Hid (((cur1.toList.take ((i + 1) * 17) ++ itsL (l.drop i) ++ cur1.toList.drop ((i + 1) * 17 + (itsL (l.drop i)).length)).toArray).toList.take ((c + 1) * 17) = itsL (l.take i ++ [f] ++ l.drop i)) := Lib.hid (by
    rw [HC1.out]
    have h1 := splice2 ROW.toList (itsL (l.drop i)) (itL f) (i * 17) ((c - i) * 17) (by rw [Array.length_toList, HRS.out]; omega) HD1.out (itL_len f)
    rw [HRT.out, show i * 17 + 17 = (i + 1) * 17 by omega, show (i + 1) * 17 + (c - i) * 17 = (c + 1) * 17 by omega] at h1
    rw [itsL_app, itsL_app, show itsL [f] = itL f by simp [itsL], HRT.out]
    exact h1)
  have HS5 : Hid (((cur1.toList.take ((i + 1) * 17) ++ itsL (l.drop i) ++ cur1.toList.drop ((i + 1) * 17 + (itsL (l.drop i)).length)).toArray).size = G * 17) := Lib.hid (by
    have h1 := HSZ1.out
    have h2 := HD1.out
    simp
    omega)
  clear hw1 hb1 htn hlt1 hlt2
  go_wp2_with fail
  go_ret
  refine ⟨_, rfl, ?_, (((HB1.out.mono hB).trans (ht4.below _ hB)).drew.trans (ht5.below _ hB))⟩
  rw [HAD2.out]
  exact blk_ownsRow hB hb5 hG1 HG2.out HS5.out (by rw [show List.take i l ++ f :: List.drop i l = List.take i l ++ [f] ++ List.drop i l by simp]; exact HFin.out)
/-- Insert of one frame into a row of the call's own. -/
theorem insertT_any (l : List It) (f : It) (i : Nat) (w : World) {B : Nat} {v : Value} {n : Nat} (hown : w.ownsRow B 50 17 v n (itsL l)) (hl : l.length = n) (hi : i ≤ n) (hn : n ≤ 1000) (gv : Nat) (hv : Blk w gv 50 (itL f).toArray) (hne : v.ownBlock ≠ some gv) (hB : B ≤ w.heap.size) :
    Calls Tryd.prog 47 #[v, .int .i64 i, .slice (some ⟨gv, 0, none⟩) 1 1] w (InsIs B n (l.take i ++ [f] ++ l.drop i) w) := by
  by_cases h : i = n
  · subst h
    rw [List.take_of_length_le (by omega), List.drop_of_length_le (by omega), List.append_nil]
    exact insertEnd_any l f w hown hn gv hv hB
  · obtain ⟨g, cap, cur, rfl, hg, hb, hc, hm, hs, ht⟩ := own_blk hown (by omega)
    have hgv : gv ≠ g := fun e => hne (by rw [e]; rfl)
    by_cases hr : n + 1 ≤ cap
    · exact insertRoom_any l f i w ⟨g, 0, none⟩ rfl hb hg hl hr hm hs ht (by omega) hn gv hv hgv
    · exact insertGrow_any l f i w ⟨g, 0, none⟩ rfl hb hB hl hc (by omega) ht (by omega) hn gv hv
set_option maxRecDepth 20000 in
set_option maxHeartbeats 1000000 in
theorem cloneTs_any (A : Option Addr) (n c : Nat) (l : List It) (w : World) (hr : RdT w A n l) (hn : n ≤ 4294967296) :
    Calls Tryd.prog 48 #[.slice A n c] w fun e w' => ∃ v, e = .returned v ∧ OwnTs w' w.heap.size v l ∧ Below w.heap.size w w' := by
  have q : ∀ (w : World) (a : Option Addr) (n c n' c' : Nat), (binOp .eql 22 (.slice a n c) (.slice none n' c')).run Tryd.prog w = .ok (.bool a.isNone) w := fun w a n c n' c' => Lib.run_eql_slice_nil w _ 50 a n c n' c' (by kernel_rfl)
  have HL := Lib.hid hr.len
  rcases A with _ | ad
  · obtain ⟨h0, _⟩ := rd_none0 hr.rd
    have hl : l = [] := List.eq_nil_of_length_eq_zero (by have := HL.out; omega)
    subst hl
    clear hr
    go_enter Tryd.func48, Tryd.ntmps48
    go_wp2
    go_ret
    exact ⟨_, rfl, OwnTs.nil _ _, Below.refl _ _⟩
  · have ho : (w.alloc (.cells #[] 50)).ownsRow w.heap.size 50 17 (.slice (some ⟨w.heap.size, 0, none⟩) 0 0) 0 [] := World.ownsRow_made w #[] 0 (Nat.le_refl _) (Nat.zero_le _) rfl
    have hb0 := (Below.refl w.heap.size w).alloc (Nat.le_refl _) (.cells #[] 50)
    have HR := Lib.hid hr.rd
    clear hr
    go_enter Tryd.func48, Tryd.ntmps48
    go_wp2_with (at_builtin; refine wpList_appK rfl rfl elemIt rfl ho rfl (HR.out.below hb0) (one_itsL _) (by omega) (by simp) ?_; intro v' w' hown _ hbel)
    go_ret
    have hfin : OwnTs w' w.heap.size v' l := by
      unfold OwnTs
      rw [HL.out]
      simpa using hown
    exact ⟨_, rfl, hfin, hb0.trans hbel⟩
end Go.Proofs.YtieamjjnofelcaaDoor
namespace Go.Proofs.YtieamjjnofelcaaDoor
set_option linter.unusedSimpArgs false
set_option linter.unusedVariables false
open Go.RowKit Exch
abbrev nms (l : List It) : List Nat := l.map (·.nm)
set_option maxRecDepth 20000 in
set_option maxHeartbeats 1000000 in
theorem find_any (l : List It) (A : Option Addr) (m c z : Nat) (w : World) (hm : m ≤ 1000000) (hr : RdT w A m l) (hl : ∀ x ∈ l, WfT x) (hs : SortedN (nms l)) (hz : z < 2 ^ 128) :
    Calls Tryd.prog 46 #[stV A m c, dgV z] w fun e w' => e = .returned (.tuple #[.int .i64 (lowN z (nms l)), .bool (knownN z (nms l))]) ∧ Below w.heap.size w w' := by
  obtain ⟨wa, hwa, hb0, q0, q1⟩ := stBox w A m c z
  have HWA := Lib.hid hwa
  clear hwa
  have HB := Lib.hid (fun W (h : RdT W A m l) => searchT_any A m c l z W hm h hs (fun x hx => (hl x hx).nm) hz)
  have HR := Lib.hid (hr.below hb0)
  generalize lowN z (nms l) = L at *
  generalize knownN z (nms l) = K at *
  have c0 := q0.cell 0
  simp only [List.getElem?_toArray, List.getElem?_cons_zero] at c0
  go_enter Tryd.func46, Tryd.ntmps46
  go_upto_region 1 with (fail)
  change Code.wp _ _ _ _ ((w.alloc (.cells (stC A m c) 24)).alloc (.cells (dgC z) 26))
  rw [← HWA.out]
  go_wp2_with ((with_reducible show wpList _ _ _ _ _ _); refine wpList_loadRow rfl rfl rfl q1 aggDg (by rw [sizeDg, dgC_size]) ?_)
  refine (HB.out _ HR.out).mono ?_
  rintro e w1 ⟨rfl, hb⟩
  go_wp2_with fail
  go_ret2
  exact ⟨rfl, bstep hb0 hb⟩
/-- The text with a name. -/
def textOf (l : List It) (z : Nat) : ByteArray := match l[lowN z (nms l)]? with | some x => x.tx | none => ⟨#[]⟩
set_option maxRecDepth 20000 in
set_option maxHeartbeats 1000000 in
theorem Find_any (l : List It) (A : Option Addr) (m c z : Nat) (w : World) (hm : m ≤ 1000000) (hr : RdT w A m l) (hl : ∀ x ∈ l, WfT x) (hs : SortedN (nms l)) (hz : z < 2 ^ 128) :
    Calls Tryd.prog 16 #[stV A m c, dgV z] w fun e w' => e = .returned (.tuple #[.string (if knownN z (nms l) then textOf l z else ⟨#[]⟩), .bool (knownN z (nms l))]) ∧ Below w.heap.size w w' := by
  obtain ⟨wa, hwa, hb0, q0, q1⟩ := stBox w A m c z
  have HWA := Lib.hid hwa
  clear hwa
  have HB := Lib.hid (fun W (h : RdT W A m l) => find_any l A m c z W hm h hl hs hz)
  have HR := Lib.hid (hr.below hb0)
  have HKG := Lib.hid (fun h => knownN_get (z := z) (l := nms l) h)
  unfold textOf
  generalize lowN z (nms l) = L at *
  generalize knownN z (nms l) = K at *
  cases K
  · simp only [Bool.false_eq_true, if_false]
    go_enter Tryd.func16, Tryd.ntmps16
    go_upto_region 1 with (fail)
    change Code.wp _ _ _ _ ((w.alloc (.cells (stC A m c) 24)).alloc (.cells (dgC z) 26))
    rw [← HWA.out]
    go_wp2_with (first
      | ((with_reducible show wpList _ _ _ _ _ _); refine wpList_loadRow rfl rfl rfl q0 aggSt (by rw [sizeSt]; rfl) ?_)
      | ((with_reducible show wpList _ _ _ _ _ _); refine wpList_loadRow rfl rfl rfl q1 aggDg (by rw [sizeDg, dgC_size]) ?_))
    refine (HB.out _ HR.out).mono ?_
    rintro e w1 ⟨rfl, hb⟩
    go_wp2_with fail
    go_ret2
    exact ⟨rfl, bstep hb0 hb⟩
  · simp only [if_true]
    obtain ⟨hL, -⟩ := HKG.out rfl
    have hLl : L < l.length := by simpa using hL
    have hLm : L < m := by have := hr.len; omega
    have HEL := Lib.hid (fun W (h : RdT W A m l) => h.elem hLl)
    rw [List.getElem?_eq_getElem hLl]
    generalize l[L] = x at *
    clear hL hLl HKG
    go_enter Tryd.func16, Tryd.ntmps16
    go_upto_region 1 with (fail)
    change Code.wp _ _ _ _ ((w.alloc (.cells (stC A m c) 24)).alloc (.cells (dgC z) 26))
    rw [← HWA.out]
    go_upto_region 2 with (first
      | ((with_reducible show wpList _ _ _ _ _ _); refine wpList_loadRow rfl rfl rfl q0 aggSt (by rw [sizeSt]; rfl) ?_)
      | ((with_reducible show wpList _ _ _ _ _ _); refine wpList_loadRow rfl rfl rfl q1 aggDg (by rw [sizeDg, dgC_size]) ?_))
    refine (HB.out _ HR.out).mono ?_
    rintro e w1 ⟨rfl, hb⟩
    replace q0 := q0.below hb
    obtain ⟨ad, rfl, hc⟩ := HEL.out _ (HR.out.below hb)
    have c0 := q0.cell 0
    simp only [List.getElem?_toArray, List.getElem?_cons_zero] at c0
    have ht16 : w1.cell? ⟨(ad.add (L * 17)).block, (ad.add (L * 17)).off + 16, none⟩ = some (.string x.tx) := it_text hc
    go_wp2_with fail
    go_ret2
    exact ⟨rfl, bstep hb0 hb⟩
/-- A stock with one more text. -/
def insT (l : List It) (x : It) : List It := l.take (lowN x.nm (nms l)) ++ [x] ++ l.drop (lowN x.nm (nms l))
def addS (l : List It) (t : ByteArray) : List It × Int := if knownN (nameOf t) (nms l) then (l, 6) else (insT l ⟨nameOf t, t⟩, 0)
/-- What Add returns. -/
def AddIs (A0 : Option Addr) (r : List It × Int) (w : World) (e : Ending) (w' : World) : Prop := ∃ A n c, e = .returned (.tuple #[stV A n c, .int .i64 r.2]) ∧ RdT w' A n r.1 ∧ n ≤ c ∧ c ≤ maxLen ∧ Below w.heap.size w w' ∧ KA w w' A0 A
theorem yields_build2 {P : Program} {ops : Array Oper} {S : World → Prop} {o : Oper} {a : Act} {T : TypeId} {i j : Nat} {x y : Operand} {vx vy v : Value} (ho : o.op = .build T #[(i, x), (j, y)]) (hgd : o.guard = none) (hx : a.eval x = vx) (hy : a.eval y = vy) (h : ∀ W, (Instr.build T #[(i, vx), (j, vy)]).run P W = .ok v W) : YieldsIf P ops S o v a := by
  refine .inl ⟨by simp [Region.wanted, hgd], fun w hS => ?_⟩
  unfold execOp
  simp only [ho, List.map_toArray, List.map_cons, List.map_nil, hx, hy, Sem.run_bind, h, Result.andThen_ok, Sem.run_pure]
theorem yields_build1 {P : Program} {ops : Array Oper} {S : World → Prop} {o : Oper} {a : Act} {T : TypeId} {i : Nat} {x : Operand} {vx v : Value} (ho : o.op = .build T #[(i, x)]) (hgd : o.guard = none) (hx : a.eval x = vx) (h : ∀ W, (Instr.build T #[(i, vx)]).run P W = .ok v W) : YieldsIf P ops S o v a := by
  refine .inl ⟨by simp [Region.wanted, hgd], fun w hS => ?_⟩
  unfold execOp
  simp only [ho, List.map_toArray, List.map_cons, List.map_nil, hx, Sem.run_bind, h, Result.andThen_ok, Sem.run_pure]
theorem build_it (n : Nat) (t : ByteArray) (W : World) : (Instr.build 50 #[(0, dgV n), (1, .string t)]).run Tryd.prog W = .ok (itV ⟨n, t⟩) W := by kernel_rfl
theorem build_st (A : Option Addr) (n c : Nat) (W : World) : (Instr.build 24 #[(0, .slice A n c)]).run Tryd.prog W = .ok (stV A n c) W := by kernel_rfl
theorem build1_T (x : It) (W : World) : (Instr.buildSlice 22 1 #[(0, itV x)]).run Tryd.prog W = .ok (.slice (some ⟨W.heap.size, 0, none⟩) 1 1) (W.alloc (.cells (itC x) 50)) := by kernel_rfl
theorem wp_lit1T {w : World} {o : Oper} {a : Act} {K : Act → World → Prop} {Q : Exit → Act → World → Prop} {y : Operand} {x : It} (ho : o.op = .buildSlice 22 1 #[(0, y)]) (hy : a.eval y = itV x)
    (h : ∀ w' g, g = w.heap.size → Blk w' g 50 (itC x) → Below w.heap.size w w' → g < w'.heap.size → K (a.put o.dst (.slice (some ⟨g, 0, none⟩) 1 1)) w') : o.wp Tryd.prog a w K Q := by
  have h2 := h _ _ rfl (Blk.new w _ _) ((Below.refl _ _).alloc (Nat.le_refl _) _) (Blk.new w _ _).lt
  unfold Oper.wp execOp
  simp only [ho, List.map_toArray, List.map_cons, List.map_nil, hy, build1_T, Sem.run_bind, Result.andThen_ok, Sem.run_pure]
  exact h2
theorem ret_st {A0 : Option Addr} {r : List It × Int} {w w9 : World} {A : Option Addr} {n c g : Nat} {t : TypeId} {a : Act} (hb : Blk w9 g t (stC A n c)) (hd : a.defers = []) (hp : a.tmps.getD 4 undef = .pointer (some ⟨g, 0, none⟩)) (h5 : a.tmps.getD 5 undef = .int .i64 r.2)
    (hr : RdT w9 A n r.1) (hnc : n ≤ c) (hcm : c ≤ maxLen) (hB : Below w.heap.size w w9) (hk : KA w w9 A0 A) : bodyPost Tryd.prog Tryd.f18 (AddIs A0 r w) .ret a w9 :=
  ret_blk2 rfl hd hp hb aggSt (by rw [sizeSt]; rfl) ⟨A, n, c, by rw [h5], hr, hnc, hcm, hB, hk⟩
theorem own_rdT {W : World} {B : Nat} {A : Option Addr} {n c : Nat} {l : List It} (h : W.ownsRow B 50 17 (.slice A n c) n (itsL l)) (hl : l.length = n) : RdT W A n l := by
  obtain ⟨A', c', hv', -, -, hr⟩ := ownsRow_form h
  injection hv' with e1 _ _
  subst e1
  exact ⟨hl, hr⟩
theorem add_fin {A0 : Option Addr} {l : List It} {w w4 wX w9 : World} {A6 : Option Addr} {n c6 g : Nat} {t : TypeId} {a : Act} (hown6 : wX.ownsRow w4.heap.size 50 17 (.slice A6 n c6) n (itsL l)) (hl : l.length = n) (h61 : n ≤ c6) (h62 : c6 ≤ maxLen) (ht9 : Turned g wX w9) (hb : Blk w9 g t (stC A6 n c6)) (hg4 : g < w4.heap.size) (hg : w.heap.size ≤ g)
    (hb0 : Below w.heap.size w w4) (hS : Below w4.heap.size w4 wX) (hd : a.defers = []) (hp : a.tmps.getD 4 undef = .pointer (some ⟨g, 0, none⟩)) (h5 : a.tmps.getD 5 undef = .int .i64 0) : bodyPost Tryd.prog Tryd.f18 (AddIs A0 (l, 0) w) .ret a w9 := by
  have hown9 := ht9.own hown6 (fun e => by have := (World.ownsRow.lt hown6 _ e).1; omega)
  have hz := hb0.size
  exact ret_st hb hd hp h5 (own_rdT hown9 hl) h61 h62 ((bstep hb0 hS).trans (ht9.below _ hg)) (KA.own hown9 hz)
set_option maxRecDepth 20000 in
set_option maxHeartbeats 8000000 in
theorem exAdd_any (l : List It) (A : Option Addr) (m c : Nat) (t : ByteArray) (w : World) (hm : m ≤ 1000) (hr : RdT w A m l) (hnc : m ≤ c) (hcm : c ≤ maxLen) (hl : ∀ x ∈ l, WfT x) (hs : SortedN (nms l)) (ht : t.size ≤ 400) (hg : GCon w) :
    Calls Tryd.prog 18 #[stV A m c, .string t] w (AddIs A (addS l t) w) := by
  obtain ⟨wa, hwa, hb0, q0, q1⟩ : ∃ wa : World, wa = (w.alloc (.cells (stC A m c) 24)).alloc (.cells (stC none 0 0) 24) ∧ Below w.heap.size w wa ∧ Blk wa w.heap.size 24 (stC A m c) ∧ Blk wa (w.heap.size + 1) 24 (stC none 0 0) :=
    ⟨_, rfl, ((Below.refl w.heap.size w).alloc (Nat.le_refl _) _).alloc (by simp) _, (Blk.new _ _ _).alloc _, Blk.new2 _ _ _ _⟩
  have HWA := Lib.hid hwa
  clear hwa
  have d1 : decide ((1048576 : Int) < t.size) = false := by rw [decide_eq_false_iff_not]; omega
  have hsz : t.size ≤ 9223372036854775807 := by omega
  have HN := Lib.hid (name_any t wa (by omega) (hg.below hb0))
  have HF := Lib.hid (fun W (h : RdT W A m l) => find_any l A m c (nameOf t) W (by omega) h hl hs (nameOf_lt t))
  have HCl := Lib.hid (fun W (h : RdT W A m l) => cloneTs_any A m c l W h (by omega))
  have HR := Lib.hid (hr.below hb0)
  have HRW := Lib.hid hr
  have HL := Lib.hid hr.len
  have HNC := Lib.hid hnc
  have HCM := Lib.hid hcm
  have hLe : lowN (nameOf t) (nms l) ≤ m := by have := lowN_le (nameOf t) (nms l); have := hr.len; simp at *; omega
  unfold addS insT
  have hMlt := nameOf_lt t
  generalize nameOf t = M at *
  have hk : Hid (lowN M (nms l) = lowN M (nms l)) := Lib.hid rfl
  have HBI := Lib.hid (build_it M t)
  cases hK : knownN M (nms l)
  · rw [hK] at HF
    simp only [Bool.false_eq_true, if_false]
    have dm : decide ((65536 : Int) ≤ m) = false := by rw [decide_eq_false_iff_not]; omega
    clear hr hl hs hg hk hK hnc hcm
    generalize lowN M (nms l) = L at *
    go_enter Tryd.func18, Tryd.ntmps18
    go_upto_region 1 with (fail)
    change Code.wp _ _ _ _ ((w.alloc (.cells (stC A m c) 24)).alloc (.cells (stC none 0 0) 24))
    rw [← HWA.out]
    go_wp2_with fail
    refine HN.out.mono ?_
    rintro e w1 ⟨rfl, hb1⟩
    go_upto_region 4 with (first
      | ((with_reducible show wpList _ _ _ _ _ _); refine wpList_new (cs := dgC 0) rfl rfl zeroDg ?_; intro w2 g6 hg6 q6 hb2 lt6; have HG6 := Lib.hid hg6; clear hg6)
      | ((with_reducible show wpList _ _ _ _ _ _); refine wpList_put (vs := dgC M) rfl rfl rfl rfl q6 (by rw [dgC_size, dgC_size]) (by rw [sizeDg, dgC_size]) (one_dgC _) ?_; intro w3 ht3 b6))
    have hb := bstep hb1 (hb2.trans (ht3.below _ (by have := HG6.out; omega)))
    replace q0 := q0.below hb
    replace q1 := q1.below hb
    have HR3 := Lib.hid (HR.out.below hb)
    have hg6w : wa.heap.size ≤ g6 := by have := HG6.out; have := hb1.size; omega
    replace hb0 := bstep hb0 hb
    clear hb hb1 hb2 ht3 q6 HG6 lt6
    go_upto_region 5 with (first
      | ((with_reducible show wpList _ _ _ _ _ _); refine wpList_loadRow rfl rfl rfl q0 aggSt (by rw [sizeSt]; rfl) ?_)
      | ((with_reducible show wpList _ _ _ _ _ _); refine wpList_loadRow rfl rfl rfl b6 aggDg (by rw [sizeDg, dgC_size]) ?_))
    refine (HF.out _ HR3.out).mono ?_
    rintro e w4 ⟨rfl, hb⟩
    replace q0 := q0.below hb
    replace q1 := q1.below hb
    replace b6 := b6.below hb
    have HR4 := Lib.hid (HR3.out.below hb)
    replace hb0 := bstep hb0 hb
    clear hb HF HR3 HR
    have c0 := q0.cell 0
    simp only [List.getElem?_toArray, List.getElem?_cons_zero] at c0
    go_upto_region 9 with fail
    have hS : Below w4.heap.size w4 w4.drew := (Below.refl _ w4).drew
    have hbi := HBI.out
    have lt1 := q1.lt
    have hz := hb0.size
    refine wp_region_TB (S := Below (w4).heap.size (w4)) 10 (by kernel_rfl) ?_
    refine WpT.take (i := 0) rfl (by kernel_rfl) (fun _ _ _ h => h) (.inl ⟨by rfl, fun w hSw => by clear hSw; go_simp; (try go_bits); (try rw [if_pos (by omega)]); (try with_reducible rfl)⟩) (hS) ?_
    try simp only [nrm]
    refine WpT.take (i := 1) rfl (by kernel_rfl) (fun _ _ _ h => h) (yields_load rfl rfl rfl (by kernel_rfl) c0) (hS) ?_
    try simp only [nrm]
    refine WpT.take (i := 3) rfl (by kernel_rfl) (fun _ _ _ h => h) (.inl ⟨by rfl, fun w hSw => by clear hSw; go_simp; (try go_bits); (try rw [if_pos (by omega)]); (try with_reducible rfl)⟩) (hS) ?_
    try simp only [nrm]
    refine WpT.take (i := 4) rfl (by kernel_rfl) (fun _ _ _ h => h) (yields_blk rfl rfl rfl aggDg (by rw [sizeDg, dgC_size]) b6) (hS) ?_
    try simp only [nrm]
    refine WpT.take (i := 5) rfl (by kernel_rfl) (fun _ _ _ h => h) (.inl ⟨by rfl, fun w hSw => by clear hSw; go_simp; (try go_bits); (try rw [if_pos (by omega)]); (try with_reducible rfl)⟩) (hS) ?_
    try simp only [nrm]
    refine WpT.take (i := 6) rfl (by kernel_rfl) (fun _ _ _ h => h) (yields_build2 rfl rfl (by rfl) (by rfl) hbi) (hS) ?_
    try simp only [nrm]
    refine WpT.fork (i := 2) (j := 7) rfl rfl (by kernel_rfl) (fun K hK => ?_) (fun K hK => ?_)
    · go_simp; refine (HCl.out _ (HR4.out.below hS)).mono ?_; rintro e w5 ⟨v5, rfl, hown5, hb5⟩; (try have hne : v5.ownBlock ≠ some gJ := (fun e => by have h1 := (World.ownsRow.lt hown5 _ e).1; have h2 := bJ.lt; omega)); replace hown5 := ownsRow_lower hown5 hS.size; (try replace bJ := bJ.below hb5); replace hS := bstep hS hb5
      refine hK _ _ (hS) ?_; clear hK K; try simp only [nrm]
      refine WpT.one (i := 7) rfl (by kernel_rfl) (fun K hK => ?_)
      refine wp_lit1T (x := ⟨M, t⟩) rfl (by rfl) ?_; intro wJ gJ hgJ bJ hbJ ltJ; (try have hne := own_ne_new hown5 hgJ); (try replace hown5 := ownsRow_below hown5 hbJ); clear hgJ; replace hS := bstep hS hbJ
      refine hK _ _ (hS) ?_; clear hK K; try simp only [nrm]
      refine WpT.one (i := 8) rfl (by kernel_rfl) (fun K hK => ?_)
      go_simp; refine (insertT_any l ⟨M, t⟩ L _ (n := m) (by rw [← HL.out]; exact hown5) HL.out hLe hm gJ bJ hne hS.size).mono ?_; rintro e w6 ⟨v6, rfl, hown6, hb6⟩; replace hS := hS.trans hb6; obtain ⟨A6, c6, rfl, h61, h62, hr6⟩ := ownsRow_form hown6; have hbs := build_st A6 (m + 1) c6
      refine hK _ _ (hS) ?_; clear hK K; try simp only [nrm]
      refine WpT.take (i := 9) rfl (by kernel_rfl) (fun _ _ _ h => h) (yields_build1 rfl rfl (by rfl) hbs) (hS) ?_
      try simp only [nrm]
      refine WpT.tail (i := 10) rfl (by kernel_rfl) (by kernel_rfl) (fun K hK => ?_)
      refine wp_put (vs := stC A6 (m + 1) c6) rfl (by rfl) (by rfl) (q1.below hS) rfl (by kernel_rfl) (by simp [Value.oneCell']) ?_; intro w9 ht9 b9
      refine hK _ _ ?_; clear hK K; try simp only [nrm]
      refine WpT.tail (i := 11) rfl (by kernel_rfl) (by kernel_rfl) (fun K hK => ?_)
      go_simp; (try go_bits)
      refine hK _ _ ?_; clear hK K; try simp only [nrm]
      refine WpT.done (by kernel_rfl) ?_ _
      go_wp2_with fail; exact add_fin hown6 (by have := HL.out; simp; omega) h61 h62 ht9 b9 lt1 (by omega) hb0 hS rfl rfl rfl
    · refine wp_lit1T (x := ⟨M, t⟩) rfl (by rfl) ?_; intro wJ gJ hgJ bJ hbJ ltJ; (try have hne := own_ne_new hown5 hgJ); (try replace hown5 := ownsRow_below hown5 hbJ); clear hgJ; replace hS := bstep hS hbJ
      refine hK _ _ (hS) ?_; clear hK K; try simp only [nrm]
      refine WpT.one (i := 2) rfl (by kernel_rfl) (fun K hK => ?_)
      go_simp; refine (HCl.out _ (HR4.out.below hS)).mono ?_; rintro e w5 ⟨v5, rfl, hown5, hb5⟩; (try have hne : v5.ownBlock ≠ some gJ := (fun e => by have h1 := (World.ownsRow.lt hown5 _ e).1; have h2 := bJ.lt; omega)); replace hown5 := ownsRow_lower hown5 hS.size; (try replace bJ := bJ.below hb5); replace hS := bstep hS hb5
      refine hK _ _ (hS) ?_; clear hK K; try simp only [nrm]
      refine WpT.one (i := 8) rfl (by kernel_rfl) (fun K hK => ?_)
      go_simp; refine (insertT_any l ⟨M, t⟩ L _ (n := m) (by rw [← HL.out]; exact hown5) HL.out hLe hm gJ bJ hne hS.size).mono ?_; rintro e w6 ⟨v6, rfl, hown6, hb6⟩; replace hS := hS.trans hb6; obtain ⟨A6, c6, rfl, h61, h62, hr6⟩ := ownsRow_form hown6; have hbs := build_st A6 (m + 1) c6
      refine hK _ _ (hS) ?_; clear hK K; try simp only [nrm]
      refine WpT.take (i := 9) rfl (by kernel_rfl) (fun _ _ _ h => h) (yields_build1 rfl rfl (by rfl) hbs) (hS) ?_
      try simp only [nrm]
      refine WpT.tail (i := 10) rfl (by kernel_rfl) (by kernel_rfl) (fun K hK => ?_)
      refine wp_put (vs := stC A6 (m + 1) c6) rfl (by rfl) (by rfl) (q1.below hS) rfl (by kernel_rfl) (by simp [Value.oneCell']) ?_; intro w9 ht9 b9
      refine hK _ _ ?_; clear hK K; try simp only [nrm]
      refine WpT.tail (i := 11) rfl (by kernel_rfl) (by kernel_rfl) (fun K hK => ?_)
      go_simp; (try go_bits)
      refine hK _ _ ?_; clear hK K; try simp only [nrm]
      refine WpT.done (by kernel_rfl) ?_ _
      go_wp2_with fail; exact add_fin hown6 (by have := HL.out; simp; omega) h61 h62 ht9 b9 lt1 (by omega) hb0 hS rfl rfl rfl
  · rw [hK] at HF
    simp only [if_true]
    clear hr hl hs hg hk hK hnc hcm
    generalize lowN M (nms l) = L at *
    go_enter Tryd.func18, Tryd.ntmps18
    go_upto_region 1 with (fail)
    change Code.wp _ _ _ _ ((w.alloc (.cells (stC A m c) 24)).alloc (.cells (stC none 0 0) 24))
    rw [← HWA.out]
    go_wp2_with fail
    refine HN.out.mono ?_
    rintro e w1 ⟨rfl, hb1⟩
    go_upto_region 4 with (first
      | ((with_reducible show wpList _ _ _ _ _ _); refine wpList_new (cs := dgC 0) rfl rfl zeroDg ?_; intro w2 g6 hg6 q6 hb2 lt6; have HG6 := Lib.hid hg6; clear hg6)
      | ((with_reducible show wpList _ _ _ _ _ _); refine wpList_put (vs := dgC M) rfl rfl rfl rfl q6 (by rw [dgC_size, dgC_size]) (by rw [sizeDg, dgC_size]) (one_dgC _) ?_; intro w3 ht3 b6))
    have hb := bstep hb1 (hb2.trans (ht3.below _ (by have := HG6.out; omega)))
    replace q0 := q0.below hb
    replace q1 := q1.below hb
    have HR3 := Lib.hid (HR.out.below hb)
    replace hb0 := bstep hb0 hb
    clear hb hb1 hb2 ht3 q6 HG6 lt6
    go_upto_region 5 with (first
      | ((with_reducible show wpList _ _ _ _ _ _); refine wpList_loadRow rfl rfl rfl q0 aggSt (by rw [sizeSt]; rfl) ?_)
      | ((with_reducible show wpList _ _ _ _ _ _); refine wpList_loadRow rfl rfl rfl b6 aggDg (by rw [sizeDg, dgC_size]) ?_))
    refine (HF.out _ HR3.out).mono ?_
    rintro e w4 ⟨rfl, hb⟩
    replace q0 := q0.below hb
    replace q1 := q1.below hb
    have HR4 := Lib.hid (HR3.out.below hb)
    replace hb0 := bstep hb0 hb
    clear hb HF HR3 HR b6
    go_wp2_with (first
      | ((with_reducible show wpList _ _ _ _ _ _); refine wpList_loadRow rfl rfl rfl q0 aggSt (by rw [sizeSt]; rfl) ?_)
      | ((with_reducible show wpList _ _ _ _ _ _); refine wpList_put (vs := stC A m c) rfl rfl rfl rfl q1 rfl (by rw [sizeSt]; rfl) (by simp [Value.oneCell']) ?_; intro w9 ht9 b9))
    have hB9 : Below w4.heap.size w4 w4 := Below.refl _ _
    have hB := hb0.trans (ht9.below _ (by omega))
    refine ret_st b9 rfl rfl rfl ?_ HNC.out HCM.out hB (KA.refl _ _)
    exact HRW.out.below hB
end Go.Proofs.YtieamjjnofelcaaDoor
