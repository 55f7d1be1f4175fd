/-
  (*strings.byteStringReplacer).Replace: a quote and a backslash come behind a backslash. Conditions: the Replacer is built.
-/
import Derived.Test.YtiajmdmofjfdcaaGreatDoorRa3
import Derived.Laws.CopyRow
namespace Go.Proofs.YtiajmdmofjfdcaaGreatDoor.Lexr
set_option linter.unusedSimpArgs false
set_option linter.unusedVariables false
def isE (b : UInt8) : Bool := decide (b.toNat = 34) || decide (b.toNat = 92)
def eC (l : List UInt8) : Nat := l.countP isE
theorem escL_nil : escL [] = [] := rfl
theorem escL_cons (b : UInt8) (l : List UInt8) : escL (b :: l) = (if isE b then [92, b] else [b]) ++ escL l := by
  unfold escL isE
  rw [List.flatMap_cons]
  by_cases h : b.toNat = 34 ∨ b.toNat = 92
  · rw [if_pos h, if_pos (by simpa using h)]
  · rw [if_neg h, if_neg (by simpa using h)]
theorem escL_app (a b : List UInt8) : escL (a ++ b) = escL a ++ escL b := by unfold escL; rw [List.flatMap_append]
theorem escL_len : ∀ l : List UInt8, (escL l).length = l.length + eC l
  | [] => rfl
  | b :: l => by
    have ih := escL_len l
    rw [escL_cons, List.length_append, ih]
    unfold eC
    by_cases h : isE b = true
    · rw [if_pos h, List.countP_cons_of_pos h]; simp; omega
    · rw [if_neg h, List.countP_cons_of_neg h]; simp; omega
theorem escL_none : ∀ l : List UInt8, eC l = 0 → escL l = l
  | [], _ => rfl
  | b :: l, h => by
    by_cases hb : isE b = true
    · unfold eC at h; rw [List.countP_cons_of_pos hb] at h; omega
    · have h2 : eC l = 0 := by unfold eC at h ⊢; rwa [List.countP_cons_of_neg hb] at h
      rw [escL_cons, if_neg hb, escL_none l h2]; rfl
theorem isE_eq (b : UInt8) : isE b = (b == 92 || b == 34) := by
  unfold isE
  rw [Bool.eq_iff_iff]
  simp only [Bool.or_eq_true, decide_eq_true_eq, beq_iff_eq]
  constructor
  · rintro (h | h)
    · exact .inr (UInt8.toNat_inj.1 h)
    · exact .inl (UInt8.toNat_inj.1 h)
  · rintro (rfl | rfl)
    · exact .inr rfl
    · exact .inl rfl
theorem eC_count : ∀ l : List UInt8, eC l = l.count 92 + l.count 34
  | [] => rfl
  | b :: l => by
    have ih := eC_count l
    unfold eC at ih ⊢
    rw [List.countP_cons, ih, List.count_cons, List.count_cons, isE_eq]
    by_cases h1 : b = 92
    · subst h1; simp; omega
    · by_cases h2 : b = 34
      · subst h2; simp; omega
      · simp [h1, h2]
theorem take_snoc (l : List UInt8) (k : Nat) (h : k < l.length) : l.take (k + 1) = l.take k ++ [l[k]] := (List.take_append_getElem h).symm
theorem escL_take (l : List UInt8) (k : Nat) (h : k < l.length) : escL (l.take (k + 1)) = escL (l.take k) ++ (if isE l[k] then [92, l[k]] else [l[k]]) := by
  rw [take_snoc l k h, escL_app, escL_cons, escL_nil, List.append_nil]
theorem eC_take (l : List UInt8) (k : Nat) (h : k < l.length) : eC (l.take (k + 1)) = eC (l.take k) + (if isE l[k] then 1 else 0) := by
  unfold eC
  rw [take_snoc l k h, List.countP_append, List.countP_cons, List.countP_nil, Nat.zero_add]
theorem escL_le (l : List UInt8) (k : Nat) : (escL (l.take k)).length ≤ (escL l).length := by
  have := congrArg List.length (congrArg escL (List.take_append_drop k l))
  rw [escL_app, List.length_append] at this
  omega
theorem eC_le (l : List UInt8) : eC l ≤ l.length := List.countP_le_length
theorem eC_take_le (l : List UInt8) (k : Nat) : eC (l.take k) ≤ k := Nat.le_trans (eC_le _) (by rw [List.length_take]; exact Nat.min_le_left _ _)
theorem buf_copy (X : List UInt8) (m : Nat) (b : UInt8) (h : 2 ≤ m) :
    (bv (X ++ List.replicate m 0)).take X.length ++ bv [92, b] ++ (bv (X ++ List.replicate m 0)).drop (X.length + 2) = bv (X ++ [92, b] ++ List.replicate (m - 2) 0) := by
  unfold bv
  rw [← List.map_take, ← List.map_drop, ← List.map_append, ← List.map_append]
  congr 1
  rw [List.take_left', List.append_assoc, List.append_assoc]
  · congr 2
    rw [List.drop_append, List.drop_of_length_le (by omega), List.nil_append, List.drop_replicate]
    congr 1; omega
  · rfl
end Go.Proofs.YtiajmdmofjfdcaaGreatDoor.Lexr
namespace Go.Proofs.YtiajmdmofjfdcaaGreatDoor
set_option linter.unusedSimpArgs false
set_option linter.unusedVariables false
open Go.RowKit Lexr

theorem buf_store (X : List UInt8) (m : Nat) (b : UInt8) (h : 1 ≤ m) : (bv (X ++ List.replicate m 0)).toArray.setIfInBounds X.length (.int .u8 (b.toNat : Nat)) = (bv (X ++ [b] ++ List.replicate (m - 1) 0)).toArray := by
  obtain ⟨n, rfl⟩ : ∃ n, m = n + 1 := ⟨m - 1, by omega⟩
  rw [List.setIfInBounds_toArray]
  congr 1
  unfold bv
  rw [List.replicate_succ, List.map_append, List.map_cons, List.set_append_right _ _ (by simp)]
  simp
section
variable {W : World} {g : Nat}
theorem BsAt.esc (h : BsAt W g) {b : UInt8} (hb : isE b = true) : ∃ ad c, W.cell? ⟨g, b.toNat, none⟩ = some (.slice (some ad) 2 c) ∧ Rd W (some ad) 2 (bv [92, b]) := by
  obtain ⟨f, v, h1, h2, ⟨a1, c1, e1, r1⟩, ⟨a2, c2, e2, r2⟩, h5⟩ := h.row
  have hlt := b.toNat_lt
  have hc := h1.cell (b := b.toNat) (by omega)
  unfold isE at hb
  simp only [Bool.or_eq_true, decide_eq_true_eq] at hb
  rcases hb with hb | hb
  · obtain rfl : b = 34 := UInt8.toNat_inj.1 hb
    have hr := r1.rd
    obtain ⟨ad, rfl, -⟩ := hr.get (k := 0) (by decide)
    exact ⟨ad, c1, by rw [hc]; exact congrArg some e1, hr⟩
  · obtain rfl : b = 92 := UInt8.toNat_inj.1 hb
    have hr := r2.rd
    obtain ⟨ad, rfl, -⟩ := hr.get (k := 0) (by decide)
    exact ⟨ad, c2, by rw [hc]; exact congrArg some e2, hr⟩
theorem BsAt.plain (h : BsAt W g) {b : UInt8} (hb : isE b = false) : W.cell? ⟨g, b.toNat, none⟩ = some (.slice none 0 0) := by
  obtain ⟨f, v, h1, h2, _⟩ := h.row
  have hlt := b.toNat_lt
  unfold isE at hb
  simp only [Bool.or_eq_false_iff, decide_eq_false_iff_not] at hb
  rw [h1.cell (b := b.toNat) (by omega), h2 _ (by omega) hb.1 hb.2]
theorem BsAt.list (h : BsAt W g) : ∃ A c, W.cell? ⟨g, 256, none⟩ = some (.slice A 2 c) ∧ Rd W A 2 (sv [⟨#[92]⟩, ⟨#[34]⟩]) := by
  obtain ⟨f, v, h1, h2, _, _, B, h5⟩ := h.row
  obtain ⟨A, c, rfl, _, _, hr⟩ := Own.form h5
  exact ⟨A, c, h1.list, hr⟩
end
theorem neq_nilN (W : World) : (binOp .neq 47 (.slice none 0 0) (.slice none 0 0)).run Tryz.prog W = .ok (.bool false) W := by kernel_rfl
theorem neq_nilS (ad : Addr) (n c : Nat) (W : World) : (binOp .neq 47 (.slice (some ad) n c) (.slice none 0 0)).run Tryz.prog W = .ok (.bool true) W := by kernel_rfl
theorem make_By (n : Nat) (W : World) (hn : n ≤ 1073741824) :
    (Instr.makeSlice 47 (.int .i64 (n : Nat)) (.int .i64 (n : Nat))).run Tryz.prog W = .ok (.slice (some ⟨W.heap.size, 0, none⟩) n n) (W.alloc (.cells (bv (List.replicate n 0)).toArray 5)) := by
  obtain ⟨i, h1, h2, h3, h4⟩ := info_parts (show (Tryz.prog.info? 5).map (fun i => (i.zero, i.size, i.bytes)) = some (some (.int .u8 0), 1, 1) by kernel_rfl)
  rw [run_make W 47 5 i (.int .u8 0) (by kernel_rfl) h1 h2 .i64 .i64 n n (by omega) (Int.le_refl _) (by rw [h4]; omega) (by omega), h3]
  have e : madeCells (Value.int .u8 0).cells (((n : Nat) : Int).toNat * 1) = (bv (List.replicate n 0)).toArray := by
    apply Array.ext
    · simp [madeCells]
    · intro j _ _
      simp [madeCells, Value.cells, bv, Nat.mod_one]
  rw [e]
  simp
theorem wpList_makeBy {w : World} {ops : Array Oper} {rest : List Oper} {o : Oper} {a : Act} {Q : Exit → Act → World → Prop} (hgd : o.guard = none) {x y : Operand} {n : Nat} (ho : o.op = .makeSlice 47 x y) (hx : a.eval x = .int .i64 (n : Nat)) (hy : a.eval y = .int .i64 (n : Nat)) (hn : n ≤ 1073741824)
    (h : ∀ w' g, g = w.heap.size → Blk w' g 5 (bv (List.replicate n 0)).toArray → Below w.heap.size w w' → g < w'.heap.size → wpList Tryz.prog ops Q rest (a.put o.dst (.slice (some ⟨g, 0, none⟩) n n)) w') : wpList Tryz.prog ops Q (o :: rest) a w := by
  refine wpList_plain hgd fun K hK => ?_
  have h2 := hK _ _ (h _ _ rfl (Blk.new w 5 (bv (List.replicate n 0)).toArray) ((Below.refl _ _).alloc (Nat.le_refl _) _) (Blk.new _ _ _).lt)
  unfold Oper.wp execOp
  simp only [ho, hx, hy, make_By n w hn, Sem.run_bind, Result.andThen_ok, Sem.run_pure]
  exact h2
theorem yields_dropBy {ops : Array Oper} {S : World → Prop} {o : Oper} {a : Act} (hgd : o.guard = none) {x y : Operand} (ho : o.op = .slice 47 x (some y) none none) {g m k mk : Nat} (hx : a.eval x = .slice (some ⟨g, 0, none⟩) m m) (hy : a.eval y = .int .i64 (k : Int)) (hk : k < m)
    (hm : m - k = mk) : YieldsIf Tryz.prog ops S o (.slice (some ⟨g, k, none⟩) mk mk) a := by
  refine .inl ⟨by simp [Region.wanted, hgd], fun w hS => ?_⟩
  have hu : Tryz.prog.underlying 47 = some (.slice (Tryz.prog.elem 47)) := by kernel_rfl
  have hsz : (sizeOf (Tryz.prog.elem 47)).run Tryz.prog w = .ok 1 w := by kernel_rfl
  have hadd : (⟨g, 0, none⟩ : Addr).add k = ⟨g, k, none⟩ := by unfold Addr.add; split <;> simp_all
  have hr : (Instr.sliceAt 47 (.slice (some ⟨g, 0, none⟩) m m) (some (.int .i64 (k : Int))) none none).run Tryz.prog w = .ok (.slice (some ⟨g, k, none⟩) mk mk) w := by
    rw [run_sliceAt_slice w _ _ _ _ _ hu, run_slice_l w _ (some ⟨g, 0, none⟩) m m hu .i64 (k : Int) (by omega) (by omega), hsz]
    have e : ¬ m = k := by omega
    simp [Result.andThen, sliced, e, hadd, hm]
  unfold execOp
  simp only [ho, hx, hy, Option.map_some, Option.map_none, Sem.run_bind, hr, Result.andThen_ok, Sem.run_pure]
section
variable {P : Program}
theorem Turned.ofRow (w : World) (g : Nat) (cs : Array Value) : Turned g w (w.setRow g cs) :=
  ⟨fun B hB => ⟨rfl, rfl, rfl, by simp [World.setRow], fun k hk => setRow_other w g k cs (by omega)⟩, by simp [World.setRow], fun k hk => setRow_other w g k cs hk⟩
theorem run_copyR (w : World) (dT sT ty elem : TypeId) (k g o dLen dCap : Nat) (a : Addr) (sLen sCap r : Nat) (cur : Array Value) (t : TypeId) (cs : List Value)
    (hu : P.underlying dT = some (.slice elem)) (hs : (P.info? elem).map (·.size) = some k) (hg : Blk w g t cur) (hr : Nat.min sLen dLen = r) (hn : cs.length = r * k)
    (hsrc : ∀ j v, cs[j]? = some v → w.cell? (a.add j) = some v) (hfit : o + cs.length ≤ cur.size) (h1 : ∀ v ∈ cs, v.oneCell' = true) :
    (Builtin.copy_ #[dT, sT] ty #[.slice (some ⟨g, o, none⟩) dLen dCap, .slice (some a) sLen sCap]).run P w =
      .ok (goInt r) (w.setRow g (cur.toList.take o ++ cs ++ cur.toList.drop (o + cs.length)).toArray) := by
  have hl := run_loadCells_list (P := P) w a cs hsrc
  have hst := run_storeCells_at P g o t cs 0 cur w hg (by simpa using hfit) h1
  cases hq : P.info? elem with
  | none => simp [hq] at hs
  | some i =>
    have hi : i.size = k := by simpa [hq] using hs
    rw [hn] at hl
    simp [Builtin.copy_, run_underlying hu, Builtin.lenOf, Builtin.firstCells, sizeOf, typeInfo, hq, hi, hr, hl, hst]
theorem wp_copyR {w : World} {o : Oper} {a : Act} {K : Act → World → Prop} {Q : Exit → Act → World → Prop} {d s : Operand} {dT sT elem : TypeId} {k g off dLen dCap : Nat} {p : Addr} {sLen sCap : Nat} (r : Nat) {cur : Array Value} {t : TypeId} (cs : List Value)
    (ho : o.op = .call { callee := .builtin .copy, args := #[d, s], argTypes := #[dT, sT] }) (hd : a.eval d = .slice (some ⟨g, off, none⟩) dLen dCap) (hsv : a.eval s = .slice (some p) sLen sCap)
    (hu : P.underlying dT = some (.slice elem)) (hs : (P.info? elem).map (·.size) = some k) (hb : Blk w g t cur) (hr : Nat.min sLen dLen = r) (hn : cs.length = r * k)
    (hsrc : ∀ j v, cs[j]? = some v → w.cell? (p.add j) = some v) (hfit : off + cs.length ≤ cur.size) (h1 : ∀ v ∈ cs, v.oneCell' = true)
    (h : ∀ w', Turned g w w' → Blk w' g t (cur.toList.take off ++ cs ++ cur.toList.drop (off + cs.length)).toArray → K (a.put o.dst (goInt r)) w') : o.wp P a w K Q := by
  have hrun := run_copyR (P := P) w dT sT o.type elem k g off dLen dCap p sLen sCap r cur t cs hu hs hb hr hn hsrc hfit h1
  unfold Oper.wp execOp
  simp only [ho, resolve, invoke, builtin, Sem.run_bind, Sem.run_pure, Result.andThen_ok, List.map_toArray, List.map_cons, List.map_nil, hd, hsv, hrun]
  exact h _ (Turned.ofRow _ _ _) (setRow_heap w g cur _ t (0, 0) hb)
end
theorem BsAt.turnedBy {W W' : World} {g k : Nat} {cs : Array Value} {B : Nat} (h : BsAt W g) (hb : B ≤ k) (hW : ∃ W0 : World, BsAt W0 g ∧ Below B W0 W ∧ W0.heap.size ≤ B) (ht : Turned k W W') : BsAt W' g := by
  obtain ⟨W0, h0, hw, hs⟩ := hW
  exact h0.below ((hw.trans (ht.below _ hb)).mono hs)

set_option maxRecDepth 20000 in
set_option maxHeartbeats 8000000 in
theorem bsr_big (s : ByteArray) (g : Nat) (w : World) (hbs : BsAt w g) (hs : s.size ≤ 268435456) (hc : 16 ≤ s.size) :
    Calls Tryz.prog 179 #[.pointer (some ⟨g, 0, none⟩), .string s] w fun e w' => e = .returned (.string ⟨(escL s.data.toList).toArray⟩) ∧ Below w.heap.size w w' := by
  have hl : s.data.toList.length = s.size := (Lib.size_eq s).symm
  have HL := Lib.hid hl
  have HBS := Lib.hid (fun W (h : Below w.heap.size w W) => hbs.below h)
  have hnot : ∀ (x : Bool) (w : World), (Op.unary .not (.bool x)).run Tryz.prog w = .ok (.bool (!x)) w := fun _ _ => rfl
  obtain ⟨A0, c0, cl0, hr0⟩ := hbs.list
  have HR0 := Lib.hid hr0
  have HEC := Lib.hid (eC_count s.data.toList)
  have HE0 : Hid (eC s.data.toList = 0 → (⟨(escL s.data.toList).toArray⟩ : ByteArray) = s) := Lib.hid (fun h => by rw [escL_none _ h])
  have HECT : Hid (eC (s.data.toList.take s.size) = eC s.data.toList) := Lib.hid (by rw [List.take_of_length_le (Nat.le_of_eq hl)])
  have HEL : Hid ((escL s.data.toList).length = s.size + eC s.data.toList) := Lib.hid (by rw [escL_len, hl])
  have HLEA := Lib.hid (fun k => escL_le s.data.toList k)
  have HEND : Hid (escL (s.data.toList.take s.size) = escL s.data.toList) := Lib.hid (by rw [List.take_of_length_le (Nat.le_of_eq hl)])
  obtain ⟨EL, hEL⟩ : ∃ EL, escL s.data.toList = EL := ⟨_, rfl⟩
  rw [hEL] at HE0 HEL HEND HLEA ⊢
  clear hEL
  have HELE : Hid (eC s.data.toList ≤ s.size) := Lib.hid (by rw [← hl]; exact eC_le _)
  have dk : decide ((16 : Int) ≤ (s.size : Int)) = true := by rw [decide_eq_true_eq]; omega
  have dkn : decide (16 ≤ s.size) = true := by rw [decide_eq_true_eq]; omega
  clear hbs hr0 hl hc
  obtain ⟨ad0, rfl, -⟩ := HR0.out.get (k := 0) (by omega)
  have HCNT := Lib.hid (fun W (c : UInt8) => Tryz.strings_Count_one s c W)
  obtain ⟨n92, hn92⟩ : ∃ n, Lib.countByte s.data.toList 92 = n := ⟨_, rfl⟩
  obtain ⟨n34, hn34⟩ : ∃ n, Lib.countByte s.data.toList 34 = n := ⟨_, rfl⟩
  have HN92 : Hid (n92 ≤ s.size ∧ n34 ≤ s.size) := Lib.hid (by
    have h1 : Lib.countByte s.data.toList 92 ≤ s.data.toList.length := List.count_le_length
    have h2 : Lib.countByte s.data.toList 34 ≤ s.data.toList.length := List.count_le_length
    rw [HL.out] at h1 h2; omega)
  have HEE : Hid (eC s.data.toList = n92 + n34) := Lib.hid (by rw [← hn92, ← hn34, HEC.out]; rfl)
  have H92 := Lib.hid hn92
  have H34 := Lib.hid hn34
  clear hn92 hn34 HEC
  have HBw := Lib.hid (Below.refl w.heap.size w)
  go_enter Tryz.func179, Tryz.ntmps179
  go_wp2_with fail
  go_loopw [5, 6, 8, 9, 32] (fun v5 v6 _ _ v32 wr => ∃ k n : Nat, k ≤ 2 ∧ v32 = .int .i64 k ∧ v5 = .int .i64 ((s.size : Int) + n) ∧ v6 = .bool (decide (n ≠ 0)) ∧ Hid (n = (if k = 0 then 0 else if k = 1 then n92 else n92 + n34)) ∧ Hid (Below w.heap.size w wr)) (fun _ _ _ _ v32 _ => 2 - (intOf v32).toNat)
  case atStart => exact ⟨0, 0, by omega, rfl, by simp, rfl, Lib.hid rfl, HBw⟩
  case round =>
    obtain ⟨k, n, hk, rfl, rfl, rfl, HN, HW⟩ := hrel
    have hN1 := HN92.out.1
    have hN2 := HN92.out.2
    rcases (by omega : k = 0 ∨ k = 1 ∨ k = 2) with rfl | rfl | rfl
    · obtain rfl : 0 = n := by have := HN.out; simpa using this.symm
      obtain ⟨q0, e0⟩ : ∃ q, wr.cell? ad0 = some q ∧ q = .string ⟨#[92]⟩ := ⟨_, by
        obtain ⟨_, e, h⟩ := (HR0.out.below HW.out).get (k := 0) (by omega); injection e with e; subst e
        rw [show ad0.add 0 = ad0 by unfold Addr.add; rw [if_pos rfl]] at h
        exact h, rfl⟩
      obtain ⟨cq, rfl⟩ := e0
      have hi : ∀ h, ((⟨#[92]⟩ : ByteArray)[0]'h).toNat = 92 := fun _ => rfl
      go_wp2_with fail
      have HC := HCNT.out wr 92
      rw [H92.out] at HC
      refine HC.mono ?_
      rintro e w1 ⟨rfl, rfl⟩
      clear HC
      obtain ⟨ad, cc, hcc, hrr⟩ := (HBS.out _ HW.out).esc (b := 92) (by decide)
      clear hrr
      rw [show ((92 : UInt8).toNat) = 92 from rfl] at hcc
      by_cases hz : n92 = 0
      · have HZ0 := Lib.hid hz
        have dz : ((n92 : Int) != 0) = false := by simp [hz]
        clear hz
        go_wp2_with fail
        refine ⟨⟨1, 0, by omega, ?_, rfl, ?_, Lib.hid ?_, HW⟩, by simp [intOf]⟩
        · simp
        · simp
        · simp [HZ0.out]
      · have dz : ((n92 : Int) != 0) = true := by simp; omega
        have HZ0 := Lib.hid hz
        clear hz
        go_upto_region 9 with fail
        refine wp_region_T 13 (by kernel_rfl) ?_
        -- region 9: 14 operations, tail from 13
        refine WpT.take (i := 0) rfl (by kernel_rfl) (fun _ _ _ h => h) (.inl ⟨by rfl, fun w hSw => by clear hSw; go_simp; (try go_bits); (try rw [if_pos (by omega)]); (try with_reducible rfl)⟩) ((Below.refl _ _).drew) ?_
        try simp only [Act.put, List.setIfInBounds_toArray, List.set_cons_zero, List.set_cons_succ]
        refine WpT.take (i := 1) rfl (by kernel_rfl) (fun _ _ _ h => h) (.inl ⟨by rfl, fun w hSw => by clear hSw; go_simp; (try go_bits); (try rw [if_pos (by omega)]); (try with_reducible rfl)⟩) ((Below.refl _ _).drew) ?_
        try simp only [Act.put, List.setIfInBounds_toArray, List.set_cons_zero, List.set_cons_succ]
        refine WpT.take (i := 2) rfl (by kernel_rfl) (fun _ _ _ h => h) (.inl ⟨by rfl, fun w hSw => by clear hSw; go_simp; (try go_bits); (try rw [if_pos (by omega)]); (try with_reducible rfl)⟩) ((Below.refl _ _).drew) ?_
        try simp only [Act.put, List.setIfInBounds_toArray, List.set_cons_zero, List.set_cons_succ]
        refine WpT.take (i := 3) rfl (by kernel_rfl) (fun _ _ _ h => h) (.inl ⟨by rfl, fun w hSw => by clear hSw; go_simp; (try go_bits); (try rw [if_pos (by omega)]); (try with_reducible rfl)⟩) ((Below.refl _ _).drew) ?_
        try simp only [Act.put, List.setIfInBounds_toArray, List.set_cons_zero, List.set_cons_succ]
        refine WpT.take (i := 4) rfl (by kernel_rfl) (fun _ _ _ h => h) (.inl ⟨by rfl, fun w hSw => by clear hSw; go_simp; (try go_bits); (try rw [if_pos (by omega)]); (try with_reducible rfl)⟩) ((Below.refl _ _).drew) ?_
        try simp only [Act.put, List.setIfInBounds_toArray, List.set_cons_zero, List.set_cons_succ]
        refine WpT.take (i := 5) rfl (by kernel_rfl) (fun _ _ _ h => h) (.inl ⟨by rfl, fun w hSw => by clear hSw; go_simp; (try go_bits); (try rw [if_pos (by omega)]); (try with_reducible rfl)⟩) ((Below.refl _ _).drew) ?_
        try simp only [Act.put, List.setIfInBounds_toArray, List.set_cons_zero, List.set_cons_succ]
        refine WpT.take (i := 6) rfl (by kernel_rfl) (fun _ _ _ h => h) (.inl ⟨by rfl, fun w hSw => by clear hSw; go_simp; (try go_bits); (try rw [if_pos (by omega)]); (try with_reducible rfl)⟩) ((Below.refl _ _).drew) ?_
        try simp only [Act.put, List.setIfInBounds_toArray, List.set_cons_zero, List.set_cons_succ]
        refine WpT.take (i := 7) rfl (by kernel_rfl) (fun _ _ _ h => h) (.inl ⟨by rfl, fun w hSw => by clear hSw; go_simp; (try go_bits); (try rw [if_pos (by omega)]); (try with_reducible rfl)⟩) ((Below.refl _ _).drew) ?_
        try simp only [Act.put, List.setIfInBounds_toArray, List.set_cons_zero, List.set_cons_succ]
        refine WpT.take (i := 8) rfl (by kernel_rfl) (fun _ _ _ h => h) (yields_load rfl rfl rfl (by kernel_rfl) hcc) ((Below.refl _ _).drew) ?_
        try simp only [Act.put, List.setIfInBounds_toArray, List.set_cons_zero, List.set_cons_succ]
        refine WpT.take (i := 9) rfl (by kernel_rfl) (fun _ _ _ h => h) (.inl ⟨by rfl, fun w hSw => by clear hSw; go_simp; (try go_bits); (try rw [if_pos (by omega)]); (try with_reducible rfl)⟩) ((Below.refl _ _).drew) ?_
        try simp only [Act.put, List.setIfInBounds_toArray, List.set_cons_zero, List.set_cons_succ]
        refine WpT.take (i := 10) rfl (by kernel_rfl) (fun _ _ _ h => h) (.inl ⟨by rfl, fun w hSw => by clear hSw; go_simp; (try go_bits); (try rw [if_pos (by omega)]); (try with_reducible rfl)⟩) ((Below.refl _ _).drew) ?_
        try simp only [Act.put, List.setIfInBounds_toArray, List.set_cons_zero, List.set_cons_succ]
        refine WpT.take (i := 11) rfl (by kernel_rfl) (fun _ _ _ h => h) (.inl ⟨by rfl, fun w hSw => by clear hSw; go_simp; (try go_bits); (try rw [if_pos (by omega)]); (try with_reducible rfl)⟩) ((Below.refl _ _).drew) ?_
        try simp only [Act.put, List.setIfInBounds_toArray, List.set_cons_zero, List.set_cons_succ]
        refine WpT.take (i := 12) rfl (by kernel_rfl) (fun _ _ _ h => h) (.inl ⟨by rfl, fun w hSw => by clear hSw; go_simp; (try go_bits); (try rw [if_pos (by omega)]); (try with_reducible rfl)⟩) ((Below.refl _ _).drew) ?_
        try simp only [Act.put, List.setIfInBounds_toArray, List.set_cons_zero, List.set_cons_succ]
        refine WpT.tail (i := 13) rfl (by kernel_rfl) (by kernel_rfl) (fun K hK => ?_)
        go_simp; (try go_bits)
        refine hK _ _ ?_; clear hK K; try simp only [Act.put, List.setIfInBounds_toArray, List.set_cons_zero, List.set_cons_succ]
        refine WpT.done (by kernel_rfl) ?_ _
        go_wp2_with fail
        refine ⟨⟨1, 0 + n92, by omega, ?_, ?_, ?_, Lib.hid ?_, Lib.hid HW.out.drew⟩, by simp [intOf]⟩
        · simp
        · congr 1; push_cast; omega
        · have := HZ0.out; congr 1; simp; omega
        · simp
    · obtain rfl : n92 = n := by have := HN.out; simpa using this.symm
      obtain ⟨q1, e1⟩ : ∃ q, wr.cell? ⟨ad0.block, ad0.off + 1, none⟩ = some q ∧ q = .string ⟨#[34]⟩ := ⟨_, by
        obtain ⟨_, e, h⟩ := (HR0.out.below HW.out).get (k := 1) (by omega); injection e with e; subst e
        rw [← add_pos ad0 (k := 1) (by omega)]
        exact h, rfl⟩
      obtain ⟨cq, rfl⟩ := e1
      have hi : ∀ h, ((⟨#[34]⟩ : ByteArray)[0]'h).toNat = 34 := fun _ => rfl
      go_wp2_with fail
      have HC := HCNT.out wr 34
      rw [H34.out] at HC
      refine HC.mono ?_
      rintro e w1 ⟨rfl, rfl⟩
      clear HC
      obtain ⟨ad, cc, hcc, hrr⟩ := (HBS.out _ HW.out).esc (b := 34) (by decide)
      clear hrr
      rw [show ((34 : UInt8).toNat) = 34 from rfl] at hcc
      by_cases hz : n34 = 0
      · have HZ0 := Lib.hid hz
        have dz : ((n34 : Int) != 0) = false := by simp [hz]
        clear hz
        go_wp2_with fail
        refine ⟨⟨2, n92, by omega, ?_, rfl, ?_, Lib.hid ?_, HW⟩, by simp [intOf]⟩
        · simp
        · simp
        · simp [HZ0.out]
      · have dz : ((n34 : Int) != 0) = true := by simp; omega
        have HZ0 := Lib.hid hz
        clear hz
        go_upto_region 9 with fail
        refine wp_region_T 13 (by kernel_rfl) ?_
        -- region 9: 14 operations, tail from 13
        refine WpT.take (i := 0) rfl (by kernel_rfl) (fun _ _ _ h => h) (.inl ⟨by rfl, fun w hSw => by clear hSw; go_simp; (try go_bits); (try rw [if_pos (by omega)]); (try with_reducible rfl)⟩) ((Below.refl _ _).drew) ?_
        try simp only [Act.put, List.setIfInBounds_toArray, List.set_cons_zero, List.set_cons_succ]
        refine WpT.take (i := 1) rfl (by kernel_rfl) (fun _ _ _ h => h) (.inl ⟨by rfl, fun w hSw => by clear hSw; go_simp; (try go_bits); (try rw [if_pos (by omega)]); (try with_reducible rfl)⟩) ((Below.refl _ _).drew) ?_
        try simp only [Act.put, List.setIfInBounds_toArray, List.set_cons_zero, List.set_cons_succ]
        refine WpT.take (i := 2) rfl (by kernel_rfl) (fun _ _ _ h => h) (.inl ⟨by rfl, fun w hSw => by clear hSw; go_simp; (try go_bits); (try rw [if_pos (by omega)]); (try with_reducible rfl)⟩) ((Below.refl _ _).drew) ?_
        try simp only [Act.put, List.setIfInBounds_toArray, List.set_cons_zero, List.set_cons_succ]
        refine WpT.take (i := 3) rfl (by kernel_rfl) (fun _ _ _ h => h) (.inl ⟨by rfl, fun w hSw => by clear hSw; go_simp; (try go_bits); (try rw [if_pos (by omega)]); (try with_reducible rfl)⟩) ((Below.refl _ _).drew) ?_
        try simp only [Act.put, List.setIfInBounds_toArray, List.set_cons_zero, List.set_cons_succ]
        refine WpT.take (i := 4) rfl (by kernel_rfl) (fun _ _ _ h => h) (.inl ⟨by rfl, fun w hSw => by clear hSw; go_simp; (try go_bits); (try rw [if_pos (by omega)]); (try with_reducible rfl)⟩) ((Below.refl _ _).drew) ?_
        try simp only [Act.put, List.setIfInBounds_toArray, List.set_cons_zero, List.set_cons_succ]
        refine WpT.take (i := 5) rfl (by kernel_rfl) (fun _ _ _ h => h) (.inl ⟨by rfl, fun w hSw => by clear hSw; go_simp; (try go_bits); (try rw [if_pos (by omega)]); (try with_reducible rfl)⟩) ((Below.refl _ _).drew) ?_
        try simp only [Act.put, List.setIfInBounds_toArray, List.set_cons_zero, List.set_cons_succ]
        refine WpT.take (i := 6) rfl (by kernel_rfl) (fun _ _ _ h => h) (.inl ⟨by rfl, fun w hSw => by clear hSw; go_simp; (try go_bits); (try rw [if_pos (by omega)]); (try with_reducible rfl)⟩) ((Below.refl _ _).drew) ?_
        try simp only [Act.put, List.setIfInBounds_toArray, List.set_cons_zero, List.set_cons_succ]
        refine WpT.take (i := 7) rfl (by kernel_rfl) (fun _ _ _ h => h) (.inl ⟨by rfl, fun w hSw => by clear hSw; go_simp; (try go_bits); (try rw [if_pos (by omega)]); (try with_reducible rfl)⟩) ((Below.refl _ _).drew) ?_
        try simp only [Act.put, List.setIfInBounds_toArray, List.set_cons_zero, List.set_cons_succ]
        refine WpT.take (i := 8) rfl (by kernel_rfl) (fun _ _ _ h => h) (yields_load rfl rfl rfl (by kernel_rfl) hcc) ((Below.refl _ _).drew) ?_
        try simp only [Act.put, List.setIfInBounds_toArray, List.set_cons_zero, List.set_cons_succ]
        refine WpT.take (i := 9) rfl (by kernel_rfl) (fun _ _ _ h => h) (.inl ⟨by rfl, fun w hSw => by clear hSw; go_simp; (try go_bits); (try rw [if_pos (by omega)]); (try with_reducible rfl)⟩) ((Below.refl _ _).drew) ?_
        try simp only [Act.put, List.setIfInBounds_toArray, List.set_cons_zero, List.set_cons_succ]
        refine WpT.take (i := 10) rfl (by kernel_rfl) (fun _ _ _ h => h) (.inl ⟨by rfl, fun w hSw => by clear hSw; go_simp; (try go_bits); (try rw [if_pos (by omega)]); (try with_reducible rfl)⟩) ((Below.refl _ _).drew) ?_
        try simp only [Act.put, List.setIfInBounds_toArray, List.set_cons_zero, List.set_cons_succ]
        refine WpT.take (i := 11) rfl (by kernel_rfl) (fun _ _ _ h => h) (.inl ⟨by rfl, fun w hSw => by clear hSw; go_simp; (try go_bits); (try rw [if_pos (by omega)]); (try with_reducible rfl)⟩) ((Below.refl _ _).drew) ?_
        try simp only [Act.put, List.setIfInBounds_toArray, List.set_cons_zero, List.set_cons_succ]
        refine WpT.take (i := 12) rfl (by kernel_rfl) (fun _ _ _ h => h) (.inl ⟨by rfl, fun w hSw => by clear hSw; go_simp; (try go_bits); (try rw [if_pos (by omega)]); (try with_reducible rfl)⟩) ((Below.refl _ _).drew) ?_
        try simp only [Act.put, List.setIfInBounds_toArray, List.set_cons_zero, List.set_cons_succ]
        refine WpT.tail (i := 13) rfl (by kernel_rfl) (by kernel_rfl) (fun K hK => ?_)
        go_simp; (try go_bits)
        refine hK _ _ ?_; clear hK K; try simp only [Act.put, List.setIfInBounds_toArray, List.set_cons_zero, List.set_cons_succ]
        refine WpT.done (by kernel_rfl) ?_ _
        go_wp2_with fail
        refine ⟨⟨2, n92 + n34, by omega, ?_, ?_, ?_, Lib.hid ?_, Lib.hid HW.out.drew⟩, by simp [intOf]⟩
        · simp
        · congr 1; push_cast; omega
        · have := HZ0.out; congr 1; simp; omega
        · simp
    · obtain rfl : n = eC s.data.toList := by rw [HEE.out]; have := HN.out; simpa using this
      have HBw2 := HW.out
      have HB3 := HBS.out _ HBw2
      clear HEE HN H92 H34 HN92 HCNT hN1 hN2 HBw
      by_cases hz : eC s.data.toList = 0
      · have HS := Lib.hid (HE0.out hz)
        have dz : decide (eC s.data.toList ≠ 0) = false := by simp [hz]
        rw [dz]
        clear hz dz
        have HBw3 := Lib.hid HBw2
        clear HBw2
        go_wp2_with fail
        go_ret
        exact ⟨by rw [HS.out]; rfl, HBw3.out⟩
      · have dz : decide (eC s.data.toList ≠ 0) = true := by simp [hz]
        rw [dz]
        clear hz dz
        obtain ⟨E, hE⟩ : ∃ E, eC s.data.toList = E := ⟨_, rfl⟩
        rw [hE] at HEL HELE ⊢
        obtain ⟨N, hN⟩ : ∃ N, s.size + E = N := ⟨_, rfl⟩
        have hN0 : ((s.size : Int) + (E : Int)) = (N : Int) := by omega
        rw [hN0]
        have hNs : N ≤ 536870912 := by have := HELE.out; omega
        rw [hN] at HEL
        clear hE hN hN0 HE0
        have HX0 : Hid (escL (s.data.toList.take 0) = []) := Lib.hid rfl
        go_upto_region 23 with ((with_reducible show wpList _ _ _ ({ dst := some 85, op := _, type := _, pos := _, after := _, guard := _ } :: _) _ _); refine wpList_makeBy rfl rfl rfl rfl (by omega) ?_; intro w4 gB hgB bB hbB ltB; have HGB : Hid (w.heap.size ≤ gB) := Lib.hid (by have := HBw2.size; omega); clear hgB ltB)
        have HBw4 := Lib.hid (bstep HBw2 hbB)
        have HBB := Lib.hid bB
        clear bB hbB HBw2 HB3
        go_wp2_with fail
        go_loopw [13, 14, 15] (fun v13 v14 _ wr => ∃ (k m : Nat) (X : List UInt8), k ≤ s.size ∧ v14 = .int .i64 k ∧ v13 = .int .i64 (X.length : Nat) ∧ X.length + m = N ∧ Hid (escL (s.data.toList.take k) = X) ∧ Blk wr gB 5 (bv (X ++ List.replicate m 0)).toArray ∧ Hid (Below w.heap.size w wr)) (fun _ v14 _ _ => s.size - (intOf v14).toNat)
        case atStart => exact ⟨0, N, [], by omega, rfl, rfl, by simp, HX0, HBB.out, HBw4⟩
        case round =>
          clear HX0 HBw4 HBB
          obtain ⟨k, m, X, hk, rfl, rfl, hXm, HX, bB, HW⟩ := hrel
          by_cases hlt : k < s.size
          · have hkl : k < s.data.toList.length := by rw [HL.out]; exact hlt
            have HNX := Lib.hid (escL_take s.data.toList k hkl)
            have HLE := Lib.hid (HLEA.out (k + 1))
            have hgk : s.data.toList[k] = s[k]'hlt := list_get s k hlt hkl
            rw [hgk, HX.out] at HNX
            obtain ⟨b, hbv⟩ : ∃ b : UInt8, s[k]'hlt = b := ⟨_, rfl⟩
            rw [hbv] at HNX
            have hb8 := b.toNat_lt
            rw [HEL.out] at HLE
            clear hgk hkl
            have HM : Hid (X.length ≤ N) := Lib.hid (by omega)
            cases hEb : isE b with
            | true =>
              obtain ⟨ad, cc, hccW, hrrW⟩ := (HBS.out w (Below.refl _ _)).esc hEb
              have hcc := cell_later HW.out hccW
              have hrr := hrrW.below HW.out
              rw [hEb, if_pos rfl] at HNX
              rw [HNX.out, List.length_append] at HLE
              have h2m : 2 ≤ m := by have := HLE.out; simp at this; omega
              have hxN : X.length < N := by omega
              obtain ⟨M, hM⟩ : ∃ M, N - X.length = M := ⟨_, rfl⟩
              have hmin : Nat.min 2 M = 2 := Nat.min_eq_left (by omega)
              have HMM := Lib.hid hM
              have HMIN := Lib.hid hmin
              have HNX2 : Hid (escL (s.data.toList.take (k + 1)) = X ++ [92, b]) := HNX
              have HRR : Hid (Rd wr (some ad) 2 (bv [92, b])) := Lib.hid hrr
              have HBUF := Lib.hid (buf_copy X m b h2m)
              have H2M := Lib.hid h2m
              have HXM := Lib.hid hXm
              obtain ⟨xl, hxl⟩ : ∃ xl, X.length = xl := ⟨_, rfl⟩
              have HXL := Lib.hid hxl
              rw [hxl] at HBUF hxN HM HXM HMM ⊢
              have HXN := Lib.hid hxN
              have HSIZ : Hid (xl + 2 ≤ (bv (X ++ List.replicate m 0)).toArray.size) := Lib.hid (by have := HXM.out; simp [bv]; omega)
              obtain ⟨BF, hBF⟩ : ∃ BF, bv (X ++ List.replicate m 0) = BF := ⟨_, rfl⟩
              rw [hBF] at bB HBUF HSIZ
              clear hEb HNX HLE hrr hrrW hM hmin h2m hXm hxl hBF
              go_upto_region 28 with ((with_reducible show wpList _ _ _ ({ dst := some 101, op := _, type := _, pos := _, after := _, guard := _ } :: _) _ _); refine wpList_opG (neq_nilS ad 2 cc) (by rfl) rfl rfl rfl (fun W => by kernel_rfl) ?_)
              have hS : Below w.heap.size w wr.drew := HW.out.drew
              have hbD : Blk wr.drew gB 5 BF.toArray := bB.drew
              refine wp_region_TB (S := Below (w).heap.size (w)) 12 (by kernel_rfl) ?_
              -- region 28: 13 operations, tail from 12
              refine WpT.take (i := 0) rfl (by kernel_rfl) (fun _ _ _ h => h) (.inl ⟨by rfl, fun w hSw => by clear hSw; go_simp; (try go_bits); (try rw [if_pos (by omega)]); (try with_reducible rfl)⟩) (hS) ?_
              try simp only [Act.put, List.setIfInBounds_toArray, List.set_cons_zero, List.set_cons_succ]
              refine WpT.take (i := 1) rfl (by kernel_rfl) (fun _ _ _ h => h) (.inl ⟨by rfl, fun w hSw => by clear hSw; go_simp; (try go_bits); (try rw [if_pos (by omega)]); (try with_reducible rfl)⟩) (hS) ?_
              try simp only [Act.put, List.setIfInBounds_toArray, List.set_cons_zero, List.set_cons_succ]
              refine WpT.take (i := 2) rfl (by kernel_rfl) (fun _ _ _ h => h) (.inl ⟨by rfl, fun w hSw => by clear hSw; go_simp; (try go_bits); (try rw [if_pos (by omega)]); (try with_reducible rfl)⟩) (hS) ?_
              try simp only [Act.put, List.setIfInBounds_toArray, List.set_cons_zero, List.set_cons_succ]
              refine WpT.take (i := 3) rfl (by kernel_rfl) (fun _ _ _ h => h) (yields_dropBy rfl rfl (by rfl) (by rfl) hxN HMM.out) (hS) ?_
              try simp only [Act.put, List.setIfInBounds_toArray, List.set_cons_zero, List.set_cons_succ]
              refine WpT.take (i := 4) rfl (by kernel_rfl) (fun _ _ _ h => h) (.inl ⟨by rfl, fun w hSw => by clear hSw; go_simp; (try go_bits); (try rw [if_pos (by omega)]); (try with_reducible rfl)⟩) (hS) ?_
              try simp only [Act.put, List.setIfInBounds_toArray, List.set_cons_zero, List.set_cons_succ]
              refine WpT.take (i := 5) rfl (by kernel_rfl) (fun _ _ _ h => h) (.inl ⟨by rfl, fun w hSw => by clear hSw; go_simp; (try go_bits); (try rw [if_pos (by omega)]); (try with_reducible rfl)⟩) (hS) ?_
              try simp only [Act.put, List.setIfInBounds_toArray, List.set_cons_zero, List.set_cons_succ]
              refine WpT.take (i := 6) rfl (by kernel_rfl) (fun _ _ _ h => h) (.inl ⟨by rfl, fun w hSw => by clear hSw; go_simp; (try go_bits); (try rw [if_pos (by omega)]); (try with_reducible rfl)⟩) (hS) ?_
              try simp only [Act.put, List.setIfInBounds_toArray, List.set_cons_zero, List.set_cons_succ]
              refine WpT.take (i := 7) rfl (by kernel_rfl) (fun _ _ _ h => h) (.inl ⟨by rfl, fun w hSw => by clear hSw; go_simp; (try go_bits); (try rw [if_pos (by omega)]); (try with_reducible rfl)⟩) (hS) ?_
              try simp only [Act.put, List.setIfInBounds_toArray, List.set_cons_zero, List.set_cons_succ]
              refine WpT.take (i := 8) rfl (by kernel_rfl) (fun _ _ _ h => h) (.inl ⟨by rfl, fun w hSw => by clear hSw; go_simp; (try go_bits); (try rw [if_pos (by omega)]); (try with_reducible rfl)⟩) (hS) ?_
              try simp only [Act.put, List.setIfInBounds_toArray, List.set_cons_zero, List.set_cons_succ]
              refine WpT.take (i := 9) rfl (by kernel_rfl) (fun _ _ _ h => h) (yields_load rfl rfl rfl (by kernel_rfl) hccW) (hS) ?_
              try simp only [Act.put, List.setIfInBounds_toArray, List.set_cons_zero, List.set_cons_succ]
              refine WpT.one (i := 10) rfl (by kernel_rfl) (fun K hK => ?_)
              refine wp_copyR (elem := 5) (k := 1) 2 (bv [92, b]) rfl (by rfl) (by rfl) (by kernel_rfl) (by kernel_rfl) hbD HMIN.out rfl (fun j v hj => by obtain ⟨_, e, h⟩ := (show Rd wr.drew (some ad) 2 (bv [92, b]) from HRR.out.below (Below.refl _ wr).drew).at_ j v hj; injection e with e; subst e; exact h) HSIZ.out (by intro u hu; obtain ⟨x, _, rfl⟩ := List.mem_map.1 hu; rfl) ?_; intro w5 ht5 b5; replace hS := hS.trans (ht5.below _ HGB.out)
              refine hK _ _ (hS) ?_; clear hK K; try simp only [Act.put, List.setIfInBounds_toArray, List.set_cons_zero, List.set_cons_succ]
              refine WpT.take (i := 11) rfl (by kernel_rfl) (fun _ _ _ h => h) (.inl ⟨by rfl, fun w hSw => by clear hSw; go_simp; (try go_bits); (try rw [if_pos (by omega)]); (try with_reducible rfl)⟩) (hS) ?_
              try simp only [Act.put, List.setIfInBounds_toArray, List.set_cons_zero, List.set_cons_succ]
              refine WpT.tail (i := 12) rfl (by kernel_rfl) (by kernel_rfl) (fun K hK => ?_)
              go_simp; (try go_bits)
              refine hK _ _ ?_; clear hK K; try simp only [Act.put, List.setIfInBounds_toArray, List.set_cons_zero, List.set_cons_succ]
              refine WpT.done (by kernel_rfl) ?_ _
              skip
              rw [show (bv [92, b]).length = 2 from rfl, List.toList_toArray, HBUF.out] at b5
              go_wp2_with fail
              refine ⟨⟨k + 1, m - 2, X ++ [92, b], by omega, by go_num, ?_, ?_, HNX2, b5, Lib.hid hS⟩, by simp [intOf]; omega⟩
              · rw [List.length_append, HXL.out]; rfl
              · rw [List.length_append, HXL.out]; have := H2M.out; have := HXM.out; simp; omega
            | false =>
              rw [hEb, if_neg (by simp)] at HNX
              have hcc := (HBS.out _ HW.out).plain hEb
              rw [HNX.out, List.length_append] at HLE
              have h1m : 1 ≤ m := by have := HLE.out; simp at this; omega
              have hxN : X.length < N := by omega
              have HNX2 : Hid (escL (s.data.toList.take (k + 1)) = X ++ [b]) := HNX
              have HBUF := Lib.hid (buf_store X m b h1m)
              have H1M := Lib.hid h1m
              have HXM := Lib.hid hXm
              obtain ⟨xl, hxl⟩ : ∃ xl, X.length = xl := ⟨_, rfl⟩
              have HXL := Lib.hid hxl
              rw [hxl] at HBUF hxN HM HXM ⊢
              have hxz : xl < (bv (X ++ List.replicate m 0)).toArray.size := by have := HXM.out; simp [bv]; omega
              have HXZ := Lib.hid hxz
              clear hEb HNX HLE h1m hXm hxl hxz
              generalize (bv (X ++ List.replicate m 0)).toArray = BF at *
              go_upto_region 29 with ((with_reducible show wpList _ _ _ ({ dst := some 101, op := _, type := _, pos := _, after := _, guard := _ } :: _) _ _); refine wpList_opG neq_nilN (by rfl) rfl rfl rfl (fun W => by kernel_rfl) ?_)
              go_wp2_with ((with_reducible show wpList _ _ _ ({ dst := none, op := _, type := _, pos := _, after := _, guard := _ } :: _) _ _); refine wpList_set (g := gB) (j := xl) (v := .int .u8 (b.toNat : Nat)) (cs' := BF.setIfInBounds xl (.int .u8 (b.toNat : Nat))) rfl rfl (by kernel_rfl) rfl rfl rfl bB HXZ.out rfl ?_; intro w5 ht5 b5)
              rw [HBUF.out] at b5
              refine ⟨⟨k + 1, m - 1, X ++ [b], by omega, by go_num, ?_, ?_, HNX2, b5, Lib.hid (HW.out.trans (ht5.below _ HGB.out))⟩, by simp [intOf]; omega⟩
              · rw [List.length_append, HXL.out]; rfl
              · rw [List.length_append, HXL.out]; have := H1M.out; have := HXM.out; simp; omega
          · obtain rfl : k = s.size := by omega
            rw [HEND.out] at HX
            obtain rfl : EL = X := HX.out
            obtain rfl : m = 0 := by have := HEL.out; omega
            rw [List.replicate_zero, List.append_nil] at bB
            have hEN := HEL.out
            have hrd : Rd wr (some ⟨gB, 0, none⟩) N (bv EL) := by
              have h := blk_rdL bB
              rw [show (bv EL).length = N by simp [bv]; exact hEN] at h
              exact h
            have HRD := Lib.hid hrd
            have HWE := Lib.hid HW.out
            clear hEN hrd bB HX HEND HLEA HEL HW
            go_wp2_with ((with_reducible show wpList _ _ _ ({ dst := some 121, op := _, type := _, pos := _, after := _, guard := _ } :: _) _ _); refine wpList_bts (l := EL) rfl rfl bytesTy (by kernel_rfl) rfl HRD.out ?_)
            go_ret
            exact ⟨rfl, HWE.out⟩
set_option maxRecDepth 20000 in
set_option maxHeartbeats 8000000 in
theorem bsr_small (s : ByteArray) (g : Nat) (w : World) (hbs : BsAt w g) (hs : s.size ≤ 268435456) (hc : ¬ 16 ≤ s.size) :
    Calls Tryz.prog 179 #[.pointer (some ⟨g, 0, none⟩), .string s] w fun e w' => e = .returned (.string ⟨(escL s.data.toList).toArray⟩) ∧ Below w.heap.size w w' := by
  have hl : s.data.toList.length = s.size := (Lib.size_eq s).symm
  have HL := Lib.hid hl
  have HBS := Lib.hid (fun W (h : Below w.heap.size w W) => hbs.below h)
  have hnot : ∀ (x : Bool) (w : World), (Op.unary .not (.bool x)).run Tryz.prog w = .ok (.bool (!x)) w := fun _ _ => rfl
  obtain ⟨A0, c0, cl0, hr0⟩ := hbs.list
  have HR0 := Lib.hid hr0
  have HEC := Lib.hid (eC_count s.data.toList)
  have HE0 : Hid (eC s.data.toList = 0 → (⟨(escL s.data.toList).toArray⟩ : ByteArray) = s) := Lib.hid (fun h => by rw [escL_none _ h])
  have HECT : Hid (eC (s.data.toList.take s.size) = eC s.data.toList) := Lib.hid (by rw [List.take_of_length_le (Nat.le_of_eq hl)])
  have HEL : Hid ((escL s.data.toList).length = s.size + eC s.data.toList) := Lib.hid (by rw [escL_len, hl])
  have HLEA := Lib.hid (fun k => escL_le s.data.toList k)
  have HEND : Hid (escL (s.data.toList.take s.size) = escL s.data.toList) := Lib.hid (by rw [List.take_of_length_le (Nat.le_of_eq hl)])
  obtain ⟨EL, hEL⟩ : ∃ EL, escL s.data.toList = EL := ⟨_, rfl⟩
  rw [hEL] at HE0 HEL HEND HLEA ⊢
  clear hEL
  have HELE : Hid (eC s.data.toList ≤ s.size) := Lib.hid (by rw [← hl]; exact eC_le _)
  have dk : decide ((16 : Int) ≤ (s.size : Int)) = false := by rw [decide_eq_false_iff_not]; omega
  have dkn : decide (16 ≤ s.size) = false := by rw [decide_eq_false_iff_not]; omega
  clear hbs hr0 hl hc
  have HBw := Lib.hid (Below.refl w.heap.size w)
  clear HEC
  go_enter Tryz.func179, Tryz.ntmps179
  go_wp2_with fail
  go_loopw [5, 6, 10, 11] (fun v5 v6 v10 _ wr => ∃ k : Nat, k ≤ s.size ∧ v10 = .int .i64 k ∧ v5 = .int .i64 ((s.size : Int) + (eC (s.data.toList.take k) : Nat)) ∧ v6 = .bool (decide (eC (s.data.toList.take k) ≠ 0)) ∧ Hid (Below w.heap.size w wr)) (fun _ _ v10 _ _ => s.size - (intOf v10).toNat)
  case atStart => exact ⟨0, by omega, rfl, by simp [eC], rfl, HBw⟩
  case round =>
    obtain ⟨k, hk, rfl, rfl, rfl, HW⟩ := hrel
    have hn1 := eC_take_le s.data.toList k
    by_cases hlt : k < s.size
    · have hkl : k < s.data.toList.length := by rw [HL.out]; exact hlt
      have HNX := Lib.hid (eC_take s.data.toList k hkl)
      have hgk : s.data.toList[k] = s[k]'hlt := list_get s k hlt hkl
      rw [hgk] at HNX
      obtain ⟨b, hbv⟩ : ∃ b : UInt8, s[k]'hlt = b := ⟨_, rfl⟩
      rw [hbv] at HNX
      generalize eC (s.data.toList.take k) = n at *
      have hb8 := b.toNat_lt
      clear hgk hkl
      cases hE : isE b with
      | true =>
        obtain ⟨ad, cc, hcc, hrr⟩ := (HBS.out _ HW.out).esc hE
        clear hrr
        rw [hE] at HNX
        rw [if_pos rfl] at HNX
        clear hE
        go_wp2_with ((with_reducible show wpList _ _ _ ({ dst := some 70, op := _, type := _, pos := _, after := _, guard := _ } :: _) _ _); refine wpList_opG (neq_nilS ad 2 cc) (by rfl) rfl rfl rfl (fun W => by kernel_rfl) ?_)
        refine ⟨⟨k + 1, by omega, by go_num, ?_, ?_, HW⟩, by simp [intOf]; omega⟩
        · rw [HNX.out]; congr 1 <;> (push_cast; omega)
        · rw [HNX.out]; simp
      | false =>
        have hcc := (HBS.out _ HW.out).plain hE
        rw [hE] at HNX
        rw [if_neg (by simp)] at HNX
        clear hE
        go_wp2_with ((with_reducible show wpList _ _ _ ({ dst := some 70, op := _, type := _, pos := _, after := _, guard := _ } :: _) _ _); refine wpList_opG neq_nilN (by rfl) rfl rfl rfl (fun W => by kernel_rfl) ?_)
        refine ⟨⟨k + 1, by omega, by go_num, ?_, ?_, HW⟩, by simp [intOf]; omega⟩
        · rw [HNX.out]; rfl
        · rw [HNX.out]; simp
    · obtain rfl : k = s.size := by omega
      rw [HECT.out] at hn1 ⊢
      have HBw2 := HW.out
      have HB3 := HBS.out _ HBw2
      clear HBw
      by_cases hz : eC s.data.toList = 0
      · have HS := Lib.hid (HE0.out hz)
        have dz : decide (eC s.data.toList ≠ 0) = false := by simp [hz]
        rw [dz]
        clear hz dz
        have HBw3 := Lib.hid HBw2
        clear HBw2
        go_wp2_with fail
        go_ret
        exact ⟨by rw [HS.out]; rfl, HBw3.out⟩
      · have dz : decide (eC s.data.toList ≠ 0) = true := by simp [hz]
        rw [dz]
        clear hz dz
        obtain ⟨E, hE⟩ : ∃ E, eC s.data.toList = E := ⟨_, rfl⟩
        rw [hE] at HEL HELE ⊢
        obtain ⟨N, hN⟩ : ∃ N, s.size + E = N := ⟨_, rfl⟩
        have hN0 : ((s.size : Int) + (E : Int)) = (N : Int) := by omega
        rw [hN0]
        have hNs : N ≤ 536870912 := by have := HELE.out; omega
        rw [hN] at HEL
        clear hE hN hN0 HE0
        have HX0 : Hid (escL (s.data.toList.take 0) = []) := Lib.hid rfl
        go_upto_region 23 with ((with_reducible show wpList _ _ _ ({ dst := some 85, op := _, type := _, pos := _, after := _, guard := _ } :: _) _ _); refine wpList_makeBy rfl rfl rfl rfl (by omega) ?_; intro w4 gB hgB bB hbB ltB; have HGB : Hid (w.heap.size ≤ gB) := Lib.hid (by have := HBw2.size; omega); clear hgB ltB)
        have HBw4 := Lib.hid (bstep HBw2 hbB)
        have HBB := Lib.hid bB
        clear bB hbB HBw2 HB3
        go_wp2_with fail
        go_loopw [13, 14, 15] (fun v13 v14 _ wr => ∃ (k m : Nat) (X : List UInt8), k ≤ s.size ∧ v14 = .int .i64 k ∧ v13 = .int .i64 (X.length : Nat) ∧ X.length + m = N ∧ Hid (escL (s.data.toList.take k) = X) ∧ Blk wr gB 5 (bv (X ++ List.replicate m 0)).toArray ∧ Hid (Below w.heap.size w wr)) (fun _ v14 _ _ => s.size - (intOf v14).toNat)
        case atStart => exact ⟨0, N, [], by omega, rfl, rfl, by simp, HX0, HBB.out, HBw4⟩
        case round =>
          clear HX0 HBw4 HBB
          obtain ⟨k, m, X, hk, rfl, rfl, hXm, HX, bB, HW⟩ := hrel
          by_cases hlt : k < s.size
          · have hkl : k < s.data.toList.length := by rw [HL.out]; exact hlt
            have HNX := Lib.hid (escL_take s.data.toList k hkl)
            have HLE := Lib.hid (HLEA.out (k + 1))
            have hgk : s.data.toList[k] = s[k]'hlt := list_get s k hlt hkl
            rw [hgk, HX.out] at HNX
            obtain ⟨b, hbv⟩ : ∃ b : UInt8, s[k]'hlt = b := ⟨_, rfl⟩
            rw [hbv] at HNX
            have hb8 := b.toNat_lt
            rw [HEL.out] at HLE
            clear hgk hkl
            have HM : Hid (X.length ≤ N) := Lib.hid (by omega)
            cases hEb : isE b with
            | true =>
              obtain ⟨ad, cc, hccW, hrrW⟩ := (HBS.out w (Below.refl _ _)).esc hEb
              have hcc := cell_later HW.out hccW
              have hrr := hrrW.below HW.out
              rw [hEb, if_pos rfl] at HNX
              rw [HNX.out, List.length_append] at HLE
              have h2m : 2 ≤ m := by have := HLE.out; simp at this; omega
              have hxN : X.length < N := by omega
              obtain ⟨M, hM⟩ : ∃ M, N - X.length = M := ⟨_, rfl⟩
              have hmin : Nat.min 2 M = 2 := Nat.min_eq_left (by omega)
              have HMM := Lib.hid hM
              have HMIN := Lib.hid hmin
              have HNX2 : Hid (escL (s.data.toList.take (k + 1)) = X ++ [92, b]) := HNX
              have HRR : Hid (Rd wr (some ad) 2 (bv [92, b])) := Lib.hid hrr
              have HBUF := Lib.hid (buf_copy X m b h2m)
              have H2M := Lib.hid h2m
              have HXM := Lib.hid hXm
              obtain ⟨xl, hxl⟩ : ∃ xl, X.length = xl := ⟨_, rfl⟩
              have HXL := Lib.hid hxl
              rw [hxl] at HBUF hxN HM HXM HMM ⊢
              have HXN := Lib.hid hxN
              have HSIZ : Hid (xl + 2 ≤ (bv (X ++ List.replicate m 0)).toArray.size) := Lib.hid (by have := HXM.out; simp [bv]; omega)
              obtain ⟨BF, hBF⟩ : ∃ BF, bv (X ++ List.replicate m 0) = BF := ⟨_, rfl⟩
              rw [hBF] at bB HBUF HSIZ
              clear hEb HNX HLE hrr hrrW hM hmin h2m hXm hxl hBF
              go_upto_region 28 with ((with_reducible show wpList _ _ _ ({ dst := some 101, op := _, type := _, pos := _, after := _, guard := _ } :: _) _ _); refine wpList_opG (neq_nilS ad 2 cc) (by rfl) rfl rfl rfl (fun W => by kernel_rfl) ?_)
              have hS : Below w.heap.size w wr.drew := HW.out.drew
              have hbD : Blk wr.drew gB 5 BF.toArray := bB.drew
              refine wp_region_TB (S := Below (w).heap.size (w)) 12 (by kernel_rfl) ?_
              -- region 28: 13 operations, tail from 12
              refine WpT.take (i := 0) rfl (by kernel_rfl) (fun _ _ _ h => h) (.inl ⟨by rfl, fun w hSw => by clear hSw; go_simp; (try go_bits); (try rw [if_pos (by omega)]); (try with_reducible rfl)⟩) (hS) ?_
              try simp only [Act.put, List.setIfInBounds_toArray, List.set_cons_zero, List.set_cons_succ]
              refine WpT.take (i := 1) rfl (by kernel_rfl) (fun _ _ _ h => h) (.inl ⟨by rfl, fun w hSw => by clear hSw; go_simp; (try go_bits); (try rw [if_pos (by omega)]); (try with_reducible rfl)⟩) (hS) ?_
              try simp only [Act.put, List.setIfInBounds_toArray, List.set_cons_zero, List.set_cons_succ]
              refine WpT.take (i := 2) rfl (by kernel_rfl) (fun _ _ _ h => h) (.inl ⟨by rfl, fun w hSw => by clear hSw; go_simp; (try go_bits); (try rw [if_pos (by omega)]); (try with_reducible rfl)⟩) (hS) ?_
              try simp only [Act.put, List.setIfInBounds_toArray, List.set_cons_zero, List.set_cons_succ]
              refine WpT.take (i := 3) rfl (by kernel_rfl) (fun _ _ _ h => h) (yields_dropBy rfl rfl (by rfl) (by rfl) hxN HMM.out) (hS) ?_
              try simp only [Act.put, List.setIfInBounds_toArray, List.set_cons_zero, List.set_cons_succ]
              refine WpT.take (i := 4) rfl (by kernel_rfl) (fun _ _ _ h => h) (.inl ⟨by rfl, fun w hSw => by clear hSw; go_simp; (try go_bits); (try rw [if_pos (by omega)]); (try with_reducible rfl)⟩) (hS) ?_
              try simp only [Act.put, List.setIfInBounds_toArray, List.set_cons_zero, List.set_cons_succ]
              refine WpT.take (i := 5) rfl (by kernel_rfl) (fun _ _ _ h => h) (.inl ⟨by rfl, fun w hSw => by clear hSw; go_simp; (try go_bits); (try rw [if_pos (by omega)]); (try with_reducible rfl)⟩) (hS) ?_
              try simp only [Act.put, List.setIfInBounds_toArray, List.set_cons_zero, List.set_cons_succ]
              refine WpT.take (i := 6) rfl (by kernel_rfl) (fun _ _ _ h => h) (.inl ⟨by rfl, fun w hSw => by clear hSw; go_simp; (try go_bits); (try rw [if_pos (by omega)]); (try with_reducible rfl)⟩) (hS) ?_
              try simp only [Act.put, List.setIfInBounds_toArray, List.set_cons_zero, List.set_cons_succ]
              refine WpT.take (i := 7) rfl (by kernel_rfl) (fun _ _ _ h => h) (.inl ⟨by rfl, fun w hSw => by clear hSw; go_simp; (try go_bits); (try rw [if_pos (by omega)]); (try with_reducible rfl)⟩) (hS) ?_
              try simp only [Act.put, List.setIfInBounds_toArray, List.set_cons_zero, List.set_cons_succ]
              refine WpT.take (i := 8) rfl (by kernel_rfl) (fun _ _ _ h => h) (.inl ⟨by rfl, fun w hSw => by clear hSw; go_simp; (try go_bits); (try rw [if_pos (by omega)]); (try with_reducible rfl)⟩) (hS) ?_
              try simp only [Act.put, List.setIfInBounds_toArray, List.set_cons_zero, List.set_cons_succ]
              refine WpT.take (i := 9) rfl (by kernel_rfl) (fun _ _ _ h => h) (yields_load rfl rfl rfl (by kernel_rfl) hccW) (hS) ?_
              try simp only [Act.put, List.setIfInBounds_toArray, List.set_cons_zero, List.set_cons_succ]
              refine WpT.one (i := 10) rfl (by kernel_rfl) (fun K hK => ?_)
              refine wp_copyR (elem := 5) (k := 1) 2 (bv [92, b]) rfl (by rfl) (by rfl) (by kernel_rfl) (by kernel_rfl) hbD HMIN.out rfl (fun j v hj => by obtain ⟨_, e, h⟩ := (show Rd wr.drew (some ad) 2 (bv [92, b]) from HRR.out.below (Below.refl _ wr).drew).at_ j v hj; injection e with e; subst e; exact h) HSIZ.out (by intro u hu; obtain ⟨x, _, rfl⟩ := List.mem_map.1 hu; rfl) ?_; intro w5 ht5 b5; replace hS := hS.trans (ht5.below _ HGB.out)
              refine hK _ _ (hS) ?_; clear hK K; try simp only [Act.put, List.setIfInBounds_toArray, List.set_cons_zero, List.set_cons_succ]
              refine WpT.take (i := 11) rfl (by kernel_rfl) (fun _ _ _ h => h) (.inl ⟨by rfl, fun w hSw => by clear hSw; go_simp; (try go_bits); (try rw [if_pos (by omega)]); (try with_reducible rfl)⟩) (hS) ?_
              try simp only [Act.put, List.setIfInBounds_toArray, List.set_cons_zero, List.set_cons_succ]
              refine WpT.tail (i := 12) rfl (by kernel_rfl) (by kernel_rfl) (fun K hK => ?_)
              go_simp; (try go_bits)
              refine hK _ _ ?_; clear hK K; try simp only [Act.put, List.setIfInBounds_toArray, List.set_cons_zero, List.set_cons_succ]
              refine WpT.done (by kernel_rfl) ?_ _
              skip
              rw [show (bv [92, b]).length = 2 from rfl, List.toList_toArray, HBUF.out] at b5
              go_wp2_with fail
              refine ⟨⟨k + 1, m - 2, X ++ [92, b], by omega, by go_num, ?_, ?_, HNX2, b5, Lib.hid hS⟩, by simp [intOf]; omega⟩
              · rw [List.length_append, HXL.out]; rfl
              · rw [List.length_append, HXL.out]; have := H2M.out; have := HXM.out; simp; omega
            | false =>
              rw [hEb, if_neg (by simp)] at HNX
              have hcc := (HBS.out _ HW.out).plain hEb
              rw [HNX.out, List.length_append] at HLE
              have h1m : 1 ≤ m := by have := HLE.out; simp at this; omega
              have hxN : X.length < N := by omega
              have HNX2 : Hid (escL (s.data.toList.take (k + 1)) = X ++ [b]) := HNX
              have HBUF := Lib.hid (buf_store X m b h1m)
              have H1M := Lib.hid h1m
              have HXM := Lib.hid hXm
              obtain ⟨xl, hxl⟩ : ∃ xl, X.length = xl := ⟨_, rfl⟩
              have HXL := Lib.hid hxl
              rw [hxl] at HBUF hxN HM HXM ⊢
              have hxz : xl < (bv (X ++ List.replicate m 0)).toArray.size := by have := HXM.out; simp [bv]; omega
              have HXZ := Lib.hid hxz
              clear hEb HNX HLE h1m hXm hxl hxz
              generalize (bv (X ++ List.replicate m 0)).toArray = BF at *
              go_upto_region 29 with ((with_reducible show wpList _ _ _ ({ dst := some 101, op := _, type := _, pos := _, after := _, guard := _ } :: _) _ _); refine wpList_opG neq_nilN (by rfl) rfl rfl rfl (fun W => by kernel_rfl) ?_)
              go_wp2_with ((with_reducible show wpList _ _ _ ({ dst := none, op := _, type := _, pos := _, after := _, guard := _ } :: _) _ _); refine wpList_set (g := gB) (j := xl) (v := .int .u8 (b.toNat : Nat)) (cs' := BF.setIfInBounds xl (.int .u8 (b.toNat : Nat))) rfl rfl (by kernel_rfl) rfl rfl rfl bB HXZ.out rfl ?_; intro w5 ht5 b5)
              rw [HBUF.out] at b5
              refine ⟨⟨k + 1, m - 1, X ++ [b], by omega, by go_num, ?_, ?_, HNX2, b5, Lib.hid (HW.out.trans (ht5.below _ HGB.out))⟩, by simp [intOf]; omega⟩
              · rw [List.length_append, HXL.out]; rfl
              · rw [List.length_append, HXL.out]; have := H1M.out; have := HXM.out; simp; omega
          · obtain rfl : k = s.size := by omega
            rw [HEND.out] at HX
            obtain rfl : EL = X := HX.out
            obtain rfl : m = 0 := by have := HEL.out; omega
            rw [List.replicate_zero, List.append_nil] at bB
            have hEN := HEL.out
            have hrd : Rd wr (some ⟨gB, 0, none⟩) N (bv EL) := by
              have h := blk_rdL bB
              rw [show (bv EL).length = N by simp [bv]; exact hEN] at h
              exact h
            have HRD := Lib.hid hrd
            have HWE := Lib.hid HW.out
            clear hEN hrd bB HX HEND HLEA HEL HW
            go_wp2_with ((with_reducible show wpList _ _ _ ({ dst := some 121, op := _, type := _, pos := _, after := _, guard := _ } :: _) _ _); refine wpList_bts (l := EL) rfl rfl bytesTy (by kernel_rfl) rfl HRD.out ?_)
            go_ret
            exact ⟨rfl, HWE.out⟩
theorem bsr_any (s : ByteArray) (g : Nat) (w : World) (hbs : BsAt w g) (hs : s.size ≤ 268435456) :
    Calls Tryz.prog 179 #[.pointer (some ⟨g, 0, none⟩), .string s] w fun e w' => e = .returned (.string ⟨(escL s.data.toList).toArray⟩) ∧ Below w.heap.size w w' := by
  by_cases hc : 16 ≤ s.size
  · exact bsr_big s g w hbs hs hc
  · exact bsr_small s g w hbs hs hc
end Go.Proofs.YtiajmdmofjfdcaaGreatDoor
