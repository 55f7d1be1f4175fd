/-
  The library's IndexFunc and DeleteFunc at frames, with Receive's function. Conditions: at most 64 frames.
-/
import Derived.Test.YtecklplohgfohaaR2
namespace Go.Proofs.Ytecklplohgfohaa
set_option linter.unusedSimpArgs false
set_option linter.unusedVariables false
open Go.RowKit Link
/-- A store of a row of cells at a place of a block that is known whole. -/
theorem wpList_putAt {P : Program} {w : World} {ops : Array Oper} {rest : List Oper} {op : Oper} {a : Act} {Q : Exit → Act → World → Prop} (hgd : op.guard = none) {ty : TypeId} {x y : Operand} (ho : op.op = .store ty x y) {p : Addr} (hx : a.eval x = .pointer (some p)) {g o : Nat} (hp : p = ⟨g, o, none⟩)
    {T : TypeId} {cs : Array Value} {vs : List Value} (hy : a.eval y = .agg vs.toArray) (hb : Blk w g T cs) (hl : o + vs.length ≤ cs.size) (hi : (P.info? ty).map (·.size) = some vs.length) (h1 : ∀ v ∈ vs, v.oneCell' = true)
    (h : ∀ w', Turned g w w' → Blk w' g T (cs.toList.take o ++ vs ++ cs.toList.drop (o + vs.length)).toArray → wpList P ops Q rest (a.put op.dst undef) w') : wpList P ops Q (op :: rest) a w := by
  subst hp
  refine wpList_storeRow hgd ho hx hy hb (by simpa using hl) (by simpa using hi) (by simpa using h1) (h _ (Turned.of_setCells _ _ _ _) ?_)
  have := Blk.row g T vs o w cs hb hl
  exact this
theorem wpList_clearB {P : Program} {w : World} {ops : Array Oper} {rest : List Oper} {o : Oper} {a : Act} {Q : Exit → Act → World → Prop} (hgd : o.guard = none) {d : Operand} {t e : TypeId} (ho : o.op = .call { callee := .builtin .clear, args := #[d], argTypes := #[t] })
    (z : Value) (ht : P.underlying t = some (.slice e)) (hv : ∀ w, (zeroValue e).run P w = .ok z w) (h1 : ∀ v ∈ z.cells, v.oneCell' = true) {p : Addr} {n c : Nat} (hd : a.eval d = .slice (some p) n c) {g off : Nat} (hp : p = ⟨g, off, none⟩) (hn : 0 < n)
    {T : TypeId} {cur : Array Value} (hg : Blk w g T cur) (hfit : off + z.cells.size * n ≤ cur.size)
    (h : ∀ w', Turned g w w' → Blk w' g T (cur.toList.take off ++ (Builtin.zeroCells z.cells n).toList ++ cur.toList.drop (off + z.cells.size * n)).toArray → wpList P ops Q rest (a.put o.dst (.tuple #[])) w') : wpList P ops Q (o :: rest) a w := by
  subst hp
  refine wpList_plain hgd fun K hK => ?_
  have hrun := run_clearK (P := P) w t e o.type z ht hv h1 g off n c hn hg hfit
  unfold Oper.wp execOp
  simp only [ho, resolve, invoke, builtin, Sem.run_bind, Sem.run_pure, Result.andThen_ok, List.map_toArray, List.map_cons, List.map_nil, hd, hrun]
  exact hK _ _ (h _ (Turned.of_setRow _ _ _) (setRow_heap w g cur _ T (0, 0) hg))
/-- The cells of an element of a row. -/
theorem row_elem {W : World} {gs : Nat} {cur : Array Value} {l : List Fr} {j : Nat} {ad : Addr} (hb : Blk W gs 49 cur) (had : ad = ⟨gs, 0, none⟩) (hl : (cur.toList.drop (j * 3)).take ((l.length - j) * 3) = fvs (l.drop j)) (hj : j < l.length) :
    ∀ i u, (fv l[j])[i]? = some u → W.cell? ((ad.add (j * 3)).add i) = some u := by
  intro i u hu
  have hi : i < 3 := by have := (List.getElem?_eq_some_iff.1 hu).1; simpa [fv] using this
  rw [add_of_add, had]
  have e : (⟨gs, 0, none⟩ : Addr).add (j * 3 + i) = ⟨gs, j * 3 + i, none⟩ := by unfold Addr.add; split <;> simp_all
  rw [e, hb.cell]
  have h0 : (fvs (l.drop j))[i]? = some u := by
    rw [List.drop_eq_getElem_cons hj]
    simp only [fvs, List.flatMap_cons]
    rw [List.getElem?_append_left (by rw [fv_len]; exact hi)]
    exact hu
  rw [← hl, List.getElem?_take, if_pos (by omega), List.getElem?_drop] at h0
  rw [← h0]
  simp
theorem row_tail {cur : Array Value} {l : List Fr} {m j : Nat} (h : cur.toList.take (m * 3) = fvs l) (hm : l.length = m) (hj : j ≤ m) : (cur.toList.drop (j * 3)).take ((l.length - j) * 3) = fvs (l.drop j) := by
  rw [hm, Nat.sub_mul, ← List.drop_take, h]
  unfold fvs
  exact fl_drop fv_len l j (by omega)
/-- What IndexFunc returns here. -/
def IdxIs (gi go gs gr : Nat) (A : Option Addr) (n c : Nat) (w0 : World) (nx : Int) (l ol : List Fr) (cur : Array Value) (e : Ending) (w' : World) : Prop :=
  (∃ k, ∃ h : k < l.length, l[k].seq ≤ nx ∧ RelAt nx l k nx [] (l.take k) ∧ e = .returned (.int .i64 k) ∧ DS gi go gs gr A n c w0 w' (stepN nx l[k]) (ol ++ if l[k].seq = nx then [l[k]] else []) cur) ∨
  (RelAt nx l l.length nx [] l ∧ e = .returned (.int .i64 (-1)) ∧ DS gi go gs gr A n c w0 w' nx ol cur)
set_option maxRecDepth 20000 in
set_option maxHeartbeats 4000000 in
theorem indexF_any (l : List Fr) {gi go gs gr : Nat} {A : Option Addr} {n c : Nat} {w0 : World} (w : World) {nx : Int} {ol : List Fr} {cur : Array Value} (ad : Addr) (m cap : Nat) (had : ad = ⟨gs, 0, none⟩) (hm : l.length = m) (hm64 : m ≤ 64) (hcap : m ≤ cap) (hcs : cur.size = cap * 3) (hcur : cur.toList.take (m * 3) = fvs l)
    (h : DS gi go gs gr A n c w0 w nx ol cur) (hol : ol.length ≤ 500) (h0 : 0 ≤ nx) (h1 : nx ≤ 2199023259000) :
    Calls Try.prog 52 #[.slice (some ad) m cap, .func (.func 44) #[] #[.pointer (some ⟨gi, 0, none⟩), .pointer (some ⟨go, 0, none⟩)]] w (IdxIs gi go gs gr A n c w0 nx l ol cur) := by
  have HM := Lib.hid hm
  have HAD := Lib.hid had
  have HCUR := Lib.hid hcur
  have HOL := Lib.hid hol
  have H0 := Lib.hid h0
  have H1 := Lib.hid h1
  have HR0 := Lib.hid (RelAt.zero nx l)
  clear hm had hcur hol h0 h1 hcs
  go_enter Try.func52, Try.ntmps52
  go_wp2_with fail
  go_loopw [5, 8] (fun _ vj wr => ∃ k : Nat, k ≤ m ∧ vj = .int .i64 k ∧ DS gi go gs gr A n c w0 wr nx ol cur ∧ Hid (RelAt nx l k nx [] (l.take k))) (fun _ vj _ => m - (intOf vj).toNat)
  case atStart => exact ⟨0, Nat.zero_le _, rfl, h, Lib.hid (by simpa using HR0.out)⟩
  case round =>
    clear h
    obtain ⟨k, hk, rfl, S, HR⟩ := hrel
    by_cases hlt : k < m
    · have hkl : k < l.length := by have := HM.out; omega
      have hc := row_elem (j := k) (ad := ad) S.bs HAD.out (row_tail HCUR.out HM.out hk) hkl
      have HC := Lib.hid (fun W (S : DS gi go gs gr A n c w0 W nx ol cur) => recv2_any l[k] W S (by have := HOL.out; omega) H0.out (by have := H1.out; omega))
      have HS := Lib.hid S
      by_cases hle : l[k].seq ≤ nx
      · have HP : Hid (∀ w', DS gi go gs gr A n c w0 w' (stepN nx l[k]) (ol ++ if l[k].seq = nx then [l[k]] else []) cur → IdxIs gi go gs gr A n c w0 nx l ol cur (.returned (.int .i64 k)) w') := Lib.hid (fun w' S' => .inl ⟨k, hkl, hle, HR.out, rfl, S'⟩)
        have hd : decide (l[k].seq ≤ nx) = true := by simpa using hle
        rw [hd] at HC
        generalize (stepN nx l[k]) = nx' at *
        generalize (ol ++ if l[k].seq = nx then [l[k]] else []) = ol' at *
        generalize l[k] = x at *
        clear hd hle S
        go_wp2_with (refine wpList_loadK (us := fv x) rfl rfl rfl aggFr sizeFr hc ?_)
        refine (HC.out _ HS.out).mono ?_
        rintro e w1 ⟨rfl, S1, -⟩
        go_wp2_with fail
        go_ret
        exact HP.out _ S1
      · have HN : Hid (RelAt nx l (k + 1) nx [] (l.take (k + 1))) := Lib.hid (by
          have := HR.out.keep hkl (by omega)
          rwa [← List.take_succ_eq_append_getElem hkl] at this)
        have hd : decide (l[k].seq ≤ nx) = false := by simpa using hle
        have hst : stepN nx l[k] = nx := by unfold stepN; rw [if_neg (by omega)]
        have hif : (if l[k].seq = nx then [l[k]] else []) = [] := by rw [if_neg (by omega)]
        rw [hd, hst, hif, List.append_nil] at HC
        generalize l[k] = x at *
        clear hd hle S hst hif
        go_wp2_with (refine wpList_loadK (us := fv x) rfl rfl rfl aggFr sizeFr hc ?_)
        refine (HC.out _ HS.out).mono ?_
        rintro e w1 ⟨rfl, S1, -⟩
        go_wp2_with fail
        exact ⟨⟨k + 1, by omega, by go_num, S1, HN⟩, by simp [intOf]; omega⟩
    · have HP : Hid (IdxIs gi go gs gr A n c w0 nx l ol cur (.returned (.int .i64 (-1))) wr) := Lib.hid (by
        have hkm : k = l.length := by have := HM.out; omega
        refine .inr ⟨?_, rfl, S⟩
        have := HR.out
        rwa [hkm, List.take_length] at this)
      clear S
      go_wp2_with fail
      go_ret
      exact HP.out
theorem zeroFr (W : World) : (zeroValue 49).run Try.prog W = .ok (.agg (frC fr0)) W := by kernel_rfl
theorem row_add (gs o : Nat) : (⟨gs, 0, none⟩ : Addr).add o = ⟨gs, o, none⟩ := by unfold Addr.add; split <;> simp_all
/-- What DeleteFunc returns here. -/
def DelIs (gi go gs gr : Nat) (A : Option Addr) (n c : Nat) (w0 : World) (nx : Int) (l ol : List Fr) (e : Ending) (w' : World) : Prop :=
  ∃ v cur, e = .returned v ∧ DS gi go gs gr A n c w0 w' (rel nx l).1 (ol ++ (rel nx l).2.1) cur ∧ w'.ownsRow w0.heap.size 49 3 v (rel nx l).2.2.length (fvs (rel nx l).2.2) ∧ v.ownBlock = some gs
/-- The row while it is gone through: what is kept stands at its head, what is to come where it stood. -/
structure RowAt (cur : Array Value) (cap m j i : Nat) (l kj : List Fr) : Prop where
  size : cur.size = cap * 3
  il : kj.length = i
  ij : i < j
  head : cur.toList.take (i * 3) = fvs kj
  tail : (cur.toList.drop (j * 3)).take ((l.length - j) * 3) = fvs (l.drop j)
theorem RowAt.skip {cur : Array Value} {cap m j i : Nat} {l kj : List Fr} (h : RowAt cur cap m j i l kj) (hj : j < l.length) : RowAt cur cap m (j + 1) i l kj := by
  refine ⟨h.size, h.il, by have := h.ij; omega, h.head, ?_⟩
  have e : (cur.toList.drop ((j + 1) * 3)).take ((l.length - (j + 1)) * 3) = ((cur.toList.drop (j * 3)).take ((l.length - j) * 3)).drop 3 := by
    rw [List.drop_take, List.drop_drop]
    congr 1 <;> (try congr 1) <;> omega
  rw [e, h.tail, List.drop_eq_getElem_cons hj]
  show List.drop 3 (fv l[j] ++ fvs (l.drop (j + 1))) = _
  exact List.drop_left' (fv_len _)
theorem RowAt.put {cur : Array Value} {cap m j i : Nat} {l kj : List Fr} (h : RowAt cur cap m j i l kj) (hj : j < l.length) (hc : l.length ≤ cap) :
    RowAt (cur.toList.take (i * 3) ++ fv l[j] ++ cur.toList.drop (i * 3 + (fv l[j]).length)).toArray cap m (j + 1) (i + 1) l (kj ++ [l[j]]) := by
  have hs := h.size
  have hij := h.ij
  have hl : (cur.toList.take (i * 3)).length = i * 3 := by rw [List.length_take, Array.length_toList]; omega
  refine ⟨?_, by simp [h.il], by omega, ?_, ?_⟩
  · simp [fv_len]; omega
  · rw [List.append_assoc, show (i + 1) * 3 = i * 3 + 3 by omega]
    rw [fvs_app]
    have h3 : ∀ (a b c : List Value), a.length = i * 3 → b.length = 3 → (a ++ (b ++ c)).take (i * 3 + 3) = a ++ b := by
      intro a b c ha hb
      rw [← List.append_assoc, List.take_append_of_le_length (by simp [ha, hb]), List.take_of_length_le (by simp [ha, hb])]
    have := h3 (cur.toList.take (i * 3)) (fv l[j]) (cur.toList.drop (i * 3 + (fv l[j]).length)) hl (fv_len _)
    rw [show (_ : List Value).toArray.toList = _ from rfl, this, h.head]
    simp [fvs]
  · have e : ((cur.toList.take (i * 3) ++ fv l[j] ++ cur.toList.drop (i * 3 + (fv l[j]).length)).toArray.toList.drop ((j + 1) * 3)) = cur.toList.drop ((j + 1) * 3) := by
      show (cur.toList.take (i * 3) ++ fv l[j] ++ cur.toList.drop (i * 3 + (fv l[j]).length)).drop ((j + 1) * 3) = _
      rw [List.drop_append, List.drop_of_length_le (by simp [hl, fv_len]; omega), List.nil_append, List.drop_drop]
      congr 1
      simp [hl, fv_len]; omega
    rw [e]
    exact (h.skip hj).tail
set_option maxRecDepth 20000 in
set_option maxHeartbeats 4000000 in
theorem deleteF_any (l : List Fr) {gi go gs gr : Nat} {A : Option Addr} {n c : Nat} {w0 : World} (w : World) {nx : Int} {ol : List Fr} {cur : Array Value} (ad : Addr) (m cap : Nat) (had : ad = ⟨gs, 0, none⟩) (hm : l.length = m) (hm64 : m ≤ 64) (hcap : m ≤ cap) (hcm : cap ≤ maxLen) (hcs : cur.size = cap * 3) (hcur : cur.toList.take (m * 3) = fvs l)
    (h : DS gi go gs gr A n c w0 w nx ol cur) (hol : ol.length ≤ 400) (h0 : 0 ≤ nx) (h1 : nx ≤ 2199023258000) :
    Calls Try.prog 43 #[.slice (some ad) m cap, .func (.func 44) #[] #[.pointer (some ⟨gi, 0, none⟩), .pointer (some ⟨go, 0, none⟩)]] w (DelIs gi go gs gr A n c w0 nx l ol) := by
  have HI := Lib.hid (indexF_any l w ad m cap had hm hm64 hcap hcs hcur h (by omega) h0 (by omega))
  have HM := Lib.hid hm
  have HAD := Lib.hid had
  have HCUR := Lib.hid hcur
  have HCS := Lib.hid hcs
  have HOL := Lib.hid hol
  have H0 := Lib.hid h0
  have H1 := Lib.hid h1
  have HCM := Lib.hid hcm
  unfold maxLen at hcm
  clear hm had hcur hol h0 h1 hcs h
  go_enter Try.func43, Try.ntmps43
  go_wp2_with fail
  refine HI.out.mono ?_
  rintro e w1 (⟨k, hkl, hle, HR, rfl, S⟩ | ⟨HR, rfl, S⟩)
  · have HRA := Lib.hid (HR.gone hkl hle)
    have HRow : RowAt cur cap m (k + 1) k l (l.take k) := ⟨HCS.out, by simp; omega, by omega, by
        have h1 := HCUR.out
        have h2 : cur.toList.take (k * 3) = (cur.toList.take (m * 3)).take (k * 3) := by rw [List.take_take, Nat.min_eq_left (by have := HM.out; omega)]
        rw [h2, h1]
        unfold fvs
        exact fl_take fv_len l k (by omega), row_tail HCUR.out HM.out (by have := HM.out; omega)⟩
    have hkm : k < m := by have := HM.out; omega
    have HN : Hid (0 ≤ stepN nx l[k] ∧ stepN nx l[k] ≤ nx + (k + 1)) := Lib.hid (by have := stepN_le nx l[k]; have := H0.out; omega)
    have HOL2 : Hid ((if l[k].seq = nx then [l[k]] else []).length ≤ k + 1) := Lib.hid (by split <;> simp)
    have hk0 : ((k : Int) == -1) = false := by simp
    generalize stepN nx l[k] = n1 at *
    generalize (if l[k].seq = nx then [l[k]] else []) = o1 at *
    have HRA2 : Hid (RelAt nx l (k + 1) n1 o1 (l.take k)) := Lib.hid (by simpa using HRA.out)
    generalize l.take k = k1 at *
    clear HR HRA hle hkl
    go_wp2_with fail
    go_loopw [5, 6, 7] (fun vi vj _ wr => ∃ (i j : Nat) (nj : Int) (oj kj : List Fr) (cj : Array Value), j ≤ m ∧ vi = .int .i64 i ∧ vj = .int .i64 j ∧ i < j ∧ DS gi go gs gr A n c w0 wr nj (ol ++ oj) cj ∧ RowAt cj cap m j i l kj ∧ Hid (RelAt nx l j nj oj kj) ∧ Hid (0 ≤ nj ∧ nj ≤ nx + j) ∧ Hid (oj.length ≤ j)) (fun _ vj _ _ => m - (intOf vj).toNat)
    case atStart => exact ⟨k, k + 1, n1, o1, k1, cur, by omega, rfl, by go_num, by omega, S, HRow, HRA2, HN, HOL2⟩
    case round =>
      clear S HRow HRA2 HN HOL2 hk0 hkm
      obtain ⟨i, j, nj, oj, kj, cj, hj, rfl, rfl, hij, S, HRow, HR, HN, HO⟩ := hrel
      by_cases hlt : j < m
      · have hjl : j < l.length := by have := HM.out; omega
        have HC := Lib.hid (fun W (S : DS gi go gs gr A n c w0 W nj (ol ++ oj) cj) => recv2_any l[j] W S (by have := HOL.out; have := HO.out; simp; omega) HN.out.1 (by have := HN.out.2; have := H1.out; omega))
        have hc := row_elem (j := j) (ad := ad) S.bs HAD.out HRow.tail hjl
        have HS := Lib.hid S
        by_cases hle : l[j].seq ≤ nj
        · have HRA := Lib.hid (HR.out.gone hjl hle)
          have HN2 : Hid (0 ≤ stepN nj l[j] ∧ stepN nj l[j] ≤ nx + (j + 1 : Nat)) := Lib.hid (by have := stepN_le nj l[j]; have := HN.out; omega)
          have HO2 : Hid ((oj ++ if l[j].seq = nj then [l[j]] else []).length ≤ j + 1) := Lib.hid (by have := HO.out; split <;> simp <;> omega)
          have hd : decide (l[j].seq ≤ nj) = true := by simpa using hle
          have HRow2 := HRow.skip hjl
          rw [hd, List.append_assoc] at HC
          generalize stepN nj l[j] = n2 at *
          generalize (oj ++ if l[j].seq = nj then [l[j]] else []) = o2 at *
          generalize l[j] = x at *
          clear hd hle S HR HN HO HRow
          go_wp2_with (first
            | (refine wpList_loadK (us := fv x) rfl rfl rfl aggFr sizeFr hc ?_)
            | (refine wpList_allocFr rfl rfl ?_; intro w2 g2 hg2 hbk hb2 hlt2; have Hg2 := Lib.hid hg2; clear hg2)
            | (refine wpList_put (vs := frC x) rfl rfl rfl rfl hbk rfl (by kernel_rfl) (one_frC x) ?_; intro w3 ht3 hbk3; have hb3 : Below wr.heap.size wr w3 := hb2.trans (ht3.below _ (by rw [Hg2.out]; exact Nat.le_refl _)); have S3 := HS.out.below hb3; clear hb2 ht3 hbk)
            | (refine wpList_loadRow rfl rfl rfl hbk3 aggFr sizeFr ?_))
          refine (HC.out _ S3).mono ?_
          rintro e w4 ⟨rfl, S4, -⟩
          go_wp2_with fail
          exact ⟨⟨i, j + 1, n2, o2, kj, cj, by omega, rfl, by go_num, by omega, S4, HRow2, HRA, HN2, HO2⟩, by simp [intOf]; omega⟩
        · have HRA := Lib.hid (HR.out.keep hjl (by omega))
          have HN2 : Hid (0 ≤ nj ∧ nj ≤ nx + (j + 1 : Nat)) := Lib.hid (by have := HN.out; omega)
          have HO2 : Hid (oj.length ≤ j + 1) := Lib.hid (by have := HO.out; omega)
          have hd : decide (l[j].seq ≤ nj) = false := by simpa using hle
          have hst : stepN nj l[j] = nj := by unfold stepN; rw [if_neg (by omega)]
          have hif : (if l[j].seq = nj then [l[j]] else []) = [] := by rw [if_neg (by omega)]
          have HRow2 := HRow.put hjl (by have := HM.out; omega)
          rw [hd, hst, hif, List.append_nil] at HC
          have HSZ : Hid (i * 3 + 3 ≤ cj.size) := Lib.hid (by have := HRow.size; omega)
          generalize l[j] = x at *
          have HX : Hid ((ad.add (i * 3)) = ⟨gs, i * 3, none⟩) := Lib.hid (by rw [HAD.out]; exact row_add _ _)
          clear hd hle S HR HN HO hst hif
          go_wp2_with (first
            | (refine wpList_loadK (us := fv x) rfl rfl rfl aggFr sizeFr hc ?_)
            | (refine wpList_allocFr rfl rfl ?_; intro w2 g2 hg2 hbk hb2 hlt2; have Hg2 := Lib.hid hg2; clear hg2)
            | (refine wpList_put (vs := frC x) rfl rfl rfl rfl hbk rfl (by kernel_rfl) (one_frC x) ?_; intro w3 ht3 hbk3; have hb3 : Below wr.heap.size wr w3 := hb2.trans (ht3.below _ (by rw [Hg2.out]; exact Nat.le_refl _)); have S3 := HS.out.below hb3; clear hb2 ht3 hbk)
            | (refine wpList_loadRow rfl rfl rfl hbk3 aggFr sizeFr ?_))
          refine (HC.out _ S3).mono ?_
          rintro e w4 ⟨rfl, S4, F4⟩
          have hbk4 : Blk w4 g2 49 (frC x) := by
            obtain ⟨v, bo, ho, -, -, -, -⟩ := HS.out.bo
            have h2 := Hg2.out
            refine F4 _ _ _ hbk3 ?_ ?_ ?_
            · have := HS.out.bi.lt; omega
            · have := bo.lt; omega
            · intro v' hv' e
              have h3 := bo.below hb3
              unfold Blk at h3 hv'
              rw [hv'] at h3
              simp at h3
              subst h3
              have := (World.ownsRow.lt ho _ e).2
              omega
          have him : i < m := by omega
          go_wp2_with (first
            | (refine wpList_loadRow rfl rfl rfl hbk4 aggFr sizeFr ?_)
            | (refine wpList_putAt (vs := fv x) rfl rfl rfl HX.out rfl S4.bs (by have := HSZ.out; rw [fv_len]; exact this) (by kernel_rfl) (one_fv x) ?_; intro w5 ht5 hb5; have S5 := S4.setS ht5 hb5))
          exact ⟨⟨i + 1, j + 1, nj, oj, kj ++ [x], _, by omega, by go_num, by go_num, by omega, S5, HRow2, HRA, HN2, HO2⟩, by simp [intOf]; omega⟩
      · obtain rfl : j = m := by omega
        have HRD := HR.out
        rw [← HM.out] at HRD
        have HD := Lib.hid HRD.done
        have hil := HRow.il
        have HIL := Lib.hid hil
        have HX : Hid ((ad.add (i * 3)) = ⟨gs, i * 3, none⟩) := Lib.hid (by rw [HAD.out]; exact row_add _ _)
        have HHead := Lib.hid HRow.head
        have HSize := Lib.hid HRow.size
        have hic : i ≤ cap := by omega
        have hne : ¬ cap = i := by omega
        clear HRD HR hil HN HO HRow
        go_wp2_with (refine wpList_clearB rfl rfl (.agg (frC fr0)) (by kernel_rfl) zeroFr (by intro v hv; simp [Value.cells, frC, fr0] at hv; rcases hv with rfl | rfl | rfl <;> rfl) rfl HX.out (by omega) S.bs (by have := HSize.out; simp [Value.cells, frC]; omega) ?_; intro w5 ht5 hb5; have S5 := S.setS ht5 hb5)
        have HS5 : Hid (((List.take (i * 3) cj.toList ++ (Builtin.zeroCells (Value.agg (frC fr0)).cells (j - i)).toList ++ List.drop (i * 3 + (Value.agg (frC fr0)).cells.size * (j - i)) cj.toList).toArray).size = cap * 3) := Lib.hid (by
          have h1 := HSize.out
          simp [zeroCells_len, Value.cells, frC]
          omega)
        have HT5 : Hid (((List.take (i * 3) cj.toList ++ (Builtin.zeroCells (Value.agg (frC fr0)).cells (j - i)).toList ++ List.drop (i * 3 + (Value.agg (frC fr0)).cells.size * (j - i)) cj.toList).toArray).toList.take (i * 3) = fvs kj) := Lib.hid (by
          rw [← HHead.out]
          show (List.take (i * 3) cj.toList ++ _ ++ _).take (i * 3) = _
          rw [List.append_assoc, List.take_append_of_le_length (by have := HSize.out; simp; omega), List.take_take, Nat.min_self])
        go_ret
        refine ⟨_, _, rfl, by rw [HD.out]; exact S5, ?_, by rw [HAD.out]; rfl⟩
        rw [HD.out, HAD.out]
        dsimp only
        rw [HIL.out]
        exact blk_ownsRow S5.ls hb5 hic HCM.out HS5.out HT5.out
  · have HR2 := Lib.hid HR.done
    have HOW : Hid (w1.ownsRow w0.heap.size 49 3 (.slice (some ad) m cap) m (fvs l)) := Lib.hid (by
      rw [HAD.out]
      exact blk_ownsRow S.ls S.bs hcap HCM.out HCS.out HCUR.out)
    clear HR
    go_wp2_with fail
    go_ret
    refine ⟨_, cur, rfl, by rw [HR2.out]; simpa using S, ?_, by rw [HAD.out]; rfl⟩
    rw [HR2.out]
    dsimp only
    rw [HM.out]
    exact HOW.out
theorem indexF_nil (A : Option Addr) (c : Nat) (fv : Value) (w : World) :
    Calls Try.prog 52 #[.slice A 0 c, fv] w fun e w' => e = .returned (.int .i64 (-1)) ∧ w = w' := by
  go_enter Try.func52, Try.ntmps52
  go_wp2_with fail
  refine wp_loop_rounds 1 ?_
  rw [rounds_succ]
  go_wp2
  go_ret
  exact ⟨rfl, rfl⟩
theorem deleteF_nil (A : Option Addr) (c : Nat) (fv : Value) (w : World) :
    Calls Try.prog 43 #[.slice A 0 c, fv] w fun e w' => e = .returned (.slice A 0 c) ∧ w = w' := by
  have HI := Lib.hid (indexF_nil A c fv w)
  go_enter Try.func43, Try.ntmps43
  go_wp2_with fail
  refine HI.out.mono ?_
  rintro e w' ⟨rfl, rfl⟩
  go_wp2_with fail
  go_ret
  exact ⟨rfl, rfl⟩
end Go.Proofs.Ytecklplohgfohaa
