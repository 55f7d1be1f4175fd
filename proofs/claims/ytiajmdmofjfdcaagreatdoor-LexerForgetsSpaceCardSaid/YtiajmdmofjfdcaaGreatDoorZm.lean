/-
  Tokens of the program. Conditions: the library's table of spaces stands; a source of at most 2^40 bytes.
-/
import Derived.Test.YtiajmdmofjfdcaaGreatDoorZl
namespace Go.Proofs.YtiajmdmofjfdcaaGreatDoor
set_option linter.unusedSimpArgs false
set_option linter.unusedVariables false
open Go.RowKit Lexr
def tokL (t : Tok) : List Value := lexL t.kind t.at_ t.s
theorem tokL_len (t : Tok) : (tokL t).length = 3 := rfl
theorem one_tokL (t : Tok) : ∀ u ∈ tokL t, u.oneCell' = true := by simp [tokL, lexL, Value.oneCell']
theorem lexL_len (k x : Int) (t : List UInt8) : (lexL k x t).length = 3 := rfl
theorem elemLx : ElemK Tryz.prog 23 44 3 := by
  obtain ⟨i, h1, h2, h3, h4⟩ := info_parts (show (Tryz.prog.info? 44).map (fun i => (i.zero, i.size, i.bytes)) = some (some (lexV 0 0 []), 3, 32) by kernel_rfl)
  exact ⟨by kernel_rfl, ⟨i, _, h1, h2, h3, by omega, by rfl⟩, by omega⟩
theorem build1_Lx (k x : Int) (t : List UInt8) (W : World) : (Instr.buildSlice 23 1 #[(0, lexV k x t)]).run Tryz.prog W = .ok (.slice (some ⟨W.heap.size, 0, none⟩) 1 1) (W.alloc (.cells (lexC k x t) 44)) := by kernel_rfl
theorem blk_rdL {W : World} {g : Nat} {T : TypeId} {xs : List Value} (h : Blk W g T xs.toArray) : Rd W (some ⟨g, 0, none⟩) xs.length xs :=
  ⟨rfl, fun j u hj => ⟨_, rfl, by
    have e : (⟨g, 0, none⟩ : Addr).add j = ⟨g, j, none⟩ := by unfold Addr.add; split <;> simp_all
    rw [e, h.cell j, List.getElem?_toArray]; exact hj⟩⟩
theorem wpList_lit1Lx {w : World} {ops : Array Oper} {rest : List Oper} {o : Oper} {a : Act} {Q : Exit → Act → World → Prop} (hgd : o.guard = none) {y : Operand} {k x : Int} {t : List UInt8} (ho : o.op = .buildSlice 23 1 #[(0, y)]) (hy : a.eval y = lexV k x t)
    (h : ∀ w' g, Rd w' (some ⟨g, 0, none⟩) (1 * 3) (lexL k x t) → Below w.heap.size w w' → wpList Tryz.prog ops Q rest (a.put o.dst (.slice (some ⟨g, 0, none⟩) 1 1)) w') : wpList Tryz.prog ops Q (o :: rest) a w := by
  refine wpList_plain hgd fun K hK => ?_
  have hbd := build1_Lx k x t w
  have hr := blk_rdL (xs := lexL k x t) (Blk.new w 44 (lexC k x t))
  have h2 := hK _ _ (h _ _ hr ((Below.refl _ _).alloc (Nat.le_refl _) _))
  clear h hr hK
  generalize lexV k x t = V at *
  generalize lexC k x t = LL at *
  unfold Oper.wp execOp
  simp only [ho, List.map_toArray, List.map_cons, List.map_nil, hy, hbd, Sem.run_bind, Result.andThen_ok, Sem.run_pure]
  exact h2
def joinT (ts : List Tok) : Except (Int × Int) (List Tok) → Except (Int × Int) (List Tok)
  | .error p => .error p
  | .ok us => .ok (ts ++ us)
theorem joinT_nil (x : Except (Int × Int) (List Tok)) : joinT [] x = x := by cases x <;> rfl
theorem joinT_join (ts us : List Tok) (x : Except (Int × Int) (List Tok)) : joinT ts (joinT us x) = joinT (ts ++ us) x := by
  cases x with
  | error p => rfl
  | ok vs => show Except.ok (ts ++ (us ++ vs)) = Except.ok (ts ++ us ++ vs); rw [List.append_assoc]
theorem toks_ok (L : List UInt8) (K fk : Nat) (b : UInt8) (L' : List UInt8) (h : L.drop K = b :: L') (r : Int × List UInt8 × Nat) (hx : nextT b L' = .ok r) :
    toks (fk + 1) K (L.drop K) = joinT [⟨r.1, (K : Int), r.2.1⟩] (toks fk (K + r.2.2 + skM false (L.drop (K + r.2.2))) (L.drop (K + r.2.2 + skM false (L.drop (K + r.2.2))))) := by
  have hd : (b :: L').drop r.2.2 = L.drop (K + r.2.2) := by rw [← h, List.drop_drop]
  have hd2 : (L.drop (K + r.2.2)).drop (skM false (L.drop (K + r.2.2))) = L.drop (K + r.2.2 + skM false (L.drop (K + r.2.2))) := by rw [List.drop_drop]
  rw [h]
  conv => lhs; unfold toks
  rw [hx]
  simp only
  rw [hd, hd2]
  cases toks fk (K + r.2.2 + skM false (L.drop (K + r.2.2))) (L.drop (K + r.2.2 + skM false (L.drop (K + r.2.2)))) <;> rfl
theorem toks_err (L : List UInt8) (K fk : Nat) (b : UInt8) (L' : List UInt8) (h : L.drop K = b :: L') (c : Int) (hx : nextT b L' = .error c) : toks (fk + 1) K (L.drop K) = .error ((K : Int), c) := by
  rw [h]
  conv => lhs; unfold toks
  rw [hx]
theorem toks_nil (f a : Nat) : toks f a [] = .ok [] := by cases f <;> rfl
/-- The tokens of a source, or what is wrong with it. -/
def ToIs (x : Except (Int × Int) (List Tok)) (w : World) (e : Ending) (w' : World) : Prop :=
  match x with
  | .error p => e = .returned (.tuple #[.slice none 0 0, .agg #[.int .i64 p.1, .int .i64 p.2]]) ∧ Below w.heap.size w w'
  | .ok ts => ∃ v, e = .returned (.tuple #[v, .agg #[.int .i64 0, .int .i64 0]]) ∧ w'.ownsRow w.heap.size 44 3 v ts.length (ts.flatMap tokL) ∧ Below w.heap.size w w'
structure ToPos (w : World) (B g2 g3 g4 g5 gf : Nat) : Prop where
  lo : w.heap.size ≤ g2 ∧ w.heap.size ≤ g3 ∧ w.heap.size ≤ g4 ∧ w.heap.size ≤ g5 ∧ w.heap.size ≤ gf
  hi : g2 < B ∧ g3 < B ∧ g4 < B ∧ g5 < B ∧ gf < B
  ne : g5 ≠ g2 ∧ g5 ≠ g3 ∧ g2 ≠ g3 ∧ g4 ≠ g2 ∧ g4 ≠ g3 ∧ g4 ≠ g5
  nf : gf ≠ g2 ∧ gf ≠ g4 ∧ gf ≠ g5
  tab : 0 ≠ g4 ∧ 0 < w.heap.size
/-- While tokens are read. -/
structure ToAt (w : World) (B g2 g3 g4 g5 gf : Nat) (s : ByteArray) (K : Nat) (x : Int) (v : Value) (ts : List Tok) (W : World) : Prop where
  re : ReAt W g4 s K
  lb : Blk W g2 23 #[v]
  pb : Blk W g3 26 #[.int .i64 0, .int .i64 0]
  ab : Blk W g5 3 #[.int .i64 x]
  fb : Blk W gf 69 formsC
  own : W.ownsRow B 44 3 v ts.length (ts.flatMap tokL)
  gt : GTab W
  gr : Below w.heap.size w W
  ge : B ≤ W.heap.size
theorem GTab.low {W W' : World} {B : Nat} (h : GTab W) (hb : Below B W W') (hB : 0 < B) : GTab W' := fun c hc => by
  have h1 := h c hc
  have e := hb.block 0 hB
  unfold World.cell? at h1 ⊢
  rw [e]; exact h1
theorem ownsRow_grew {w w' : World} {B g : Nat} {e : TypeId} {k : Nat} {v : Value} {n : Nat} {xs : List Value} (h : w.ownsRow B e k v n xs) (hg : Grew [g] w w') (hgB : g < B) : w'.ownsRow B e k v n xs := by
  refine ⟨h.1, ?_⟩
  rcases h.2 with h2 | ⟨p, cap, cur, hv, hp, hh, r⟩
  · exact .inl h2
  · refine .inr ⟨p, cap, cur, hv, hp, ?_, r⟩
    have hlt := (World.ownsRow.lt h p (by rw [hv]; rfl)).2
    rw [hg.block p hlt (by simp; omega)]; exact hh
section
variable {w W W' : World} {B g2 g3 g4 g5 gf : Nat} {s : ByteArray} {K : Nat} {x : Int} {v : Value} {ts : List Tok} (h : ToAt w B g2 g3 g4 g5 gf s K x v ts W)
include h
theorem ToAt.below (hb : Below W.heap.size W W') : ToAt w B g2 g3 g4 g5 gf s K x v ts W' :=
  ⟨h.re.below hb, h.lb.below hb, h.pb.below hb, h.ab.below hb, h.fb.below hb, ownsRow_below h.own hb, h.gt.below hb, h.gr.trans (hb.mono h.gr.size), Nat.le_trans h.ge hb.size⟩
variable (p : ToPos w B g2 g3 g4 g5 gf)
include p
theorem ToAt.moved {K' : Nat} (hg : Grew [g4] W W') (hr : ReAt W' g4 s K') : ToAt w B g2 g3 g4 g5 gf s K' x v ts W' := by
  have h1 := p.ne
  have h2 := p.nf
  exact ⟨hr, hg.blk h.lb (by simp; omega), hg.blk h.pb (by simp; omega), hg.blk h.ab (by simp; omega), hg.blk h.fb (by simp; omega), ownsRow_grew h.own hg p.hi.2.2.1, h.gt.grew hg p.tab.1,
    h.gr.trans (hg.below h.gr.size (by have := p.lo; simp; omega)), Nat.le_trans h.ge hg.size⟩
theorem ToAt.setAt {y : Int} (ht : Turned g5 W W') (hb : Blk W' g5 3 #[.int .i64 y]) : ToAt w B g2 g3 g4 g5 gf s K y v ts W' := by
  have h1 := p.ne
  have h2 := p.nf
  exact ⟨ht.blk h.re (by omega), ht.blk h.lb (by omega), ht.blk h.pb (by omega), hb, ht.blk h.fb (by omega), ht.own h.own (fun e => by have := (World.ownsRow.lt h.own _ e).1; have := p.hi; omega),
    h.gt.low (ht.below g5 (Nat.le_refl _)) (by have := p.tab; have := p.lo; omega), h.gr.trans (ht.below _ p.lo.2.2.2.1), by rw [ht.size]; exact h.ge⟩
theorem ToAt.setL {v' : Value} {ts' : List Tok} {W2 : World} (hb : Below B W W2) (ho : W2.ownsRow B 44 3 v' ts'.length (ts'.flatMap tokL)) (ht : Turned g2 W2 W') (hl : Blk W' g2 23 #[v']) : ToAt w B g2 g3 g4 g5 gf s K x v' ts' W' := by
  have h1 := p.ne
  have h2 := p.nf
  have h3 := p.hi
  exact ⟨ht.blk (Blk.below' h.re hb (by omega)) (by omega), hl, ht.blk (Blk.below' h.pb hb (by omega)) (by omega), ht.blk (Blk.below' h.ab hb (by omega)) (by omega), ht.blk (Blk.below' h.fb hb (by omega)) (by omega),
    ht.own ho (fun e => by have := (World.ownsRow.lt ho _ e).1; omega),
    (h.gt.low hb (by have := p.tab; have := p.lo; omega)).low (ht.below g2 (Nat.le_refl _)) (by have := p.tab; have := p.lo; omega),
    (h.gr.trans (hb.mono (by have := p.lo; omega))).trans (ht.below _ p.lo.1), by rw [ht.size]; exact Nat.le_trans h.ge hb.size⟩
end
theorem results_lp {P : Program} {fn : Func} {tmps : Array Value} {w : World} {g g2 : Nat} {t t2 : TypeId} {cs : Array Value} {u : Value} {p q : Tmp} {ty ty2 : TypeId} (h : fn.results = #[.cell q ty2, .cell p ty]) (hp : tmps.getD p undef = .pointer (some ⟨g, 0, none⟩))
    (hq : tmps.getD q undef = .pointer (some ⟨g2, 0, none⟩)) (hb : Blk w g t cs) (hb2 : Blk w g2 t2 #[u]) (hu : (P.underlying ty).map isAggDesc = some true) (hi : (P.info? ty).map (·.size) = some cs.size) (hu2 : (P.underlying ty2).map isAggDesc = some false) :
    (results fn tmps).run P w = .ok (.tuple #[u, .agg cs]) w := by
  have hp' : tmps[p]?.getD undef = .pointer (some ⟨g, 0, none⟩) := by simpa using hp
  have hq' : tmps[q]?.getD undef = .pointer (some ⟨g2, 0, none⟩) := by simpa using hq
  have hc : w.cell? ⟨g2, 0, none⟩ = some u := by have := hb2.cell 0; simpa using this
  simp [results, h, hp', hq', asAddr, run_loadVar_blk w g t ty cs hb hu hi, run_loadVar_one w _ ty2 u hu2 hc]
theorem blk_rowL {W : World} {g : Nat} {T : TypeId} {xs : List Value} (h : Blk W g T xs.toArray) : ∀ j u, xs[j]? = some u → W.cell? ((⟨g, 0, none⟩ : Addr).add j) = some u := fun j u hu => by
  have e : (⟨g, 0, none⟩ : Addr).add j = ⟨g, j, none⟩ := by unfold Addr.add; split <;> simp_all
  rw [e, h.cell j, List.getElem?_toArray]; exact hu
theorem leaves_same {P : Program} {fn : Func} {R : Ending → World → Prop} {tmps tmps' : Array Value} (h : results fn tmps = results fn tmps') : ∀ (ds : List Deferred) (u : FrameMode) (w : World), Leaves P fn tmps R ds u w → Leaves P fn tmps' R ds u w
  | [], .returning, w, ⟨v, h1, h2⟩ => ⟨v, by rw [← h]; exact h1, h2⟩
  | [], .panicking _, _, h1 => h1
  | [], .run, _, h1 => h1
  | d :: ds, u, w, ⟨hu, fv, cap, f, args, ht, hi, hc⟩ => ⟨hu, fv, cap, f, args, ht, hi, hc.mono fun e u' w' he => by
      cases e with
      | returned v => exact leaves_same h ds _ _ he
      | panicked c => exact leaves_same h ds _ _ he
      | outgrown => exact he⟩
theorem leaves_put {P : Program} {fn : Func} {R : Ending → World → Prop} {p q d : Tmp} {ty ty2 : TypeId} (h : fn.results = #[.cell q ty2, .cell p ty]) (hd : d ≠ p) (hq : d ≠ q) {c : List PanicEntry} {a : Act} {v : Value} {w : World}
    (hb : bodyPostD P fn R (.panic c) (a.put (some d) v) w) : bodyPostD P fn R (.panic c) a w := by
  refine leaves_same ?_ _ _ _ hb
  have e1 : (a.put (some d) v).tmps.getD p undef = a.tmps.getD p undef := by simp [Act.put, hd]
  have e2 : (a.put (some d) v).tmps.getD q undef = a.tmps.getD q undef := by simp [Act.put, hq]
  simp only [results, h, e1, e2, List.mapM_toArray, List.mapM_cons, List.mapM_nil]
theorem zeroLs (W : World) : (zeroValue 23).run Tryz.prog W = .ok (.slice none 0 0) W := by kernel_rfl
theorem zeroPr (W : World) : (zeroValue 26).run Tryz.prog W = .ok (.agg #[.int .i64 0, .int .i64 0]) W := by kernel_rfl
theorem zeroIn (W : World) : (zeroValue 3).run Tryz.prog W = .ok (.int .i64 0) W := by kernel_rfl
theorem zeroFr (W : World) : (zeroValue 69).run Tryz.prog W = .ok (.agg #[.nilFunc, .nilFunc]) W := by kernel_rfl
theorem aggPr : (Tryz.prog.underlying 26).map isAggDesc = some true := by kernel_rfl
theorem sizePr : (Tryz.prog.info? 26).map (·.size) = some 2 := by kernel_rfl
theorem aggFr : (Tryz.prog.underlying 69).map isAggDesc = some true := by kernel_rfl
theorem sizeFr : (Tryz.prog.info? 69).map (·.size) = some 2 := by kernel_rfl
theorem oneLs : (Tryz.prog.underlying 23).map isAggDesc = some false := by kernel_rfl
theorem wpList_new1L {P : Program} {w : World} {ops : Array Oper} {rest : List Oper} {o : Oper} {a : Act} {Q : Exit → Act → World → Prop} (hgd : o.guard = none) {t : TypeId} (ho : o.op = .alloc t) {z : Value} (hz : ∀ w, (zeroValue t).run P w = .ok z w) (hc : z.cells = #[z])
    (h : ∀ w' g, g = w.heap.size → Blk w' g t #[z] → Below w.heap.size w w' → g < w'.heap.size → wpList P ops Q rest (a.put o.dst (.pointer (some ⟨g, 0, none⟩))) w') : wpList P ops Q (o :: rest) a w :=
  wpList_plain hgd fun _ hK => wp_alloc (z := z) ho (hz w) (hK _ _ (h _ _ rfl (by rw [hc]; exact Blk.new _ _ _) ((Below.refl _ _).alloc (Nat.le_refl _) _) (by rw [hc]; exact (Blk.new _ _ _).lt)))
theorem wpList_boxLx {P : Program} {w : World} {ops : Array Oper} {rest : List Oper} {o : Oper} {a : Act} {Q : Exit → Act → World → Prop} (hgd : o.guard = none) {e : TypeId} {x : Operand} {v : Value} (ho : o.op = .box e x) (hx : a.eval x = v)
    (h : ∀ w' g, g = w.heap.size → Blk w' g e v.cells → Below w.heap.size w w' → g < w'.heap.size → wpList P ops Q rest (a.put o.dst (.pointer (some ⟨g, 0, none⟩))) w') : wpList P ops Q (o :: rest) a w :=
  wpList_plain hgd fun K hK => by
    unfold Oper.wp execOp
    simp only [ho, hx, Instr.box, newVar, newRow, Sem.run_bind, Result.andThen_ok, run_newObj_alloc, Sem.run_pure]
    exact hK _ _ (h _ _ rfl (Blk.new _ _ _) ((Below.refl _ w).alloc (Nat.le_refl _) _) (Blk.new _ _ _).lt)
theorem forms_any2 (w : World) : Calls Tryz.prog 27 #[] w fun e w' => ∃ gf, e = .returned (.slice (some ⟨gf, 0, none⟩) 4 4) ∧ Blk w' gf 69 formsC ∧ w.heap.size ≤ gf ∧ gf < w'.heap.size ∧ Below w.heap.size w w' :=
  (forms_any w).mono fun e w' h => ⟨_, h.1, h.2.1, Nat.le_refl _, h.2.1.lt, h.2.2⟩
theorem forms_at {W : World} {gf : Nat} (h : Blk W gf 69 formsC) (k : Nat) {a b : Value} (ha : formsC[k]? = some a) (hb : formsC[k + 1]? = some b) : ∀ i u, [a, b][i]? = some u → W.cell? ((⟨gf, k, none⟩ : Addr).add i) = some u := fun i u hu => by
  have e : (⟨gf, k, none⟩ : Addr).add i = ⟨gf, k + i, none⟩ := by unfold Addr.add; split <;> simp_all
  rw [e, h.cell]
  match i, hu with
  | 0, hu => rw [Nat.add_zero, ha]; exact hu
  | 1, hu => rw [hb]; exact hu
set_option maxRecDepth 100000 in
set_option maxHeartbeats 16000000 in
theorem tokens_any (s : ByteArray) (w : World) (hs : s.size ≤ 1099511627776) (hg : GTab w) : Calls Tryz.prog 10 #[.string s] w (ToIs (tokens s.data.toList) w) := by
  have hl : s.data.toList.length = s.size := (Lib.size_eq s).symm
  have HL := Lib.hid hl
  have HG := Lib.hid hg
  have hmf : ∀ (fn : Fn) (first cap : Array Value) (w : World), (Instr.makeFunc fn first cap).run Tryz.prog w = .ok (.func fn first cap) w := fun _ _ _ _ => rfl
  by_cases hbig : 65536 < s.size
  · have hX : tokens s.data.toList = .error (0, 2) := by unfold tokens; rw [if_pos (by omega)]
    rw [hX]
    unfold ToIs
    dsimp only
    have dk : decide ((65536 : Int) < (s.size : Int)) = true := by rw [decide_eq_true_eq]; omega
    have dkn : decide (65536 < s.size) = true := by rw [decide_eq_true_eq]; omega
    clear hX hl hg hbig
    go_enter_defers Tryz.func10, Tryz.ntmps10
    go_upto_region 1 with (first
      | ((with_reducible show wpList _ _ _ ({ dst := some 2, op := _, type := _, pos := _, after := _, guard := _ } :: _) _ _); refine wpList_new1L rfl rfl zeroLs rfl ?_; intro w1 g2 hg2 b2 hb1 lt2; have HG2 := Lib.hid (And.intro hg2 lt2); clear hg2 lt2)
      | ((with_reducible show wpList _ _ _ ({ dst := some 3, op := _, type := _, pos := _, after := _, guard := _ } :: _) _ _); refine wpList_new (cs := #[.int .i64 0, .int .i64 0]) rfl rfl zeroPr ?_; intro w2 g3 hg3 b3 hb2 lt3; have HG3 := Lib.hid (And.intro hg3 lt3); clear hg3 lt3))
    have HB12 := Lib.hid (And.intro hb1 hb2)
    have HB2 := Lib.hid (b2.below hb2)
    have HB3 := Lib.hid b3
    clear b2 b3 hb1 hb2
    have b2 := HB2.out
    have hne : g3 ≠ g2 := by have := HG2.out; have := HG3.out; omega
    have HNE := Lib.hid hne
    clear hne
    go_wp2_with (first
      | (refine wpList_set (g := g2) (j := 0) (v := .slice none 0 0) (cs' := #[.slice none 0 0]) rfl rfl (by kernel_rfl) rfl rfl rfl b2 (by simp) (by simp) ?_; intro w3 ht3 b4; have b5 := ht3.blk HB3.out HNE.out)
      | (refine wpList_put (vs := #[.int .i64 0, .int .i64 2]) rfl rfl rfl rfl b5 rfl (by rw [sizePr]; rfl) (by simp [Value.oneCell']) ?_; intro w9 ht9 b9))
    have hw : Below w.heap.size w w9 := ((bstep HB12.out.1 HB12.out.2).trans (ht3.below _ (by have := HG2.out; omega))).trans (ht9.below _ (by have := HG2.out; have := HG3.out; omega))
    exact ⟨_, results_lp rfl rfl rfl b9 (ht9.blk b4 (fun e => HNE.out e.symm)) aggPr (by rw [sizePr]; rfl) oneLs, rfl, hw⟩
  · obtain ⟨X, hX⟩ : ∃ X, tokens s.data.toList = X := ⟨_, rfl⟩
    obtain ⟨K0, hK0⟩ : ∃ K0, 0 + skM false (s.data.toList.drop 0) = K0 := ⟨_, rfl⟩
    have HX0 : Hid (X = joinT [] (toks s.size K0 (s.data.toList.drop K0))) := Lib.hid (by
      rw [joinT_nil, ← hX, ← hK0]
      unfold tokens
      rw [if_neg (by omega), hl, Nat.zero_add, List.drop_zero])
    have hK0s : K0 ≤ s.size := by
      have := skM_le (s.data.toList.drop 0) false
      rw [List.length_drop, hl] at this
      omega
    have HK0 := Lib.hid hK0
    obtain ⟨R, hR⟩ : ∃ R, ToIs (tokens s.data.toList) w = R := ⟨_, rfl⟩
    have HE : Hid (∀ p, X = .error p → ∀ w', Below w.heap.size w w' → R (.returned (.tuple #[.slice none 0 0, .agg #[.int .i64 p.1, .int .i64 p.2]])) w') := Lib.hid (fun p hp w' h => by rw [← hR, hX, hp]; exact ⟨rfl, h⟩)
    have HO : Hid (∀ ts, X = .ok ts → ∀ v w', w'.ownsRow w.heap.size 44 3 v ts.length (ts.flatMap tokL) → Below w.heap.size w w' → R (.returned (.tuple #[v, .agg #[.int .i64 0, .int .i64 0]])) w') := Lib.hid (fun ts hp v w' h1 h => by rw [← hR, hX, hp]; exact ⟨v, rfl, h1, h⟩)
    have HSP := Lib.hid (fun K W (h : ∃ g, ReAt W g s K) (hK : K ≤ s.size) => (show ∀ g, ReAt W g s K → Calls Tryz.prog 28 #[.pointer (some ⟨g, 0, none⟩)] W (SpIs s g K W) from fun g h => space_any g s K W h hK (by omega)))
    have dk : decide ((65536 : Int) < (s.size : Int)) = false := by rw [decide_eq_false_iff_not]; omega
    have dkn : decide (65536 < s.size) = false := by rw [decide_eq_false_iff_not]; omega
    rw [hR]
    clear hX hR hK0 hl hg hbig
    go_enter_defers Tryz.func10, Tryz.ntmps10
    go_upto_region 1 with (first
      | ((with_reducible show wpList _ _ _ ({ dst := some 2, op := _, type := _, pos := _, after := _, guard := _ } :: _) _ _); refine wpList_new1L rfl rfl zeroLs rfl ?_; intro w1 g2 hg2 b2 hb1 lt2; have HG2 := Lib.hid (And.intro hg2 lt2); clear hg2 lt2)
      | ((with_reducible show wpList _ _ _ ({ dst := some 3, op := _, type := _, pos := _, after := _, guard := _ } :: _) _ _); refine wpList_new (cs := #[.int .i64 0, .int .i64 0]) rfl rfl zeroPr ?_; intro w2 g3 hg3 b3 hb2 lt3; have HG3 := Lib.hid (And.intro hg3 lt3); clear hg3 lt3))
    have HB12 := Lib.hid (And.intro hb1 hb2)
    have HB2 := Lib.hid (b2.below hb2)
    have HB3 := Lib.hid b3
    clear b2 b3 hb1 hb2
    obtain ⟨w3, hw3, hb3, b4⟩ : ∃ w3 : World, w3 = w2.alloc (.cells #[.string s, .int .i64 0] 63) ∧ Below w2.heap.size w2 w3 ∧ Blk w3 w2.heap.size 63 #[.string s, .int .i64 0] := ⟨_, rfl, (Below.refl _ _).alloc (Nat.le_refl _) _, Blk.new _ _ _⟩
    have HW3 := Lib.hid hw3
    have HG4 : Hid (w2.heap.size = w2.heap.size ∧ w2.heap.size < w3.heap.size) := Lib.hid ⟨rfl, b4.lt⟩
    obtain ⟨g4, hg4⟩ : ∃ g, g = w2.heap.size := ⟨_, rfl⟩
    have HG4e := Lib.hid hg4
    have HG4 : Hid (g4 = w2.heap.size ∧ g4 < w3.heap.size) := Lib.hid ⟨hg4, by rw [hg4]; exact b4.lt⟩
    have HB4 : Hid (Blk w3 g4 63 #[.string s, .int .i64 0]) := Lib.hid (by rw [hg4]; exact b4)
    have HB3w := Lib.hid hb3
    clear hw3 hb3 b4 hg4
    go_upto_region 6 with (first
      | ((with_reducible show wpList _ _ _ ({ dst := some 5, op := _, type := _, pos := _, after := _, guard := _ } :: _) _ _); refine wpList_new1L rfl rfl zeroIn rfl ?_; intro w4 g5 hg5 b5 hb4 lt5; rw [← HW3.out] at hg5 hb4; have HG5 := Lib.hid (And.intro hg5 lt5); have HB4w := Lib.hid hb4; clear hg5 lt5 hb4)
      | ((with_reducible show wpList _ _ _ ({ dst := none, op := _, type := _, pos := _, after := _, guard := _ } :: _) _ _); refine wpList_set (g := g5) (j := 0) (v := .int .i64 0) (cs' := #[.int .i64 0]) rfl rfl (by kernel_rfl) rfl rfl rfl b5 (by simp) (by simp) ?_; intro w5 ht5 b5'))
    rw [← HG4e.out]
    have hz5 := ht5.size
    have hb35 : Below w3.heap.size w3 w5 := HB4w.out.trans (ht5.below _ (by have := HG5.out; omega))
    have HC2 := Lib.hid ((HB2.out.below HB3w.out).below hb35)
    have HC3 := Lib.hid ((HB3.out.below HB3w.out).below hb35)
    have HC4 := Lib.hid (HB4.out.below hb35)
    have HC5 := Lib.hid b5'
    have hb05 : Below w.heap.size w w5 := bstep (bstep HB12.out.1 HB12.out.2) (bstep HB3w.out hb35)
    have HSZ : Hid (w.heap.size ≤ g2 ∧ g2 < g3 ∧ g3 < g4 ∧ g4 < g5 ∧ g5 < w5.heap.size) := Lib.hid (by have := HG2.out; have := HG3.out; have := HG4.out; have := HG5.out; have := HB12.out.1.size; omega)
    have HB05 := Lib.hid hb05
    clear HB2 HB3 HB4 b5' b5 ht5 hb35 hb05 hz5 HG2 HG3 HG4 HG4e HW3 HG5 HB12 HB3w HB4w
    go_wp2_with fail
    refine (forms_any2 _).mono ?_
    rintro e w6 ⟨gf, rfl, bf, hf1, hf2, hb6⟩
    have HPOS : Hid (ToPos w w6.heap.size g2 g3 g4 g5 gf) := Lib.hid (by
      have h1 := HSZ.out
      have h2 : 0 < w.heap.size := World.block_lt_of_cell? _ _ (HG.out 0 (by omega))
      have h3 := hb6.size
      exact ⟨⟨by omega, by omega, by omega, by omega, by omega⟩, ⟨by omega, by omega, by omega, by omega, by omega⟩, ⟨by omega, by omega, by omega, by omega, by omega, by omega⟩, ⟨by omega, by omega, by omega⟩, ⟨by omega, by omega⟩⟩)
    have HT6 : Hid (ToAt w w6.heap.size g2 g3 g4 g5 gf s 0 0 (.slice none 0 0) [] w6) := Lib.hid ⟨HC4.out.below hb6, HC2.out.below hb6, HC3.out.below hb6, HC5.out.below hb6, bf, World.ownsRow_nil _ _ _ _, (HG.out.below HB05.out).below hb6, bstep HB05.out hb6, Nat.le_refl _⟩
    obtain ⟨B, hB⟩ : ∃ B, w6.heap.size = B := ⟨_, rfl⟩
    rw [hB] at HPOS HT6
    clear hB bf hf1 hf2 hb6 HC2 HC3 HC4 HC5 HSZ HB05 HSP HG
    go_wp2_with fail
    refine (space_any g4 s 0 w6 HT6.out.re (by omega) (by omega)).mono ?_
    rintro e w7 ⟨rfl, hr7, hg7⟩
    rw [HK0.out] at hr7
    have HT7 := Lib.hid (HT6.out.moved HPOS.out hg7 hr7)
    clear hr7 hg7 HT6 HK0 dk dkn
    go_wp2_with fail
    try simp only [Act.put, List.setIfInBounds_toArray, List.set_cons_zero, List.set_cons_succ]
    go_loopg [] s.size (fun f wr => ∃ (K : Nat) (x : Int) (v : Value) (ts : List Tok), K ≤ s.size ∧ s.size ≤ f + K ∧ Hid (ts.length ≤ K) ∧ Hid (X = joinT ts (toks f K (s.data.toList.drop K))) ∧ Hid (ToAt w B g2 g3 g4 g5 gf s K x v ts wr))
    case atStart => exact ⟨K0, 0, _, [], hK0s, by omega, Lib.hid (Nat.zero_le _), HX0, HT7⟩
    case round =>
      obtain ⟨K, x0, v, ts, hK, hf, HLN, HX, HT⟩ := hrel
      obtain ⟨A, c, rfl, hnc, hcm, -⟩ := ownsRow_form HT.out.own
      clear HX0 HT7 hK0s
      have cA := HT.out.re.c1
      by_cases hge : s.size ≤ K
      · have dk : decide ((K : Int) < (s.size : Int)) = false := by rw [decide_eq_false_iff_not]; omega
        have dkn : decide (K < s.size) = false := by rw [decide_eq_false_iff_not]; omega
        have hXo : X = .ok ts := by
          rw [HX.out, List.drop_of_length_le (by rw [HL.out]; omega), toks_nil]
          show Except.ok (ts ++ []) = _
          rw [List.append_nil]
        have HXO := Lib.hid hXo
        have c2 : wr.cell? ⟨g2, 0, none⟩ = some (.slice A ts.length c) := by have := HT.out.lb.cell 0; simpa using this
        have b2 := HT.out.lb
        clear hXo HX hge
        go_upto_region 19 with fail
        go_wp2_with (first
          | (refine wpList_set (g := g2) (j := 0) (v := .slice A ts.length c) (cs' := #[.slice A ts.length c]) rfl rfl (by kernel_rfl) rfl rfl rfl b2 (by simp) (by simp) ?_; intro w8 ht8 b8; have b3 := ht8.blk HT.out.pb (fun e => HPOS.out.ne.2.2.1 e.symm))
          | (refine wpList_put (vs := #[.int .i64 0, .int .i64 0]) rfl rfl rfl rfl b3 rfl (by rw [sizePr]; rfl) (by simp [Value.oneCell']) ?_; intro w9 ht9 b9))
        refine leaves_cons (f := 26) (args := #[.pointer (some ⟨g5, 0, none⟩), .pointer (some ⟨g2, 0, none⟩), .pointer (some ⟨g3, 0, none⟩)]) (by simp) (by simp [go_sem]) ?_
        refine (idle g5 g2 g3 _).mono ?_
        rintro z u' w' ⟨rfl, rfl, rfl⟩
        exact ⟨_, results_lp rfl rfl rfl b9 (ht9.blk b8 HPOS.out.ne.2.2.1) aggPr (by rw [sizePr]; rfl) oneLs, HO.out ts HXO.out _ _ (ownsRow_lower (ht9.own (ht8.own HT.out.own (fun e => by have h1 := (World.ownsRow.lt HT.out.own _ e).1; have h2 := HPOS.out.hi; omega)) (fun e => by have h1 := (World.ownsRow.lt HT.out.own _ e).1; have h2 := HPOS.out.hi; omega)) (by have := HPOS.out.lo; have := HPOS.out.hi; omega)) ((HT.out.gr.trans (ht8.below _ HPOS.out.lo.1)).trans (ht9.below _ HPOS.out.lo.2.1))⟩
      · have hlt : K < s.size := by omega
        have dk : decide ((K : Int) < (s.size : Int)) = true := by rw [decide_eq_true_eq]; omega
        have dkn : decide (K < s.size) = true := by rw [decide_eq_true_eq]; omega
        obtain ⟨fk, hfk⟩ : ∃ fk, gk = fk + 1 := ⟨gk - 1, by omega⟩
        obtain ⟨b, hbv⟩ : ∃ b : UInt8, s[K] = b := ⟨_, rfl⟩
        obtain ⟨L', hL'⟩ : ∃ L', s.data.toList.drop (K + 1) = L' := ⟨_, rfl⟩
        have hdr : s.data.toList.drop K = b :: L' := by rw [List.drop_eq_getElem_cons (by rw [HL.out]; exact hlt), list_get s K hlt, hbv, hL']
        obtain ⟨x, hx⟩ : ∃ x, nextT b L' = x := ⟨_, rfl⟩
        have HXE : Hid (∀ e, x = .error e → X = .error ((K : Int), e)) := Lib.hid (fun e he => by
          rw [HX.out, hfk, toks_err _ K fk b L' hdr e (by rw [hx, he])]; rfl)
        have HXK : Hid (∀ r, x = .ok r → X = joinT (ts ++ [⟨r.1, (K : Int), r.2.1⟩]) (toks fk (K + r.2.2 + skM false (s.data.toList.drop (K + r.2.2))) (s.data.toList.drop (K + r.2.2 + skM false (s.data.toList.drop (K + r.2.2))))) ∧ 1 ≤ r.2.2 ∧ K + r.2.2 ≤ s.size) := Lib.hid (fun r hr => by
          have hn := nextT_len (show nextT b L' = .ok r by rw [hx, hr])
          refine ⟨by rw [HX.out, hfk, toks_ok _ K fk b L' hdr r (by rw [hx, hr]), joinT_join], hn.1, ?_⟩
          have h2 := congrArg List.length hdr
          rw [List.length_drop, HL.out] at h2
          have h3 := hn.2
          omega)
        have HR0 : Hid (sm b = true → ∀ W, ToAt w B g2 g3 g4 g5 gf s K (K : Int) (.slice A ts.length c) ts W → Calls Tryz.prog 42 #[.pointer (some ⟨g4, 0, none⟩)] W (TkIs x s g4 K W)) := Lib.hid (fun h1 W h => by
          have := name_any g4 s K W h.re hK (by omega) h.gt HPOS.out.tab.1
          rwa [hdr, show nameT (b :: L') = x by rw [← hx]; unfold nextT; rw [if_pos h1]] at this)
        have HR1 : Hid (sm b = false → d9 b = true → ∀ W, ToAt w B g2 g3 g4 g5 gf s K (K : Int) (.slice A ts.length c) ts W → Calls Tryz.prog 44 #[.pointer (some ⟨g4, 0, none⟩)] W (TkIs x s g4 K W)) := Lib.hid (fun h0 h1 W h => by
          have := number_any g4 s K W h.re hlt (by rw [hbv]; exact h1) (by omega)
          rwa [hdr, show numT (b :: L') = x by rw [← hx]; unfold nextT; rw [if_neg (by rw [h0]; simp), if_pos h1]] at this)
        have HR2 : Hid (sm b = false → d9 b = false → q34 b = true → ∀ W, ToAt w B g2 g3 g4 g5 gf s K (K : Int) (.slice A ts.length c) ts W → Calls Tryz.prog 46 #[.pointer (some ⟨g4, 0, none⟩)] W (TkIs x s g4 K W)) := Lib.hid (fun h0 h1 h2 W h => by
          have := text_any g4 s K W h.re hlt hs
          rwa [hdr, show textT (b :: L') = x by rw [← hx]; unfold nextT; rw [if_neg (by rw [h0]; simp), if_neg (by rw [h1]; simp), if_pos (by simpa [q34] using h2)]] at this)
        have HR3 : Hid (sm b = false → d9 b = false → q34 b = false → ∀ W, ToAt w B g2 g3 g4 g5 gf s K (K : Int) (.slice A ts.length c) ts W → Calls Tryz.prog 48 #[.pointer (some ⟨g4, 0, none⟩)] W (TkIs x s g4 K W)) := Lib.hid (fun h0 h1 h2 W h => by
          have := sign_any g4 s K W h.re hlt hs h.gt HPOS.out.tab.1
          rwa [hdr, show signT (b :: L') = x by rw [← hx]; unfold nextT; rw [if_neg (by rw [h0]; simp), if_neg (by rw [h1]; simp), if_neg (by simpa [q34] using h2)]] at this)
        have HFK : Hid (gk = fk + 1 ∧ s.size ≤ gk + K) := Lib.hid ⟨hfk, hf⟩
        have b5 := HT.out.ab
        clear HX hdr hL' hx hfk hf
        go_upto_region 12 with ((with_reducible show wpList _ _ _ ({ dst := none, op := _, type := _, pos := _, after := _, guard := _ } :: _) _ _); refine wpList_set (g := g5) (j := 0) (v := .int .i64 (K : Int)) (cs' := #[.int .i64 (K : Int)]) rfl rfl (by kernel_rfl) rfl rfl rfl b5 (by simp) (by simp) ?_; intro w1 ht1 b1)
        have HT1 := Lib.hid (HT.out.setAt HPOS.out ht1 b1)
        clear b5 ht1 b1 cA HT dk dkn
        try simp only [Act.put, List.setIfInBounds_toArray, List.set_cons_zero, List.set_cons_succ]
        go_loopg [36] 4 (fun m v36 wq => ∃ j : Nat, m = 4 - j ∧ v36 = .int .i64 (j : Int) ∧ j ≤ 3 ∧ Hid ((0 < j → sm b = false) ∧ (1 < j → d9 b = false) ∧ (2 < j → q34 b = false)) ∧ Hid (ToAt w B g2 g3 g4 g5 gf s K (K : Int) (.slice A ts.length c) ts wq))
        case atStart => exact ⟨0, rfl, rfl, by omega, Lib.hid ⟨fun h => absurd h (by omega), fun h => absurd h (by omega), fun h => absurd h (by omega)⟩, HT1⟩
        case round =>
          obtain ⟨j, hm, rfl, hj, HQ, HT⟩ := hrel
          have HM := Lib.hid hm
          clear HT1 hm
          have hj4 : j = 0 ∨ j = 1 ∨ j = 2 ∨ j = 3 := by omega
          rcases hj4 with rfl | rfl | rfl | rfl
          · obtain ⟨pb, hpb⟩ : ∃ pb, sm b = pb := ⟨_, rfl⟩
            have HPB := Lib.hid hpb
            clear hpb
            cases pb with
            | true =>
              have hcf := forms_at HT.out.fb 0 (a := .func (.func 41) #[] #[]) (b := .func (.func 42) #[] #[]) rfl rfl
              go_upto_region 14 with (first
                | ((with_reducible show wpList _ _ _ ({ dst := some 39, op := _, type := _, pos := _, after := _, guard := _ } :: _) _ _); refine wpList_loadK (us := [.func (.func 41) #[] #[], .func (.func 42) #[] #[]]) rfl rfl rfl aggFr (by rw [sizeFr]; rfl) hcf ?_)
                | ((with_reducible show wpList _ _ _ ({ dst := some 8, op := _, type := _, pos := _, after := _, guard := _ } :: _) _ _); refine wpList_new (cs := #[.nilFunc, .nilFunc]) rfl rfl zeroFr ?_; intro w2 g8 hg8 b8 hb2 lt8; have HG8 := Lib.hid hg8; clear hg8 lt8)
                | ((with_reducible show wpList _ _ _ ({ dst := none, op := _, type := _, pos := _, after := _, guard := _ } :: _) _ _); refine wpList_put (vs := #[.func (.func 41) #[] #[], .func (.func 42) #[] #[]]) rfl rfl rfl rfl b8 rfl (by rw [sizeFr]; rfl) (by simp [Value.oneCell']) ?_; intro w3 ht3 b9))
              have hb3 : Below wr.heap.size wr w3 := hb2.trans (ht3.below _ (by have := HG8.out; omega))
              have HT3 := Lib.hid (HT.out.below hb3)
              have c80 : w3.cell? ⟨g8, 0, none⟩ = some (.func (.func 41) #[] #[]) := by have := b9.cell 0; simpa using this
              have c81 : w3.cell? ⟨g8, 1, none⟩ = some (.func (.func 42) #[] #[]) := by have := b9.cell 1; simpa using this
              have cK : w3.cell? ⟨g5, 0, none⟩ = some (.int .i64 (K : Int)) := by have := HT3.out.ab.cell 0; simpa using this
              clear hcf b8 hb2 ht3 b9 hb3 HT HG8
              have HBG : Hid (∀ W, Calls Tryz.prog 41 #[.int .u8 (b.toNat : Int)] W fun e w' => e = .returned (.bool true) ∧ w' = W) := Lib.hid (fun W => by have h := isSmall_any b W; rw [HPB.out] at h; exact h)
              go_upto_region 14 with fail
              have hS : Below w3.heap.size w3 w3.drew := (Below.refl _ _).drew
              refine wp_region_T 6 (by kernel_rfl) ?_
              -- region 14: 6 operations, tail from 6
              refine WpT.take (i := 0) rfl (by kernel_rfl) (fun c a w h => leaves_put rfl (by decide) (by decide) h) (.inl ⟨by rfl, fun w hSw => by clear hSw; go_simp; (try go_bits); (try rw [if_pos (by omega)]); (try with_reducible rfl)⟩) (hS) ?_
              try simp only [Act.put, List.setIfInBounds_toArray, List.set_cons_zero, List.set_cons_succ]
              refine WpT.take (i := 1) rfl (by kernel_rfl) (fun c a w h => leaves_put rfl (by decide) (by decide) h) (yields_load rfl rfl rfl (by kernel_rfl) c80) (hS) ?_
              try simp only [Act.put, List.setIfInBounds_toArray, List.set_cons_zero, List.set_cons_succ]
              refine WpT.take (i := 2) rfl (by kernel_rfl) (fun c a w h => leaves_put rfl (by decide) (by decide) h) (.inl ⟨by rfl, fun w hSw => by clear hSw; go_simp; (try go_bits); (try rw [if_pos (by omega)]); (try with_reducible rfl)⟩) (hS) ?_
              try simp only [Act.put, List.setIfInBounds_toArray, List.set_cons_zero, List.set_cons_succ]
              refine WpT.take (i := 3) rfl (by kernel_rfl) (fun c a w h => leaves_put rfl (by decide) (by decide) h) (yields_load rfl rfl rfl (by kernel_rfl) cK) (hS) ?_
              try simp only [Act.put, List.setIfInBounds_toArray, List.set_cons_zero, List.set_cons_succ]
              refine WpT.take (i := 4) rfl (by kernel_rfl) (fun c a w h => leaves_put rfl (by decide) (by decide) h) (.inl ⟨by rfl, fun w hSw => by clear hSw; go_simp; (try go_bits); (try rw [if_pos (by omega)]); (try with_reducible rfl)⟩) (hS) ?_
              try simp only [Act.put, List.setIfInBounds_toArray, List.set_cons_zero, List.set_cons_succ]
              refine WpT.one (i := 5) rfl (by kernel_rfl) (fun K hK => ?_)
              go_simp; refine (HBG.out _).mono ?_; rintro e w5 ⟨rfl, hw5⟩; subst hw5
              refine hK _ _ (hS) ?_; clear hK K; try simp only [Act.put, List.setIfInBounds_toArray, List.set_cons_zero, List.set_cons_succ]
              refine WpT.done (by kernel_rfl) ?_ _
              skip
              have HT4 := Lib.hid (HT3.out.below hS)
              have c81' := cell_later hS c81
              clear c80 c81 cK hS HT3 HBG
              have HRD := Lib.hid (HR0.out  HPB.out _ HT4.out)
              clear HR0 HR1 HR2 HR3
              go_wp2_with fail
              refine HRD.out.mono ?_
              rintro e w5 h5
              clear HRD c81'
              cases x with
              | error c0 =>
                obtain ⟨rfl, hg5⟩ := h5
                have HT5 := HT4.out
                have hq1 : Blk w5 g5 3 #[.int .i64 (K : Int)] := hg5.blk HT5.ab (by have := HPOS.out.ne; simp; omega)
                have hq2 : Blk w5 g2 23 #[.slice A ts.length c] := hg5.blk HT5.lb (by have := HPOS.out.ne; simp; omega)
                have hq3 : Blk w5 g3 26 #[.int .i64 0, .int .i64 0] := hg5.blk HT5.pb (by have := HPOS.out.ne; simp; omega)
                have hbw5 : Below w.heap.size w w5 := HT5.gr.trans (hg5.below HT5.gr.size (by have := HPOS.out.lo; simp; omega))
                have hne3 : g5 ≠ g2 ∧ g5 ≠ g3 ∧ g2 ≠ g3 := by have := HPOS.out.ne; omega
                go_wp2_with fail
                refine leaves_cons (f := 26) (args := #[.pointer (some ⟨g5, 0, none⟩), .pointer (some ⟨g2, 0, none⟩), .pointer (some ⟨g3, 0, none⟩)]) (by simp) (by simp [go_sem]) ?_
                refine (caught g5 g2 g3 (K : Int) c0 _ 0 0 [] w5 hq1 hq2 hq3 hne3).mono ?_
                rintro z u' w' ⟨rfl, rfl, h1, h2, h3⟩
                exact ⟨_, results_lp rfl rfl rfl h2 h1 aggPr (by rw [sizePr]; rfl) oneLs, HE.out _ (HXE.out c0 rfl) _ (hbw5.trans (h3.below hbw5.size (by have := HPOS.out.lo; simp; omega)))⟩
              | ok r =>
                obtain ⟨rfl, hr5, hg5⟩ := h5
                have HT5 := Lib.hid (HT4.out.moved HPOS.out hg5 hr5)
                clear hr5 hg5 HT4 HXE
                go_upto_region 16 with (first
                  | ((with_reducible show wpList _ _ _ ({ dst := some 9, op := _, type := _, pos := _, after := _, guard := _ } :: _) _ _); refine wpList_new (cs := lexC 0 0 []) rfl rfl zeroLx ?_; intro w6 g9 hg9 b6 hb6 lt9; have HG9 := Lib.hid hg9; clear hg9 lt9)
                  | ((with_reducible show wpList _ _ _ ({ dst := none, op := _, type := _, pos := _, after := _, guard := _ } :: _) _ _); refine wpList_put (vs := lexC r.1 0 r.2.1) rfl rfl rfl rfl b6 rfl (by rw [sizeLx, lexC_size]) (one_lexC _ _ _) ?_; intro w7 ht7 b7))
                have hb57 : Below w5.heap.size w5 w7 := hb6.trans (ht7.below _ (by have := HG9.out; omega))
                have HT7 := Lib.hid (HT5.out.below hb57)
                have HB57 := Lib.hid hb57
                have cK : w7.cell? ⟨g5, 0, none⟩ = some (.int .i64 (K : Int)) := by have := HT7.out.ab.cell 0; simpa using this
                clear b6 hb6 ht7 hb57 HT7
                go_upto_region 17 with ((with_reducible show wpList _ _ _ ({ dst := none, op := _, type := _, pos := _, after := _, guard := _ } :: _) _ _); refine wpList_set (g := g9) (j := 1) (v := .int .i64 (K : Int)) (cs' := lexC r.1 (K : Int) r.2.1) rfl rfl (by kernel_rfl) rfl rfl rfl b7 (by simp [lexL]) (by simp [lexL]) ?_; intro w8 ht8 b8)
                have hb58 : Below w5.heap.size w5 w8 := HB57.out.trans (ht8.below _ (by have := HG9.out; omega))
                have HT8 := Lib.hid (HT5.out.below hb58)
                have c2 : w8.cell? ⟨g2, 0, none⟩ = some (.slice A ts.length c) := by have := HT8.out.lb.cell 0; simpa using this
                have hc9 := blk_rowL (xs := lexL r.1 (K : Int) r.2.1) b8
                clear cK b7 ht8 b8 hb58 HT5 HB57
                go_upto_region 9 with (first
                  | ((with_reducible show wpList _ _ _ ({ dst := some 53, op := _, type := _, pos := _, after := _, guard := _ } :: _) _ _); refine wpList_loadK (us := lexL r.1 (K : Int) r.2.1) rfl rfl rfl aggLx (by rw [sizeLx]; rfl) hc9 ?_)
                  | ((with_reducible show wpList _ _ _ ({ dst := some 54, op := _, type := _, pos := _, after := _, guard := _ } :: _) _ _); refine wpList_lit1Lx rfl rfl rfl ?_; intro w9 gq rq hb9; have HT9 := Lib.hid (HT8.out.below hb9); have own9 := HT9.out.own; have ge9 := HT9.out.ge)
                  | ((with_reducible show wpList _ _ _ ({ dst := some 55, op := _, type := _, pos := _, after := _, guard := _ } :: _) _ _); refine wpList_appK rfl rfl elemLx rfl own9 rfl (m := 1) rq (by simp [lexL, Value.oneCell']) (by have := HLN.out; omega) ge9 ?_; intro v10 w10 o10 _ hb10; obtain ⟨A10, c10, e10, -, -, -⟩ := ownsRow_form o10; subst e10; have b10 := Blk.below' HT9.out.lb hb10 HPOS.out.hi.1)
                  | ((with_reducible show wpList _ _ _ ({ dst := none, op := _, type := _, pos := _, after := _, guard := _ } :: _) _ _); refine wpList_set (g := g2) (j := 0) (v := .slice A10 (ts.length + 1) c10) (cs' := #[.slice A10 (ts.length + 1) c10]) rfl rfl (by kernel_rfl) rfl rfl rfl b10 (by simp) (by simp) ?_; intro w11 ht11 b11))
                have HT11 : Hid (ToAt w B g2 g3 g4 g5 gf s (K + r.2.2) (K : Int) (.slice A10 (ts.length + 1) c10) (ts ++ [⟨r.1, (K : Int), r.2.1⟩]) w11) := Lib.hid (HT9.out.setL HPOS.out hb10 (by
                  rw [List.length_append, List.flatMap_append]
                  simpa [tokL] using o10) ht11 b11)
                clear hc9 c2 own9 ge9 rq hb9 o10 hb10 b10 ht11 b11 HT8 HT9
                obtain ⟨hXr, hr1, hKr⟩ := HXK.out r rfl
                have HXR := Lib.hid hXr
                obtain ⟨K1, hK1⟩ : ∃ K1, K + r.2.2 = K1 := ⟨_, rfl⟩
                rw [hK1] at HT11 HXR hKr
                have HK1 := Lib.hid hK1
                clear hXr hK1 HXK
                go_wp2_with fail
                refine (space_any g4 s K1 w11 HT11.out.re hKr (by omega)).mono ?_
                rintro e w12 ⟨rfl, hr12, hg12⟩
                obtain ⟨K2, hK2⟩ : ∃ K2, K1 + skM false (s.data.toList.drop K1) = K2 := ⟨_, rfl⟩
                rw [hK2] at hr12 HXR
                have hK2s : K2 ≤ s.size := by
                  have := skM_le (s.data.toList.drop K1) false
                  rw [List.length_drop, HL.out] at this
                  omega
                have HT12 := Lib.hid (HT11.out.moved HPOS.out hg12 hr12)
                have HK2 : Hid (K < K2) := Lib.hid (by have := HK1.out; omega)
                clear hr12 hg12 HT11 hK2
                go_wp2_with fail
                go_roundg fk
                case measure => have := HFK.out.1; omega
                case rel => exact ⟨K2, (K : Int), _, _, hK2s, by have := HFK.out; have := HK2.out; omega, Lib.hid (by have h1 := HLN.out; have h2 := HK2.out; rw [List.length_append, List.length_singleton]; omega), HXR, HT12⟩
            | false =>
              have hcf := forms_at HT.out.fb 0 (a := .func (.func 41) #[] #[]) (b := .func (.func 42) #[] #[]) rfl rfl
              go_upto_region 14 with (first
                | ((with_reducible show wpList _ _ _ ({ dst := some 39, op := _, type := _, pos := _, after := _, guard := _ } :: _) _ _); refine wpList_loadK (us := [.func (.func 41) #[] #[], .func (.func 42) #[] #[]]) rfl rfl rfl aggFr (by rw [sizeFr]; rfl) hcf ?_)
                | ((with_reducible show wpList _ _ _ ({ dst := some 8, op := _, type := _, pos := _, after := _, guard := _ } :: _) _ _); refine wpList_new (cs := #[.nilFunc, .nilFunc]) rfl rfl zeroFr ?_; intro w2 g8 hg8 b8 hb2 lt8; have HG8 := Lib.hid hg8; clear hg8 lt8)
                | ((with_reducible show wpList _ _ _ ({ dst := none, op := _, type := _, pos := _, after := _, guard := _ } :: _) _ _); refine wpList_put (vs := #[.func (.func 41) #[] #[], .func (.func 42) #[] #[]]) rfl rfl rfl rfl b8 rfl (by rw [sizeFr]; rfl) (by simp [Value.oneCell']) ?_; intro w3 ht3 b9))
              have hb3 : Below wr.heap.size wr w3 := hb2.trans (ht3.below _ (by have := HG8.out; omega))
              have HT3 := Lib.hid (HT.out.below hb3)
              have c80 : w3.cell? ⟨g8, 0, none⟩ = some (.func (.func 41) #[] #[]) := by have := b9.cell 0; simpa using this
              have c81 : w3.cell? ⟨g8, 1, none⟩ = some (.func (.func 42) #[] #[]) := by have := b9.cell 1; simpa using this
              have cK : w3.cell? ⟨g5, 0, none⟩ = some (.int .i64 (K : Int)) := by have := HT3.out.ab.cell 0; simpa using this
              clear hcf b8 hb2 ht3 b9 hb3 HT HG8
              have HBG : Hid (∀ W, Calls Tryz.prog 41 #[.int .u8 (b.toNat : Int)] W fun e w' => e = .returned (.bool false) ∧ w' = W) := Lib.hid (fun W => by have h := isSmall_any b W; rw [HPB.out] at h; exact h)
              go_upto_region 14 with fail
              have hS : Below w3.heap.size w3 w3.drew := (Below.refl _ _).drew
              refine wp_region_T 6 (by kernel_rfl) ?_
              -- region 14: 6 operations, tail from 6
              refine WpT.take (i := 0) rfl (by kernel_rfl) (fun c a w h => leaves_put rfl (by decide) (by decide) h) (.inl ⟨by rfl, fun w hSw => by clear hSw; go_simp; (try go_bits); (try rw [if_pos (by omega)]); (try with_reducible rfl)⟩) (hS) ?_
              try simp only [Act.put, List.setIfInBounds_toArray, List.set_cons_zero, List.set_cons_succ]
              refine WpT.take (i := 1) rfl (by kernel_rfl) (fun c a w h => leaves_put rfl (by decide) (by decide) h) (yields_load rfl rfl rfl (by kernel_rfl) c80) (hS) ?_
              try simp only [Act.put, List.setIfInBounds_toArray, List.set_cons_zero, List.set_cons_succ]
              refine WpT.take (i := 2) rfl (by kernel_rfl) (fun c a w h => leaves_put rfl (by decide) (by decide) h) (.inl ⟨by rfl, fun w hSw => by clear hSw; go_simp; (try go_bits); (try rw [if_pos (by omega)]); (try with_reducible rfl)⟩) (hS) ?_
              try simp only [Act.put, List.setIfInBounds_toArray, List.set_cons_zero, List.set_cons_succ]
              refine WpT.take (i := 3) rfl (by kernel_rfl) (fun c a w h => leaves_put rfl (by decide) (by decide) h) (yields_load rfl rfl rfl (by kernel_rfl) cK) (hS) ?_
              try simp only [Act.put, List.setIfInBounds_toArray, List.set_cons_zero, List.set_cons_succ]
              refine WpT.take (i := 4) rfl (by kernel_rfl) (fun c a w h => leaves_put rfl (by decide) (by decide) h) (.inl ⟨by rfl, fun w hSw => by clear hSw; go_simp; (try go_bits); (try rw [if_pos (by omega)]); (try with_reducible rfl)⟩) (hS) ?_
              try simp only [Act.put, List.setIfInBounds_toArray, List.set_cons_zero, List.set_cons_succ]
              refine WpT.one (i := 5) rfl (by kernel_rfl) (fun K hK => ?_)
              go_simp; refine (HBG.out _).mono ?_; rintro e w5 ⟨rfl, hw5⟩; subst hw5
              refine hK _ _ (hS) ?_; clear hK K; try simp only [Act.put, List.setIfInBounds_toArray, List.set_cons_zero, List.set_cons_succ]
              refine WpT.done (by kernel_rfl) ?_ _
              skip
              have HT4 := Lib.hid (HT3.out.below hS)
              have c81' := cell_later hS c81
              clear c80 c81 cK hS HT3 HBG
              go_wp2_with fail
              go_roundg (4 - 1)
              case measure => have := HM.out; omega
              case rel => exact ⟨1, rfl, rfl, by omega, Lib.hid ⟨fun _ => HPB.out, fun h => absurd h (by omega), fun h => absurd h (by omega)⟩, HT4⟩
          · obtain ⟨pb, hpb⟩ : ∃ pb, d9 b = pb := ⟨_, rfl⟩
            have HPB := Lib.hid hpb
            clear hpb
            cases pb with
            | true =>
              have hcf := forms_at HT.out.fb 2 (a := .func (.func 43) #[] #[]) (b := .func (.func 44) #[] #[]) rfl rfl
              go_upto_region 14 with (first
                | ((with_reducible show wpList _ _ _ ({ dst := some 39, op := _, type := _, pos := _, after := _, guard := _ } :: _) _ _); refine wpList_loadK (us := [.func (.func 43) #[] #[], .func (.func 44) #[] #[]]) rfl rfl rfl aggFr (by rw [sizeFr]; rfl) hcf ?_)
                | ((with_reducible show wpList _ _ _ ({ dst := some 8, op := _, type := _, pos := _, after := _, guard := _ } :: _) _ _); refine wpList_new (cs := #[.nilFunc, .nilFunc]) rfl rfl zeroFr ?_; intro w2 g8 hg8 b8 hb2 lt8; have HG8 := Lib.hid hg8; clear hg8 lt8)
                | ((with_reducible show wpList _ _ _ ({ dst := none, op := _, type := _, pos := _, after := _, guard := _ } :: _) _ _); refine wpList_put (vs := #[.func (.func 43) #[] #[], .func (.func 44) #[] #[]]) rfl rfl rfl rfl b8 rfl (by rw [sizeFr]; rfl) (by simp [Value.oneCell']) ?_; intro w3 ht3 b9))
              have hb3 : Below wr.heap.size wr w3 := hb2.trans (ht3.below _ (by have := HG8.out; omega))
              have HT3 := Lib.hid (HT.out.below hb3)
              have c80 : w3.cell? ⟨g8, 0, none⟩ = some (.func (.func 43) #[] #[]) := by have := b9.cell 0; simpa using this
              have c81 : w3.cell? ⟨g8, 1, none⟩ = some (.func (.func 44) #[] #[]) := by have := b9.cell 1; simpa using this
              have cK : w3.cell? ⟨g5, 0, none⟩ = some (.int .i64 (K : Int)) := by have := HT3.out.ab.cell 0; simpa using this
              clear hcf b8 hb2 ht3 b9 hb3 HT HG8
              have HBG : Hid (∀ W, Calls Tryz.prog 43 #[.int .u8 (b.toNat : Int)] W fun e w' => e = .returned (.bool true) ∧ w' = W) := Lib.hid (fun W => by have h := isDigit_any b W; rw [HPB.out] at h; exact h)
              go_upto_region 14 with fail
              have hS : Below w3.heap.size w3 w3.drew := (Below.refl _ _).drew
              refine wp_region_T 6 (by kernel_rfl) ?_
              -- region 14: 6 operations, tail from 6
              refine WpT.take (i := 0) rfl (by kernel_rfl) (fun c a w h => leaves_put rfl (by decide) (by decide) h) (.inl ⟨by rfl, fun w hSw => by clear hSw; go_simp; (try go_bits); (try rw [if_pos (by omega)]); (try with_reducible rfl)⟩) (hS) ?_
              try simp only [Act.put, List.setIfInBounds_toArray, List.set_cons_zero, List.set_cons_succ]
              refine WpT.take (i := 1) rfl (by kernel_rfl) (fun c a w h => leaves_put rfl (by decide) (by decide) h) (yields_load rfl rfl rfl (by kernel_rfl) c80) (hS) ?_
              try simp only [Act.put, List.setIfInBounds_toArray, List.set_cons_zero, List.set_cons_succ]
              refine WpT.take (i := 2) rfl (by kernel_rfl) (fun c a w h => leaves_put rfl (by decide) (by decide) h) (.inl ⟨by rfl, fun w hSw => by clear hSw; go_simp; (try go_bits); (try rw [if_pos (by omega)]); (try with_reducible rfl)⟩) (hS) ?_
              try simp only [Act.put, List.setIfInBounds_toArray, List.set_cons_zero, List.set_cons_succ]
              refine WpT.take (i := 3) rfl (by kernel_rfl) (fun c a w h => leaves_put rfl (by decide) (by decide) h) (yields_load rfl rfl rfl (by kernel_rfl) cK) (hS) ?_
              try simp only [Act.put, List.setIfInBounds_toArray, List.set_cons_zero, List.set_cons_succ]
              refine WpT.take (i := 4) rfl (by kernel_rfl) (fun c a w h => leaves_put rfl (by decide) (by decide) h) (.inl ⟨by rfl, fun w hSw => by clear hSw; go_simp; (try go_bits); (try rw [if_pos (by omega)]); (try with_reducible rfl)⟩) (hS) ?_
              try simp only [Act.put, List.setIfInBounds_toArray, List.set_cons_zero, List.set_cons_succ]
              refine WpT.one (i := 5) rfl (by kernel_rfl) (fun K hK => ?_)
              go_simp; refine (HBG.out _).mono ?_; rintro e w5 ⟨rfl, hw5⟩; subst hw5
              refine hK _ _ (hS) ?_; clear hK K; try simp only [Act.put, List.setIfInBounds_toArray, List.set_cons_zero, List.set_cons_succ]
              refine WpT.done (by kernel_rfl) ?_ _
              skip
              have HT4 := Lib.hid (HT3.out.below hS)
              have c81' := cell_later hS c81
              clear c80 c81 cK hS HT3 HBG
              have HRD := Lib.hid (HR1.out (HQ.out.1 (by omega)) HPB.out _ HT4.out)
              clear HR0 HR1 HR2 HR3
              go_wp2_with fail
              refine HRD.out.mono ?_
              rintro e w5 h5
              clear HRD c81'
              cases x with
              | error c0 =>
                obtain ⟨rfl, hg5⟩ := h5
                have HT5 := HT4.out
                have hq1 : Blk w5 g5 3 #[.int .i64 (K : Int)] := hg5.blk HT5.ab (by have := HPOS.out.ne; simp; omega)
                have hq2 : Blk w5 g2 23 #[.slice A ts.length c] := hg5.blk HT5.lb (by have := HPOS.out.ne; simp; omega)
                have hq3 : Blk w5 g3 26 #[.int .i64 0, .int .i64 0] := hg5.blk HT5.pb (by have := HPOS.out.ne; simp; omega)
                have hbw5 : Below w.heap.size w w5 := HT5.gr.trans (hg5.below HT5.gr.size (by have := HPOS.out.lo; simp; omega))
                have hne3 : g5 ≠ g2 ∧ g5 ≠ g3 ∧ g2 ≠ g3 := by have := HPOS.out.ne; omega
                go_wp2_with fail
                refine leaves_cons (f := 26) (args := #[.pointer (some ⟨g5, 0, none⟩), .pointer (some ⟨g2, 0, none⟩), .pointer (some ⟨g3, 0, none⟩)]) (by simp) (by simp [go_sem]) ?_
                refine (caught g5 g2 g3 (K : Int) c0 _ 0 0 [] w5 hq1 hq2 hq3 hne3).mono ?_
                rintro z u' w' ⟨rfl, rfl, h1, h2, h3⟩
                exact ⟨_, results_lp rfl rfl rfl h2 h1 aggPr (by rw [sizePr]; rfl) oneLs, HE.out _ (HXE.out c0 rfl) _ (hbw5.trans (h3.below hbw5.size (by have := HPOS.out.lo; simp; omega)))⟩
              | ok r =>
                obtain ⟨rfl, hr5, hg5⟩ := h5
                have HT5 := Lib.hid (HT4.out.moved HPOS.out hg5 hr5)
                clear hr5 hg5 HT4 HXE
                go_upto_region 16 with (first
                  | ((with_reducible show wpList _ _ _ ({ dst := some 9, op := _, type := _, pos := _, after := _, guard := _ } :: _) _ _); refine wpList_new (cs := lexC 0 0 []) rfl rfl zeroLx ?_; intro w6 g9 hg9 b6 hb6 lt9; have HG9 := Lib.hid hg9; clear hg9 lt9)
                  | ((with_reducible show wpList _ _ _ ({ dst := none, op := _, type := _, pos := _, after := _, guard := _ } :: _) _ _); refine wpList_put (vs := lexC r.1 0 r.2.1) rfl rfl rfl rfl b6 rfl (by rw [sizeLx, lexC_size]) (one_lexC _ _ _) ?_; intro w7 ht7 b7))
                have hb57 : Below w5.heap.size w5 w7 := hb6.trans (ht7.below _ (by have := HG9.out; omega))
                have HT7 := Lib.hid (HT5.out.below hb57)
                have HB57 := Lib.hid hb57
                have cK : w7.cell? ⟨g5, 0, none⟩ = some (.int .i64 (K : Int)) := by have := HT7.out.ab.cell 0; simpa using this
                clear b6 hb6 ht7 hb57 HT7
                go_upto_region 17 with ((with_reducible show wpList _ _ _ ({ dst := none, op := _, type := _, pos := _, after := _, guard := _ } :: _) _ _); refine wpList_set (g := g9) (j := 1) (v := .int .i64 (K : Int)) (cs' := lexC r.1 (K : Int) r.2.1) rfl rfl (by kernel_rfl) rfl rfl rfl b7 (by simp [lexL]) (by simp [lexL]) ?_; intro w8 ht8 b8)
                have hb58 : Below w5.heap.size w5 w8 := HB57.out.trans (ht8.below _ (by have := HG9.out; omega))
                have HT8 := Lib.hid (HT5.out.below hb58)
                have c2 : w8.cell? ⟨g2, 0, none⟩ = some (.slice A ts.length c) := by have := HT8.out.lb.cell 0; simpa using this
                have hc9 := blk_rowL (xs := lexL r.1 (K : Int) r.2.1) b8
                clear cK b7 ht8 b8 hb58 HT5 HB57
                go_upto_region 9 with (first
                  | ((with_reducible show wpList _ _ _ ({ dst := some 53, op := _, type := _, pos := _, after := _, guard := _ } :: _) _ _); refine wpList_loadK (us := lexL r.1 (K : Int) r.2.1) rfl rfl rfl aggLx (by rw [sizeLx]; rfl) hc9 ?_)
                  | ((with_reducible show wpList _ _ _ ({ dst := some 54, op := _, type := _, pos := _, after := _, guard := _ } :: _) _ _); refine wpList_lit1Lx rfl rfl rfl ?_; intro w9 gq rq hb9; have HT9 := Lib.hid (HT8.out.below hb9); have own9 := HT9.out.own; have ge9 := HT9.out.ge)
                  | ((with_reducible show wpList _ _ _ ({ dst := some 55, op := _, type := _, pos := _, after := _, guard := _ } :: _) _ _); refine wpList_appK rfl rfl elemLx rfl own9 rfl (m := 1) rq (by simp [lexL, Value.oneCell']) (by have := HLN.out; omega) ge9 ?_; intro v10 w10 o10 _ hb10; obtain ⟨A10, c10, e10, -, -, -⟩ := ownsRow_form o10; subst e10; have b10 := Blk.below' HT9.out.lb hb10 HPOS.out.hi.1)
                  | ((with_reducible show wpList _ _ _ ({ dst := none, op := _, type := _, pos := _, after := _, guard := _ } :: _) _ _); refine wpList_set (g := g2) (j := 0) (v := .slice A10 (ts.length + 1) c10) (cs' := #[.slice A10 (ts.length + 1) c10]) rfl rfl (by kernel_rfl) rfl rfl rfl b10 (by simp) (by simp) ?_; intro w11 ht11 b11))
                have HT11 : Hid (ToAt w B g2 g3 g4 g5 gf s (K + r.2.2) (K : Int) (.slice A10 (ts.length + 1) c10) (ts ++ [⟨r.1, (K : Int), r.2.1⟩]) w11) := Lib.hid (HT9.out.setL HPOS.out hb10 (by
                  rw [List.length_append, List.flatMap_append]
                  simpa [tokL] using o10) ht11 b11)
                clear hc9 c2 own9 ge9 rq hb9 o10 hb10 b10 ht11 b11 HT8 HT9
                obtain ⟨hXr, hr1, hKr⟩ := HXK.out r rfl
                have HXR := Lib.hid hXr
                obtain ⟨K1, hK1⟩ : ∃ K1, K + r.2.2 = K1 := ⟨_, rfl⟩
                rw [hK1] at HT11 HXR hKr
                have HK1 := Lib.hid hK1
                clear hXr hK1 HXK
                go_wp2_with fail
                refine (space_any g4 s K1 w11 HT11.out.re hKr (by omega)).mono ?_
                rintro e w12 ⟨rfl, hr12, hg12⟩
                obtain ⟨K2, hK2⟩ : ∃ K2, K1 + skM false (s.data.toList.drop K1) = K2 := ⟨_, rfl⟩
                rw [hK2] at hr12 HXR
                have hK2s : K2 ≤ s.size := by
                  have := skM_le (s.data.toList.drop K1) false
                  rw [List.length_drop, HL.out] at this
                  omega
                have HT12 := Lib.hid (HT11.out.moved HPOS.out hg12 hr12)
                have HK2 : Hid (K < K2) := Lib.hid (by have := HK1.out; omega)
                clear hr12 hg12 HT11 hK2
                go_wp2_with fail
                go_roundg fk
                case measure => have := HFK.out.1; omega
                case rel => exact ⟨K2, (K : Int), _, _, hK2s, by have := HFK.out; have := HK2.out; omega, Lib.hid (by have h1 := HLN.out; have h2 := HK2.out; rw [List.length_append, List.length_singleton]; omega), HXR, HT12⟩
            | false =>
              have hcf := forms_at HT.out.fb 2 (a := .func (.func 43) #[] #[]) (b := .func (.func 44) #[] #[]) rfl rfl
              go_upto_region 14 with (first
                | ((with_reducible show wpList _ _ _ ({ dst := some 39, op := _, type := _, pos := _, after := _, guard := _ } :: _) _ _); refine wpList_loadK (us := [.func (.func 43) #[] #[], .func (.func 44) #[] #[]]) rfl rfl rfl aggFr (by rw [sizeFr]; rfl) hcf ?_)
                | ((with_reducible show wpList _ _ _ ({ dst := some 8, op := _, type := _, pos := _, after := _, guard := _ } :: _) _ _); refine wpList_new (cs := #[.nilFunc, .nilFunc]) rfl rfl zeroFr ?_; intro w2 g8 hg8 b8 hb2 lt8; have HG8 := Lib.hid hg8; clear hg8 lt8)
                | ((with_reducible show wpList _ _ _ ({ dst := none, op := _, type := _, pos := _, after := _, guard := _ } :: _) _ _); refine wpList_put (vs := #[.func (.func 43) #[] #[], .func (.func 44) #[] #[]]) rfl rfl rfl rfl b8 rfl (by rw [sizeFr]; rfl) (by simp [Value.oneCell']) ?_; intro w3 ht3 b9))
              have hb3 : Below wr.heap.size wr w3 := hb2.trans (ht3.below _ (by have := HG8.out; omega))
              have HT3 := Lib.hid (HT.out.below hb3)
              have c80 : w3.cell? ⟨g8, 0, none⟩ = some (.func (.func 43) #[] #[]) := by have := b9.cell 0; simpa using this
              have c81 : w3.cell? ⟨g8, 1, none⟩ = some (.func (.func 44) #[] #[]) := by have := b9.cell 1; simpa using this
              have cK : w3.cell? ⟨g5, 0, none⟩ = some (.int .i64 (K : Int)) := by have := HT3.out.ab.cell 0; simpa using this
              clear hcf b8 hb2 ht3 b9 hb3 HT HG8
              have HBG : Hid (∀ W, Calls Tryz.prog 43 #[.int .u8 (b.toNat : Int)] W fun e w' => e = .returned (.bool false) ∧ w' = W) := Lib.hid (fun W => by have h := isDigit_any b W; rw [HPB.out] at h; exact h)
              go_upto_region 14 with fail
              have hS : Below w3.heap.size w3 w3.drew := (Below.refl _ _).drew
              refine wp_region_T 6 (by kernel_rfl) ?_
              -- region 14: 6 operations, tail from 6
              refine WpT.take (i := 0) rfl (by kernel_rfl) (fun c a w h => leaves_put rfl (by decide) (by decide) h) (.inl ⟨by rfl, fun w hSw => by clear hSw; go_simp; (try go_bits); (try rw [if_pos (by omega)]); (try with_reducible rfl)⟩) (hS) ?_
              try simp only [Act.put, List.setIfInBounds_toArray, List.set_cons_zero, List.set_cons_succ]
              refine WpT.take (i := 1) rfl (by kernel_rfl) (fun c a w h => leaves_put rfl (by decide) (by decide) h) (yields_load rfl rfl rfl (by kernel_rfl) c80) (hS) ?_
              try simp only [Act.put, List.setIfInBounds_toArray, List.set_cons_zero, List.set_cons_succ]
              refine WpT.take (i := 2) rfl (by kernel_rfl) (fun c a w h => leaves_put rfl (by decide) (by decide) h) (.inl ⟨by rfl, fun w hSw => by clear hSw; go_simp; (try go_bits); (try rw [if_pos (by omega)]); (try with_reducible rfl)⟩) (hS) ?_
              try simp only [Act.put, List.setIfInBounds_toArray, List.set_cons_zero, List.set_cons_succ]
              refine WpT.take (i := 3) rfl (by kernel_rfl) (fun c a w h => leaves_put rfl (by decide) (by decide) h) (yields_load rfl rfl rfl (by kernel_rfl) cK) (hS) ?_
              try simp only [Act.put, List.setIfInBounds_toArray, List.set_cons_zero, List.set_cons_succ]
              refine WpT.take (i := 4) rfl (by kernel_rfl) (fun c a w h => leaves_put rfl (by decide) (by decide) h) (.inl ⟨by rfl, fun w hSw => by clear hSw; go_simp; (try go_bits); (try rw [if_pos (by omega)]); (try with_reducible rfl)⟩) (hS) ?_
              try simp only [Act.put, List.setIfInBounds_toArray, List.set_cons_zero, List.set_cons_succ]
              refine WpT.one (i := 5) rfl (by kernel_rfl) (fun K hK => ?_)
              go_simp; refine (HBG.out _).mono ?_; rintro e w5 ⟨rfl, hw5⟩; subst hw5
              refine hK _ _ (hS) ?_; clear hK K; try simp only [Act.put, List.setIfInBounds_toArray, List.set_cons_zero, List.set_cons_succ]
              refine WpT.done (by kernel_rfl) ?_ _
              skip
              have HT4 := Lib.hid (HT3.out.below hS)
              have c81' := cell_later hS c81
              clear c80 c81 cK hS HT3 HBG
              go_wp2_with fail
              go_roundg (4 - 2)
              case measure => have := HM.out; omega
              case rel => exact ⟨2, rfl, rfl, by omega, Lib.hid ⟨fun _ => HQ.out.1 (by omega), fun _ => HPB.out, fun h => absurd h (by omega)⟩, HT4⟩
          · obtain ⟨pb, hpb⟩ : ∃ pb, q34 b = pb := ⟨_, rfl⟩
            have HPB := Lib.hid hpb
            clear hpb
            cases pb with
            | true =>
              have hcf := forms_at HT.out.fb 4 (a := .func (.func 45) #[] #[]) (b := .func (.func 46) #[] #[]) rfl rfl
              go_upto_region 14 with (first
                | ((with_reducible show wpList _ _ _ ({ dst := some 39, op := _, type := _, pos := _, after := _, guard := _ } :: _) _ _); refine wpList_loadK (us := [.func (.func 45) #[] #[], .func (.func 46) #[] #[]]) rfl rfl rfl aggFr (by rw [sizeFr]; rfl) hcf ?_)
                | ((with_reducible show wpList _ _ _ ({ dst := some 8, op := _, type := _, pos := _, after := _, guard := _ } :: _) _ _); refine wpList_new (cs := #[.nilFunc, .nilFunc]) rfl rfl zeroFr ?_; intro w2 g8 hg8 b8 hb2 lt8; have HG8 := Lib.hid hg8; clear hg8 lt8)
                | ((with_reducible show wpList _ _ _ ({ dst := none, op := _, type := _, pos := _, after := _, guard := _ } :: _) _ _); refine wpList_put (vs := #[.func (.func 45) #[] #[], .func (.func 46) #[] #[]]) rfl rfl rfl rfl b8 rfl (by rw [sizeFr]; rfl) (by simp [Value.oneCell']) ?_; intro w3 ht3 b9))
              have hb3 : Below wr.heap.size wr w3 := hb2.trans (ht3.below _ (by have := HG8.out; omega))
              have HT3 := Lib.hid (HT.out.below hb3)
              have c80 : w3.cell? ⟨g8, 0, none⟩ = some (.func (.func 45) #[] #[]) := by have := b9.cell 0; simpa using this
              have c81 : w3.cell? ⟨g8, 1, none⟩ = some (.func (.func 46) #[] #[]) := by have := b9.cell 1; simpa using this
              have cK : w3.cell? ⟨g5, 0, none⟩ = some (.int .i64 (K : Int)) := by have := HT3.out.ab.cell 0; simpa using this
              clear hcf b8 hb2 ht3 b9 hb3 HT HG8
              have HBG : Hid (∀ W, Calls Tryz.prog 45 #[.int .u8 (b.toNat : Int)] W fun e w' => e = .returned (.bool true) ∧ w' = W) := Lib.hid (fun W => by have h := isQuote_any b W; rw [HPB.out] at h; exact h)
              go_upto_region 14 with fail
              have hS : Below w3.heap.size w3 w3.drew := (Below.refl _ _).drew
              refine wp_region_T 6 (by kernel_rfl) ?_
              -- region 14: 6 operations, tail from 6
              refine WpT.take (i := 0) rfl (by kernel_rfl) (fun c a w h => leaves_put rfl (by decide) (by decide) h) (.inl ⟨by rfl, fun w hSw => by clear hSw; go_simp; (try go_bits); (try rw [if_pos (by omega)]); (try with_reducible rfl)⟩) (hS) ?_
              try simp only [Act.put, List.setIfInBounds_toArray, List.set_cons_zero, List.set_cons_succ]
              refine WpT.take (i := 1) rfl (by kernel_rfl) (fun c a w h => leaves_put rfl (by decide) (by decide) h) (yields_load rfl rfl rfl (by kernel_rfl) c80) (hS) ?_
              try simp only [Act.put, List.setIfInBounds_toArray, List.set_cons_zero, List.set_cons_succ]
              refine WpT.take (i := 2) rfl (by kernel_rfl) (fun c a w h => leaves_put rfl (by decide) (by decide) h) (.inl ⟨by rfl, fun w hSw => by clear hSw; go_simp; (try go_bits); (try rw [if_pos (by omega)]); (try with_reducible rfl)⟩) (hS) ?_
              try simp only [Act.put, List.setIfInBounds_toArray, List.set_cons_zero, List.set_cons_succ]
              refine WpT.take (i := 3) rfl (by kernel_rfl) (fun c a w h => leaves_put rfl (by decide) (by decide) h) (yields_load rfl rfl rfl (by kernel_rfl) cK) (hS) ?_
              try simp only [Act.put, List.setIfInBounds_toArray, List.set_cons_zero, List.set_cons_succ]
              refine WpT.take (i := 4) rfl (by kernel_rfl) (fun c a w h => leaves_put rfl (by decide) (by decide) h) (.inl ⟨by rfl, fun w hSw => by clear hSw; go_simp; (try go_bits); (try rw [if_pos (by omega)]); (try with_reducible rfl)⟩) (hS) ?_
              try simp only [Act.put, List.setIfInBounds_toArray, List.set_cons_zero, List.set_cons_succ]
              refine WpT.one (i := 5) rfl (by kernel_rfl) (fun K hK => ?_)
              go_simp; refine (HBG.out _).mono ?_; rintro e w5 ⟨rfl, hw5⟩; subst hw5
              refine hK _ _ (hS) ?_; clear hK K; try simp only [Act.put, List.setIfInBounds_toArray, List.set_cons_zero, List.set_cons_succ]
              refine WpT.done (by kernel_rfl) ?_ _
              skip
              have HT4 := Lib.hid (HT3.out.below hS)
              have c81' := cell_later hS c81
              clear c80 c81 cK hS HT3 HBG
              have HRD := Lib.hid (HR2.out (HQ.out.1 (by omega)) (HQ.out.2.1 (by omega)) HPB.out _ HT4.out)
              clear HR0 HR1 HR2 HR3
              go_wp2_with fail
              refine HRD.out.mono ?_
              rintro e w5 h5
              clear HRD c81'
              cases x with
              | error c0 =>
                obtain ⟨rfl, hg5⟩ := h5
                have HT5 := HT4.out
                have hq1 : Blk w5 g5 3 #[.int .i64 (K : Int)] := hg5.blk HT5.ab (by have := HPOS.out.ne; simp; omega)
                have hq2 : Blk w5 g2 23 #[.slice A ts.length c] := hg5.blk HT5.lb (by have := HPOS.out.ne; simp; omega)
                have hq3 : Blk w5 g3 26 #[.int .i64 0, .int .i64 0] := hg5.blk HT5.pb (by have := HPOS.out.ne; simp; omega)
                have hbw5 : Below w.heap.size w w5 := HT5.gr.trans (hg5.below HT5.gr.size (by have := HPOS.out.lo; simp; omega))
                have hne3 : g5 ≠ g2 ∧ g5 ≠ g3 ∧ g2 ≠ g3 := by have := HPOS.out.ne; omega
                go_wp2_with fail
                refine leaves_cons (f := 26) (args := #[.pointer (some ⟨g5, 0, none⟩), .pointer (some ⟨g2, 0, none⟩), .pointer (some ⟨g3, 0, none⟩)]) (by simp) (by simp [go_sem]) ?_
                refine (caught g5 g2 g3 (K : Int) c0 _ 0 0 [] w5 hq1 hq2 hq3 hne3).mono ?_
                rintro z u' w' ⟨rfl, rfl, h1, h2, h3⟩
                exact ⟨_, results_lp rfl rfl rfl h2 h1 aggPr (by rw [sizePr]; rfl) oneLs, HE.out _ (HXE.out c0 rfl) _ (hbw5.trans (h3.below hbw5.size (by have := HPOS.out.lo; simp; omega)))⟩
              | ok r =>
                obtain ⟨rfl, hr5, hg5⟩ := h5
                have HT5 := Lib.hid (HT4.out.moved HPOS.out hg5 hr5)
                clear hr5 hg5 HT4 HXE
                go_upto_region 16 with (first
                  | ((with_reducible show wpList _ _ _ ({ dst := some 9, op := _, type := _, pos := _, after := _, guard := _ } :: _) _ _); refine wpList_new (cs := lexC 0 0 []) rfl rfl zeroLx ?_; intro w6 g9 hg9 b6 hb6 lt9; have HG9 := Lib.hid hg9; clear hg9 lt9)
                  | ((with_reducible show wpList _ _ _ ({ dst := none, op := _, type := _, pos := _, after := _, guard := _ } :: _) _ _); refine wpList_put (vs := lexC r.1 0 r.2.1) rfl rfl rfl rfl b6 rfl (by rw [sizeLx, lexC_size]) (one_lexC _ _ _) ?_; intro w7 ht7 b7))
                have hb57 : Below w5.heap.size w5 w7 := hb6.trans (ht7.below _ (by have := HG9.out; omega))
                have HT7 := Lib.hid (HT5.out.below hb57)
                have HB57 := Lib.hid hb57
                have cK : w7.cell? ⟨g5, 0, none⟩ = some (.int .i64 (K : Int)) := by have := HT7.out.ab.cell 0; simpa using this
                clear b6 hb6 ht7 hb57 HT7
                go_upto_region 17 with ((with_reducible show wpList _ _ _ ({ dst := none, op := _, type := _, pos := _, after := _, guard := _ } :: _) _ _); refine wpList_set (g := g9) (j := 1) (v := .int .i64 (K : Int)) (cs' := lexC r.1 (K : Int) r.2.1) rfl rfl (by kernel_rfl) rfl rfl rfl b7 (by simp [lexL]) (by simp [lexL]) ?_; intro w8 ht8 b8)
                have hb58 : Below w5.heap.size w5 w8 := HB57.out.trans (ht8.below _ (by have := HG9.out; omega))
                have HT8 := Lib.hid (HT5.out.below hb58)
                have c2 : w8.cell? ⟨g2, 0, none⟩ = some (.slice A ts.length c) := by have := HT8.out.lb.cell 0; simpa using this
                have hc9 := blk_rowL (xs := lexL r.1 (K : Int) r.2.1) b8
                clear cK b7 ht8 b8 hb58 HT5 HB57
                go_upto_region 9 with (first
                  | ((with_reducible show wpList _ _ _ ({ dst := some 53, op := _, type := _, pos := _, after := _, guard := _ } :: _) _ _); refine wpList_loadK (us := lexL r.1 (K : Int) r.2.1) rfl rfl rfl aggLx (by rw [sizeLx]; rfl) hc9 ?_)
                  | ((with_reducible show wpList _ _ _ ({ dst := some 54, op := _, type := _, pos := _, after := _, guard := _ } :: _) _ _); refine wpList_lit1Lx rfl rfl rfl ?_; intro w9 gq rq hb9; have HT9 := Lib.hid (HT8.out.below hb9); have own9 := HT9.out.own; have ge9 := HT9.out.ge)
                  | ((with_reducible show wpList _ _ _ ({ dst := some 55, op := _, type := _, pos := _, after := _, guard := _ } :: _) _ _); refine wpList_appK rfl rfl elemLx rfl own9 rfl (m := 1) rq (by simp [lexL, Value.oneCell']) (by have := HLN.out; omega) ge9 ?_; intro v10 w10 o10 _ hb10; obtain ⟨A10, c10, e10, -, -, -⟩ := ownsRow_form o10; subst e10; have b10 := Blk.below' HT9.out.lb hb10 HPOS.out.hi.1)
                  | ((with_reducible show wpList _ _ _ ({ dst := none, op := _, type := _, pos := _, after := _, guard := _ } :: _) _ _); refine wpList_set (g := g2) (j := 0) (v := .slice A10 (ts.length + 1) c10) (cs' := #[.slice A10 (ts.length + 1) c10]) rfl rfl (by kernel_rfl) rfl rfl rfl b10 (by simp) (by simp) ?_; intro w11 ht11 b11))
                have HT11 : Hid (ToAt w B g2 g3 g4 g5 gf s (K + r.2.2) (K : Int) (.slice A10 (ts.length + 1) c10) (ts ++ [⟨r.1, (K : Int), r.2.1⟩]) w11) := Lib.hid (HT9.out.setL HPOS.out hb10 (by
                  rw [List.length_append, List.flatMap_append]
                  simpa [tokL] using o10) ht11 b11)
                clear hc9 c2 own9 ge9 rq hb9 o10 hb10 b10 ht11 b11 HT8 HT9
                obtain ⟨hXr, hr1, hKr⟩ := HXK.out r rfl
                have HXR := Lib.hid hXr
                obtain ⟨K1, hK1⟩ : ∃ K1, K + r.2.2 = K1 := ⟨_, rfl⟩
                rw [hK1] at HT11 HXR hKr
                have HK1 := Lib.hid hK1
                clear hXr hK1 HXK
                go_wp2_with fail
                refine (space_any g4 s K1 w11 HT11.out.re hKr (by omega)).mono ?_
                rintro e w12 ⟨rfl, hr12, hg12⟩
                obtain ⟨K2, hK2⟩ : ∃ K2, K1 + skM false (s.data.toList.drop K1) = K2 := ⟨_, rfl⟩
                rw [hK2] at hr12 HXR
                have hK2s : K2 ≤ s.size := by
                  have := skM_le (s.data.toList.drop K1) false
                  rw [List.length_drop, HL.out] at this
                  omega
                have HT12 := Lib.hid (HT11.out.moved HPOS.out hg12 hr12)
                have HK2 : Hid (K < K2) := Lib.hid (by have := HK1.out; omega)
                clear hr12 hg12 HT11 hK2
                go_wp2_with fail
                go_roundg fk
                case measure => have := HFK.out.1; omega
                case rel => exact ⟨K2, (K : Int), _, _, hK2s, by have := HFK.out; have := HK2.out; omega, Lib.hid (by have h1 := HLN.out; have h2 := HK2.out; rw [List.length_append, List.length_singleton]; omega), HXR, HT12⟩
            | false =>
              have hcf := forms_at HT.out.fb 4 (a := .func (.func 45) #[] #[]) (b := .func (.func 46) #[] #[]) rfl rfl
              go_upto_region 14 with (first
                | ((with_reducible show wpList _ _ _ ({ dst := some 39, op := _, type := _, pos := _, after := _, guard := _ } :: _) _ _); refine wpList_loadK (us := [.func (.func 45) #[] #[], .func (.func 46) #[] #[]]) rfl rfl rfl aggFr (by rw [sizeFr]; rfl) hcf ?_)
                | ((with_reducible show wpList _ _ _ ({ dst := some 8, op := _, type := _, pos := _, after := _, guard := _ } :: _) _ _); refine wpList_new (cs := #[.nilFunc, .nilFunc]) rfl rfl zeroFr ?_; intro w2 g8 hg8 b8 hb2 lt8; have HG8 := Lib.hid hg8; clear hg8 lt8)
                | ((with_reducible show wpList _ _ _ ({ dst := none, op := _, type := _, pos := _, after := _, guard := _ } :: _) _ _); refine wpList_put (vs := #[.func (.func 45) #[] #[], .func (.func 46) #[] #[]]) rfl rfl rfl rfl b8 rfl (by rw [sizeFr]; rfl) (by simp [Value.oneCell']) ?_; intro w3 ht3 b9))
              have hb3 : Below wr.heap.size wr w3 := hb2.trans (ht3.below _ (by have := HG8.out; omega))
              have HT3 := Lib.hid (HT.out.below hb3)
              have c80 : w3.cell? ⟨g8, 0, none⟩ = some (.func (.func 45) #[] #[]) := by have := b9.cell 0; simpa using this
              have c81 : w3.cell? ⟨g8, 1, none⟩ = some (.func (.func 46) #[] #[]) := by have := b9.cell 1; simpa using this
              have cK : w3.cell? ⟨g5, 0, none⟩ = some (.int .i64 (K : Int)) := by have := HT3.out.ab.cell 0; simpa using this
              clear hcf b8 hb2 ht3 b9 hb3 HT HG8
              have HBG : Hid (∀ W, Calls Tryz.prog 45 #[.int .u8 (b.toNat : Int)] W fun e w' => e = .returned (.bool false) ∧ w' = W) := Lib.hid (fun W => by have h := isQuote_any b W; rw [HPB.out] at h; exact h)
              go_upto_region 14 with fail
              have hS : Below w3.heap.size w3 w3.drew := (Below.refl _ _).drew
              refine wp_region_T 6 (by kernel_rfl) ?_
              -- region 14: 6 operations, tail from 6
              refine WpT.take (i := 0) rfl (by kernel_rfl) (fun c a w h => leaves_put rfl (by decide) (by decide) h) (.inl ⟨by rfl, fun w hSw => by clear hSw; go_simp; (try go_bits); (try rw [if_pos (by omega)]); (try with_reducible rfl)⟩) (hS) ?_
              try simp only [Act.put, List.setIfInBounds_toArray, List.set_cons_zero, List.set_cons_succ]
              refine WpT.take (i := 1) rfl (by kernel_rfl) (fun c a w h => leaves_put rfl (by decide) (by decide) h) (yields_load rfl rfl rfl (by kernel_rfl) c80) (hS) ?_
              try simp only [Act.put, List.setIfInBounds_toArray, List.set_cons_zero, List.set_cons_succ]
              refine WpT.take (i := 2) rfl (by kernel_rfl) (fun c a w h => leaves_put rfl (by decide) (by decide) h) (.inl ⟨by rfl, fun w hSw => by clear hSw; go_simp; (try go_bits); (try rw [if_pos (by omega)]); (try with_reducible rfl)⟩) (hS) ?_
              try simp only [Act.put, List.setIfInBounds_toArray, List.set_cons_zero, List.set_cons_succ]
              refine WpT.take (i := 3) rfl (by kernel_rfl) (fun c a w h => leaves_put rfl (by decide) (by decide) h) (yields_load rfl rfl rfl (by kernel_rfl) cK) (hS) ?_
              try simp only [Act.put, List.setIfInBounds_toArray, List.set_cons_zero, List.set_cons_succ]
              refine WpT.take (i := 4) rfl (by kernel_rfl) (fun c a w h => leaves_put rfl (by decide) (by decide) h) (.inl ⟨by rfl, fun w hSw => by clear hSw; go_simp; (try go_bits); (try rw [if_pos (by omega)]); (try with_reducible rfl)⟩) (hS) ?_
              try simp only [Act.put, List.setIfInBounds_toArray, List.set_cons_zero, List.set_cons_succ]
              refine WpT.one (i := 5) rfl (by kernel_rfl) (fun K hK => ?_)
              go_simp; refine (HBG.out _).mono ?_; rintro e w5 ⟨rfl, hw5⟩; subst hw5
              refine hK _ _ (hS) ?_; clear hK K; try simp only [Act.put, List.setIfInBounds_toArray, List.set_cons_zero, List.set_cons_succ]
              refine WpT.done (by kernel_rfl) ?_ _
              skip
              have HT4 := Lib.hid (HT3.out.below hS)
              have c81' := cell_later hS c81
              clear c80 c81 cK hS HT3 HBG
              go_wp2_with fail
              go_roundg (4 - 3)
              case measure => have := HM.out; omega
              case rel => exact ⟨3, rfl, rfl, by omega, Lib.hid ⟨fun _ => HQ.out.1 (by omega), fun _ => HQ.out.2.1 (by omega), fun _ => HPB.out⟩, HT4⟩
          · have HPB : Hid (tru b = true) := Lib.hid rfl
            have hcf := forms_at HT.out.fb 6 (a := .func (.func 47) #[] #[]) (b := .func (.func 48) #[] #[]) rfl rfl
            go_upto_region 14 with (first
              | ((with_reducible show wpList _ _ _ ({ dst := some 39, op := _, type := _, pos := _, after := _, guard := _ } :: _) _ _); refine wpList_loadK (us := [.func (.func 47) #[] #[], .func (.func 48) #[] #[]]) rfl rfl rfl aggFr (by rw [sizeFr]; rfl) hcf ?_)
              | ((with_reducible show wpList _ _ _ ({ dst := some 8, op := _, type := _, pos := _, after := _, guard := _ } :: _) _ _); refine wpList_new (cs := #[.nilFunc, .nilFunc]) rfl rfl zeroFr ?_; intro w2 g8 hg8 b8 hb2 lt8; have HG8 := Lib.hid hg8; clear hg8 lt8)
              | ((with_reducible show wpList _ _ _ ({ dst := none, op := _, type := _, pos := _, after := _, guard := _ } :: _) _ _); refine wpList_put (vs := #[.func (.func 47) #[] #[], .func (.func 48) #[] #[]]) rfl rfl rfl rfl b8 rfl (by rw [sizeFr]; rfl) (by simp [Value.oneCell']) ?_; intro w3 ht3 b9))
            have hb3 : Below wr.heap.size wr w3 := hb2.trans (ht3.below _ (by have := HG8.out; omega))
            have HT3 := Lib.hid (HT.out.below hb3)
            have c80 : w3.cell? ⟨g8, 0, none⟩ = some (.func (.func 47) #[] #[]) := by have := b9.cell 0; simpa using this
            have c81 : w3.cell? ⟨g8, 1, none⟩ = some (.func (.func 48) #[] #[]) := by have := b9.cell 1; simpa using this
            have cK : w3.cell? ⟨g5, 0, none⟩ = some (.int .i64 (K : Int)) := by have := HT3.out.ab.cell 0; simpa using this
            clear hcf b8 hb2 ht3 b9 hb3 HT HG8
            have HBG : Hid (∀ W, Calls Tryz.prog 47 #[.int .u8 (b.toNat : Int)] W fun e w' => e = .returned (.bool true) ∧ w' = W) := Lib.hid (fun W => by have h := isTrue_any b W; rw [HPB.out] at h; exact h)
            go_upto_region 14 with fail
            have hS : Below w3.heap.size w3 w3.drew := (Below.refl _ _).drew
            refine wp_region_T 6 (by kernel_rfl) ?_
            -- region 14: 6 operations, tail from 6
            refine WpT.take (i := 0) rfl (by kernel_rfl) (fun c a w h => leaves_put rfl (by decide) (by decide) h) (.inl ⟨by rfl, fun w hSw => by clear hSw; go_simp; (try go_bits); (try rw [if_pos (by omega)]); (try with_reducible rfl)⟩) (hS) ?_
            try simp only [Act.put, List.setIfInBounds_toArray, List.set_cons_zero, List.set_cons_succ]
            refine WpT.take (i := 1) rfl (by kernel_rfl) (fun c a w h => leaves_put rfl (by decide) (by decide) h) (yields_load rfl rfl rfl (by kernel_rfl) c80) (hS) ?_
            try simp only [Act.put, List.setIfInBounds_toArray, List.set_cons_zero, List.set_cons_succ]
            refine WpT.take (i := 2) rfl (by kernel_rfl) (fun c a w h => leaves_put rfl (by decide) (by decide) h) (.inl ⟨by rfl, fun w hSw => by clear hSw; go_simp; (try go_bits); (try rw [if_pos (by omega)]); (try with_reducible rfl)⟩) (hS) ?_
            try simp only [Act.put, List.setIfInBounds_toArray, List.set_cons_zero, List.set_cons_succ]
            refine WpT.take (i := 3) rfl (by kernel_rfl) (fun c a w h => leaves_put rfl (by decide) (by decide) h) (yields_load rfl rfl rfl (by kernel_rfl) cK) (hS) ?_
            try simp only [Act.put, List.setIfInBounds_toArray, List.set_cons_zero, List.set_cons_succ]
            refine WpT.take (i := 4) rfl (by kernel_rfl) (fun c a w h => leaves_put rfl (by decide) (by decide) h) (.inl ⟨by rfl, fun w hSw => by clear hSw; go_simp; (try go_bits); (try rw [if_pos (by omega)]); (try with_reducible rfl)⟩) (hS) ?_
            try simp only [Act.put, List.setIfInBounds_toArray, List.set_cons_zero, List.set_cons_succ]
            refine WpT.one (i := 5) rfl (by kernel_rfl) (fun K hK => ?_)
            go_simp; refine (HBG.out _).mono ?_; rintro e w5 ⟨rfl, hw5⟩; subst hw5
            refine hK _ _ (hS) ?_; clear hK K; try simp only [Act.put, List.setIfInBounds_toArray, List.set_cons_zero, List.set_cons_succ]
            refine WpT.done (by kernel_rfl) ?_ _
            skip
            have HT4 := Lib.hid (HT3.out.below hS)
            have c81' := cell_later hS c81
            clear c80 c81 cK hS HT3 HBG
            have HRD := Lib.hid (HR3.out (HQ.out.1 (by omega)) (HQ.out.2.1 (by omega)) (HQ.out.2.2 (by omega)) _ HT4.out)
            clear HR0 HR1 HR2 HR3
            go_wp2_with fail
            refine HRD.out.mono ?_
            rintro e w5 h5
            clear HRD c81'
            cases x with
            | error c0 =>
              obtain ⟨rfl, hg5⟩ := h5
              have HT5 := HT4.out
              have hq1 : Blk w5 g5 3 #[.int .i64 (K : Int)] := hg5.blk HT5.ab (by have := HPOS.out.ne; simp; omega)
              have hq2 : Blk w5 g2 23 #[.slice A ts.length c] := hg5.blk HT5.lb (by have := HPOS.out.ne; simp; omega)
              have hq3 : Blk w5 g3 26 #[.int .i64 0, .int .i64 0] := hg5.blk HT5.pb (by have := HPOS.out.ne; simp; omega)
              have hbw5 : Below w.heap.size w w5 := HT5.gr.trans (hg5.below HT5.gr.size (by have := HPOS.out.lo; simp; omega))
              have hne3 : g5 ≠ g2 ∧ g5 ≠ g3 ∧ g2 ≠ g3 := by have := HPOS.out.ne; omega
              go_wp2_with fail
              refine leaves_cons (f := 26) (args := #[.pointer (some ⟨g5, 0, none⟩), .pointer (some ⟨g2, 0, none⟩), .pointer (some ⟨g3, 0, none⟩)]) (by simp) (by simp [go_sem]) ?_
              refine (caught g5 g2 g3 (K : Int) c0 _ 0 0 [] w5 hq1 hq2 hq3 hne3).mono ?_
              rintro z u' w' ⟨rfl, rfl, h1, h2, h3⟩
              exact ⟨_, results_lp rfl rfl rfl h2 h1 aggPr (by rw [sizePr]; rfl) oneLs, HE.out _ (HXE.out c0 rfl) _ (hbw5.trans (h3.below hbw5.size (by have := HPOS.out.lo; simp; omega)))⟩
            | ok r =>
              obtain ⟨rfl, hr5, hg5⟩ := h5
              have HT5 := Lib.hid (HT4.out.moved HPOS.out hg5 hr5)
              clear hr5 hg5 HT4 HXE
              go_upto_region 16 with (first
                | ((with_reducible show wpList _ _ _ ({ dst := some 9, op := _, type := _, pos := _, after := _, guard := _ } :: _) _ _); refine wpList_new (cs := lexC 0 0 []) rfl rfl zeroLx ?_; intro w6 g9 hg9 b6 hb6 lt9; have HG9 := Lib.hid hg9; clear hg9 lt9)
                | ((with_reducible show wpList _ _ _ ({ dst := none, op := _, type := _, pos := _, after := _, guard := _ } :: _) _ _); refine wpList_put (vs := lexC r.1 0 r.2.1) rfl rfl rfl rfl b6 rfl (by rw [sizeLx, lexC_size]) (one_lexC _ _ _) ?_; intro w7 ht7 b7))
              have hb57 : Below w5.heap.size w5 w7 := hb6.trans (ht7.below _ (by have := HG9.out; omega))
              have HT7 := Lib.hid (HT5.out.below hb57)
              have HB57 := Lib.hid hb57
              have cK : w7.cell? ⟨g5, 0, none⟩ = some (.int .i64 (K : Int)) := by have := HT7.out.ab.cell 0; simpa using this
              clear b6 hb6 ht7 hb57 HT7
              go_upto_region 17 with ((with_reducible show wpList _ _ _ ({ dst := none, op := _, type := _, pos := _, after := _, guard := _ } :: _) _ _); refine wpList_set (g := g9) (j := 1) (v := .int .i64 (K : Int)) (cs' := lexC r.1 (K : Int) r.2.1) rfl rfl (by kernel_rfl) rfl rfl rfl b7 (by simp [lexL]) (by simp [lexL]) ?_; intro w8 ht8 b8)
              have hb58 : Below w5.heap.size w5 w8 := HB57.out.trans (ht8.below _ (by have := HG9.out; omega))
              have HT8 := Lib.hid (HT5.out.below hb58)
              have c2 : w8.cell? ⟨g2, 0, none⟩ = some (.slice A ts.length c) := by have := HT8.out.lb.cell 0; simpa using this
              have hc9 := blk_rowL (xs := lexL r.1 (K : Int) r.2.1) b8
              clear cK b7 ht8 b8 hb58 HT5 HB57
              go_upto_region 9 with (first
                | ((with_reducible show wpList _ _ _ ({ dst := some 53, op := _, type := _, pos := _, after := _, guard := _ } :: _) _ _); refine wpList_loadK (us := lexL r.1 (K : Int) r.2.1) rfl rfl rfl aggLx (by rw [sizeLx]; rfl) hc9 ?_)
                | ((with_reducible show wpList _ _ _ ({ dst := some 54, op := _, type := _, pos := _, after := _, guard := _ } :: _) _ _); refine wpList_lit1Lx rfl rfl rfl ?_; intro w9 gq rq hb9; have HT9 := Lib.hid (HT8.out.below hb9); have own9 := HT9.out.own; have ge9 := HT9.out.ge)
                | ((with_reducible show wpList _ _ _ ({ dst := some 55, op := _, type := _, pos := _, after := _, guard := _ } :: _) _ _); refine wpList_appK rfl rfl elemLx rfl own9 rfl (m := 1) rq (by simp [lexL, Value.oneCell']) (by have := HLN.out; omega) ge9 ?_; intro v10 w10 o10 _ hb10; obtain ⟨A10, c10, e10, -, -, -⟩ := ownsRow_form o10; subst e10; have b10 := Blk.below' HT9.out.lb hb10 HPOS.out.hi.1)
                | ((with_reducible show wpList _ _ _ ({ dst := none, op := _, type := _, pos := _, after := _, guard := _ } :: _) _ _); refine wpList_set (g := g2) (j := 0) (v := .slice A10 (ts.length + 1) c10) (cs' := #[.slice A10 (ts.length + 1) c10]) rfl rfl (by kernel_rfl) rfl rfl rfl b10 (by simp) (by simp) ?_; intro w11 ht11 b11))
              have HT11 : Hid (ToAt w B g2 g3 g4 g5 gf s (K + r.2.2) (K : Int) (.slice A10 (ts.length + 1) c10) (ts ++ [⟨r.1, (K : Int), r.2.1⟩]) w11) := Lib.hid (HT9.out.setL HPOS.out hb10 (by
                rw [List.length_append, List.flatMap_append]
                simpa [tokL] using o10) ht11 b11)
              clear hc9 c2 own9 ge9 rq hb9 o10 hb10 b10 ht11 b11 HT8 HT9
              obtain ⟨hXr, hr1, hKr⟩ := HXK.out r rfl
              have HXR := Lib.hid hXr
              obtain ⟨K1, hK1⟩ : ∃ K1, K + r.2.2 = K1 := ⟨_, rfl⟩
              rw [hK1] at HT11 HXR hKr
              have HK1 := Lib.hid hK1
              clear hXr hK1 HXK
              go_wp2_with fail
              refine (space_any g4 s K1 w11 HT11.out.re hKr (by omega)).mono ?_
              rintro e w12 ⟨rfl, hr12, hg12⟩
              obtain ⟨K2, hK2⟩ : ∃ K2, K1 + skM false (s.data.toList.drop K1) = K2 := ⟨_, rfl⟩
              rw [hK2] at hr12 HXR
              have hK2s : K2 ≤ s.size := by
                have := skM_le (s.data.toList.drop K1) false
                rw [List.length_drop, HL.out] at this
                omega
              have HT12 := Lib.hid (HT11.out.moved HPOS.out hg12 hr12)
              have HK2 : Hid (K < K2) := Lib.hid (by have := HK1.out; omega)
              clear hr12 hg12 HT11 hK2
              go_wp2_with fail
              go_roundg fk
              case measure => have := HFK.out.1; omega
              case rel => exact ⟨K2, (K : Int), _, _, hK2s, by have := HFK.out; have := HK2.out; omega, Lib.hid (by have h1 := HLN.out; have h2 := HK2.out; rw [List.length_append, List.length_singleton]; omega), HXR, HT12⟩
end Go.Proofs.YtiajmdmofjfdcaaGreatDoor
