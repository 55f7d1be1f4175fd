/-
  (*strings.Replacer).Replace. Conditions: the Replacer is new.
-/
import Derived.Test.YtiajmdmofjfdcaaGreatDoorRa4
namespace Go.Proofs.YtiajmdmofjfdcaaGreatDoor
set_option linter.unusedSimpArgs false
set_option linter.unusedVariables false
open Go.RowKit Lexr
set_option maxRecDepth 20000 in
theorem replace_any (g : Nat) (A : Option Addr) (c : Nat) (s : ByteArray) (w : World) (hb : Blk w g 128 (rpC 0 0 .nilIface (.slice A 4 c))) (hr : Rd w A 4 (sv oldnew)) (ha : Away A g)
    (hs : s.size ≤ 268435456) :
    Calls Tryz.prog 68 #[.pointer (some ⟨g, 0, none⟩), .string s] w fun e w' => e = .returned (.string ⟨(escL s.data.toList).toArray⟩) ∧ Below g w w' := by
  have hmf : ∀ (fn : Fn) (first cap : Array Value) (w : World), (Instr.makeFunc fn first cap).run Tryz.prog w = .ok (.func fn first cap) w := fun _ _ _ _ => rfl
  have hm : ∀ (p : Option Addr) (W : World), (method 345 176 (.pointer p) "Replace").run Tryz.prog W = .ok (179, .pointer p) W := fun _ _ => by kernel_rfl
  have HBS := Lib.hid (fun g' W h => bsr_any s g' W h hs)
  clear hs
  have HB := Lib.hid hb
  have HR := Lib.hid hr
  have HA := Lib.hid ha
  have c0 := (rp_cell hb).1
  clear hb hr ha
  go_enter Tryz.func68, Tryz.ntmps68
  go_wp2_with fail
  refine (do_any g A c _ HB.out HR.out HA.out).mono ?_
  rintro e w1 ⟨rfl, g', b1, hbs, hb1⟩
  have c3 := (rp_cell b1).2.2
  clear c0
  go_wp2_with fail
  refine (HBS.out g' _ hbs).mono ?_
  rintro e w2 ⟨rfl, hb2⟩
  go_wp2_with fail
  go_ret
  exact ⟨rfl, hb1.trans (hb2.mono (Nat.le_of_lt b1.lt))⟩
theorem build4_St (a b c d : ByteArray) (W : World) : (Instr.buildSlice 39 4 #[(0, .string a), (1, .string b), (2, .string c), (3, .string d)]).run Tryz.prog W = .ok (.slice (some ⟨W.heap.size, 0, none⟩) 4 4) (W.alloc (.cells (sv [a, b, c, d]).toArray 9)) := by kernel_rfl
theorem wp_lit4St {w : World} {o : Oper} {a : Act} {K : Act → World → Prop} {Q : Exit → Act → World → Prop} {x0 x1 x2 x3 : Operand} {p0 p1 p2 p3 : ByteArray} (ho : o.op = .buildSlice 39 4 #[(0, x0), (1, x1), (2, x2), (3, x3)])
    (h0 : a.eval x0 = .string p0) (h1 : a.eval x1 = .string p1) (h2 : a.eval x2 = .string p2) (h3 : a.eval x3 = .string p3)
    (h : ∀ w' g, Rd w' (some ⟨g, 0, none⟩) 4 (sv [p0, p1, p2, p3]) → Below w.heap.size w w' → K (a.put o.dst (.slice (some ⟨g, 0, none⟩) 4 4)) w') : o.wp Tryz.prog a w K Q := by
  have hh := h _ _ (blk_rdL (xs := sv [p0, p1, p2, p3]) (Blk.new w 9 _)) ((Below.refl _ _).alloc (Nat.le_refl _) _)
  unfold Oper.wp execOp
  simp only [ho, List.map_toArray, List.map_cons, List.map_nil, h0, h1, h2, h3, build4_St, Sem.run_bind, Result.andThen_ok, Sem.run_pure]
  exact hh
set_option maxRecDepth 20000 in
set_option maxHeartbeats 4000000 in
theorem write_any (t : Tok) (w : World) (hs : t.s.length ≤ 268435456) :
    Calls Tryz.prog 38 #[tokV t] w fun e w' => e = .returned (.string ⟨(writeL t.kind t.s).toArray⟩) ∧ Below w.heap.size w w' := by
  by_cases hk : t.kind = 4
  · obtain ⟨k, x, l⟩ := t
    dsimp only at hk hs ⊢
    subst hk
    have hw : writeL 4 l = 34 :: (escL l ++ [34]) := by unfold writeL; rw [if_pos rfl]
    rw [hw]
    have hz : (escL l).length ≤ 536870912 := by rw [escL_len]; have := eC_le l; omega
    have HR := Lib.hid (fun g A c W hb hr ha => replace_any g A c ⟨l.toArray⟩ W hb hr ha (by rw [bts_size]; exact hs))
    rw [bts_list] at HR
    generalize escL l = E at *
    have ha1 := run_addL [34] E (by simp) (by omega)
    have ha2 := run_addL (34 :: E) [34] (by simp; omega) (by simp)
    have HA1 : Hid (∀ W, (binOp .add 9 (.string ⟨#[34]⟩) (.string ⟨E.toArray⟩)).run Tryz.prog W = .ok (.string ⟨(34 :: E).toArray⟩) W) := Lib.hid ha1
    have HA2 : Hid (∀ W, (binOp .add 9 (.string ⟨(34 :: E).toArray⟩) (.string ⟨#[34]⟩)).run Tryz.prog W = .ok (.string ⟨(34 :: (E ++ [34])).toArray⟩) W) := Lib.hid ha2
    clear ha1 ha2 hw hz hs
    show Calls _ _ #[lexV 4 x l] _ _
    go_enter Tryz.func38, Tryz.ntmps38
    go_upto_region 1 with ((with_reducible show wpList _ _ _ ({ dst := some 1, op := _, type := _, pos := _, after := _, guard := _ } :: _) _ _); refine wpList_boxLx (v := lexV 4 x l) rfl rfl rfl ?_; intro w1 g1 hg1 b1 hb1 lt1; clear hg1 lt1)
    have c0 : w1.cell? ⟨g1, 0, none⟩ = some (.int .i64 4) := by rw [b1.cell 0]; rfl
    have c2 : w1.cell? ⟨g1, 2, none⟩ = some (.string ⟨l.toArray⟩) := by rw [b1.cell 2]; rfl
    go_upto_region 3 with fail
    have hS : Below w1.heap.size w1 w1.drew := (Below.refl _ _).drew
    refine wp_region_T 7 (by kernel_rfl) ?_
    -- region 3: 8 operations, tail from 7
    refine WpT.take (i := 2) rfl (by kernel_rfl) (fun _ _ _ h => h) (.inl ⟨by rfl, fun w hSw => by clear hSw; go_simp; (try go_bits); (try rw [if_pos (by omega)]); (try with_reducible rfl)⟩) (hS) ?_
    try simp only [Act.put, List.setIfInBounds_toArray, List.set_cons_zero, List.set_cons_succ]
    refine WpT.take (i := 3) rfl (by kernel_rfl) (fun _ _ _ h => h) (yields_load rfl rfl rfl (by kernel_rfl) c2) (hS) ?_
    try simp only [Act.put, List.setIfInBounds_toArray, List.set_cons_zero, List.set_cons_succ]
    refine WpT.one (i := 0) rfl (by kernel_rfl) (fun K hK => ?_)
    refine wp_lit4St rfl rfl rfl rfl rfl ?_; intro w2 g2 hr2 hb2; replace hS := bstep hS hb2
    refine hK _ _ (hS) ?_; clear hK K; try simp only [Act.put, List.setIfInBounds_toArray, List.set_cons_zero, List.set_cons_succ]
    refine WpT.one (i := 1) rfl (by kernel_rfl) (fun K hK => ?_)
    go_simp; refine (newReplacer_any (some ⟨g2, 0, none⟩) 4 _ hr2).mono ?_; rintro e w3 ⟨g3, A3, c3, rfl, hg3, lt3, b3, hr3, hc3, hm3, aw3, hb3⟩; have hgg : w1.heap.size ≤ g3 := Nat.le_trans hS.size hg3; replace hS := bstep hS hb3
    refine hK _ _ (hS) ?_; clear hK K; try simp only [Act.put, List.setIfInBounds_toArray, List.set_cons_zero, List.set_cons_succ]
    refine WpT.one (i := 4) rfl (by kernel_rfl) (fun K hK => ?_)
    go_simp; refine (HR.out g3 A3 c3 _ b3 hr3 aw3).mono ?_; rintro e w4 ⟨rfl, hb4⟩; replace hS := hS.trans (hb4.mono hgg)
    refine hK _ _ (hS) ?_; clear hK K; try simp only [Act.put, List.setIfInBounds_toArray, List.set_cons_zero, List.set_cons_succ]
    refine WpT.take (i := 5) rfl (by kernel_rfl) (fun _ _ _ h => h) (yields_opG HA1.out (by rfl) rfl rfl rfl (fun W => by kernel_rfl)) (hS) ?_
    try simp only [Act.put, List.setIfInBounds_toArray, List.set_cons_zero, List.set_cons_succ]
    refine WpT.take (i := 6) rfl (by kernel_rfl) (fun _ _ _ h => h) (yields_opG HA2.out (by rfl) rfl rfl rfl (fun W => by kernel_rfl)) (hS) ?_
    try simp only [Act.put, List.setIfInBounds_toArray, List.set_cons_zero, List.set_cons_succ]
    refine WpT.tail (i := 7) rfl (by kernel_rfl) (by kernel_rfl) (fun K hK => ?_)
    go_simp; (try go_bits)
    refine hK _ _ ?_; clear hK K; try simp only [Act.put, List.setIfInBounds_toArray, List.set_cons_zero, List.set_cons_succ]
    refine WpT.done (by kernel_rfl) ?_ _
    go_wp2_with fail; go_ret; exact ⟨rfl, bstep hb1 hS⟩
  · rw [show writeL t.kind t.s = t.s from if_neg hk]
    exact write_plain t w hk
theorem escL_bound (l : List UInt8) : (escL l).length ≤ 2 * l.length := by rw [escL_len]; have := eC_le l; omega
theorem writeL_bound (k : Int) (t : List UInt8) : (writeL k t).length ≤ 2 * t.length + 2 := by
  unfold writeL
  split
  · have := escL_bound t; simp; omega
  · omega
theorem isToken_any (t : Tok) (w : World) (hg : GTab w) (hs : t.s.length ≤ 268435456) :
    Calls Tryz.prog 35 #[tokV t] w fun e w' => e = .returned (.bool (isTok t.kind t.s)) ∧ Below w.heap.size w w' :=
  isToken_of t w hg (by have := writeL_bound t.kind t.s; omega) (fun W _ => write_any t W hs)
theorem value_any (t : Tok) (w : World) (hg : GTab w) (hs : t.s.length ≤ 268435456) :
    Calls Tryz.prog 20 #[tokV t] w fun e w' => e = .returned (.tuple #[.int .i64 (valueT t.kind t.s).1, .int .i64 (valueT t.kind t.s).2]) ∧ Below w.heap.size w w' :=
  value_of t w hg (by have := writeL_bound t.kind t.s; omega) (fun W _ => write_any t W hs)
end Go.Proofs.YtiajmdmofjfdcaaGreatDoor
