/-
  The reference's insert. Conditions: the frames stand in order.
-/
import Derived.Test.YtecklplohgfohaaSl
namespace Go.Proofs.Ytecklplohgfohaa
set_option linter.unusedSimpArgs false
set_option linter.unusedVariables false
open Go.RowKit Link
/-- How far the reference's insert has come. -/
def insInv (l : List Fr) (f : Fr) (k : Nat) (out : List Fr) (done : Bool) : Prop :=
  (done = false → out = l.take k ∧ insF l f = out ++ insF (l.drop k) f) ∧ (done = true → insF l f = out ++ l.drop k ∧ ∀ x ∈ l.drop k, f.seq < x.seq) ∧ out.length ≤ k + 1
theorem insInv.start (l : List Fr) (f : Fr) : insInv l f 0 [] false := ⟨fun _ => ⟨by simp, by simp⟩, fun h => (by cases h), by simp⟩
theorem insInv.same {l : List Fr} {f : Fr} {k : Nat} {out : List Fr} {d : Bool} (h : insInv l f k out d) (hk : k < l.length) (e : l[k].seq = f.seq) : insF l f = l := by
  have hd := List.drop_eq_getElem_cons hk
  cases d
  · obtain ⟨h1, h2⟩ := h.1 rfl
    rw [h2, hd]
    simp only [insF, if_pos e]
    rw [h1, ← hd, List.take_append_drop]
  · obtain ⟨_, h2⟩ := h.2.1 rfl
    have := h2 l[k] (by rw [hd]; exact List.mem_cons_self)
    omega
theorem insInv.add {l : List Fr} {f : Fr} {k : Nat} {out : List Fr} (h : insInv l f k out true) (hk : k < l.length) : insInv l f (k + 1) (out ++ [l[k]]) true := by
  have hd := List.drop_eq_getElem_cons hk
  obtain ⟨h1, h2⟩ := h.2.1 rfl
  refine ⟨fun h => (by cases h), fun _ => ⟨by rw [h1, hd]; simp, fun x hx => h2 x (by rw [hd]; exact List.mem_cons_of_mem _ hx)⟩, ?_⟩
  have := h.2.2
  simp; omega
theorem insInv.put {l : List Fr} {f : Fr} {k : Nat} {out : List Fr} (hs : l.Pairwise fun a b => a.seq < b.seq) (h : insInv l f k out false) (hk : k < l.length) (e : f.seq < l[k].seq) : insInv l f (k + 1) ((out ++ [f]) ++ [l[k]]) true := by
  have hd := List.drop_eq_getElem_cons hk
  obtain ⟨h1, h2⟩ := h.1 rfl
  have hp : (l.drop k).Pairwise fun a b => a.seq < b.seq := List.Pairwise.sublist (List.drop_sublist _ _) hs
  rw [hd, List.pairwise_cons] at hp
  refine ⟨fun h => (by cases h), fun _ => ⟨?_, fun x hx => ?_⟩, ?_⟩
  · rw [h2, hd]
    simp only [insF, if_neg (show ¬ l[k].seq = f.seq by omega), if_pos e]
    simp
  · have := hp.1 x hx
    omega
  · rw [h1]; simp; omega
theorem insInv.pass {l : List Fr} {f : Fr} {k : Nat} {out : List Fr} (h : insInv l f k out false) (hk : k < l.length) (e : l[k].seq ≠ f.seq) (e2 : ¬ f.seq < l[k].seq) : insInv l f (k + 1) (out ++ [l[k]]) false := by
  have hd := List.drop_eq_getElem_cons hk
  obtain ⟨h1, h2⟩ := h.1 rfl
  refine ⟨fun _ => ⟨by rw [h1, List.take_succ_eq_append_getElem hk], ?_⟩, fun h => (by cases h), ?_⟩
  · rw [h2, hd]
    simp only [insF, if_neg e, if_neg e2]
    simp
  · have := h.2.2
    simp; omega
theorem insInv.all {l : List Fr} {f : Fr} {out : List Fr} (h : insInv l f l.length out true) : insF l f = out := by
  have := (h.2.1 rfl).1
  simpa using this
theorem insInv.last {l : List Fr} {f : Fr} {out : List Fr} (h : insInv l f l.length out false) : insF l f = out ++ [f] := by
  have := (h.1 rfl).2
  simpa [insF] using this
theorem Blk.frAll {w : World} {g : Nat} {t : TypeId} {f : Fr} (h : Blk w g t (frC f)) : ∀ j u, (fv f)[j]? = some u → w.cell? ((⟨g, 0, none⟩ : Addr).add j) = some u := by
  intro j u hj
  rcases j with _ | _ | _ | j
  · obtain rfl := Option.some.inj hj; exact h.cell 0
  · obtain rfl := Option.some.inj hj; exact h.cell 1
  · obtain rfl := Option.some.inj hj; exact h.cell 2
  · simp [fv] at hj
/-- What an insertion returns. -/
def RInsIs (A0 : Option Addr) (r : List Fr) (w : World) (e : Ending) (w' : World) : Prop := ∃ A n c, e = .returned (.slice A n c) ∧ RdF w' A n r ∧ n ≤ c ∧ c ≤ maxLen ∧ Below w.heap.size w w' ∧ KA w w' A0 A
theorem RInsIs.own {A0 : Option Addr} {r : List Fr} {w w' : World} {B : Nat} {v : Value} {n : Nat} (h : w'.ownsRow B 49 3 v n (fvs r)) (hn : n = r.length) (hB : w.heap.size ≤ B) (hb : Below w.heap.size w w') : RInsIs A0 r w (.returned v) w' := by
  obtain ⟨A5, c5, rfl, h51, h52, hr5⟩ := ownsRow_form h
  refine ⟨A5, n, c5, rfl, ⟨hn.symm, hr5⟩, h51, h52, hb, fun g hg _ ad e => ?_⟩
  subst e
  have := World.ownsRow.lt h ad.block rfl
  omega
set_option maxRecDepth 20000 in
set_option maxHeartbeats 4000000 in
theorem refInsert_any (l : List Fr) (A : Option Addr) (n c : Nat) (f : Fr) (w : World) (hn : n ≤ 100000) (hr : RdF w A n l) (hnc : n ≤ c) (hcm : c ≤ maxLen) (hs : l.Pairwise fun a b => a.seq < b.seq) :
    Calls Try.prog 45 #[.slice A n c, frV f] w (RInsIs A (insF l f) w) := by
  have HL := Lib.hid hr.len
  have HR := Lib.hid hr
  have HCM := Lib.hid hcm
  obtain ⟨wa, hwa, hb0, q0⟩ : ∃ wa : World, wa = w.alloc (.cells (frC f) 49) ∧ Below w.heap.size w wa ∧ Blk wa w.heap.size 49 (frC f) :=
    ⟨_, rfl, (Below.refl w.heap.size w).alloc (Nat.le_refl _) _, Blk.new _ _ _⟩
  have HWA := Lib.hid hwa
  clear hwa hr hcm
  have hown0 : wa.ownsRow wa.heap.size 49 3 (.slice none 0 0) 0 [] := World.ownsRow_nil _ _ _ _
  have HPUT := Lib.hid (fun k out (h : insInv l f k out false) (hk : k < l.length) (e : f.seq < l[k].seq) => insInv.put hs h hk e)
  clear hs
  go_enter Try.func45, Try.ntmps45
  go_upto_region 1 with (fail)
  change Code.wp _ _ _ _ (w.alloc (.cells (frC f) 49))
  rw [← HWA.out]
  go_wp2_with fail
  go_loopw [5, 6, 7] (fun v5 v6 v7 wr => ∃ (k : Nat) (out : List Fr) (d : Bool), k ≤ n ∧ v7 = .int .i64 k ∧ v6 = .bool d ∧ wr.ownsRow wa.heap.size 49 3 v5 out.length (fvs out) ∧ Below wa.heap.size wa wr ∧ Hid (insInv l f k out d)) (fun _ _ v7 _ => n - (intOf v7).toNat)
  case atStart => exact ⟨0, [], false, Nat.zero_le _, rfl, rfl, hown0, Below.refl _ _, Lib.hid (insInv.start l f)⟩
  case round =>
    clear hown0
    obtain ⟨k, out, d, hk, rfl, rfl, hown, hbw, HI⟩ := hrel
    obtain ⟨A5, c5, rfl, -, -, -⟩ := ownsRow_form hown
    by_cases hlt : k < n
    · have hkl : k < l.length := by have := HL.out; omega
      have hBw := hb0.trans (hbw.mono hb0.size)
      obtain ⟨ad, rfl, hc⟩ := (HR.out.below hBw).elem hkl
      replace q0 := q0.below hbw
      have HO : Hid (out.length ≤ k + 1) := Lib.hid HI.out.2.2
      have HSM := Lib.hid (insInv.same HI.out hkl)
      have HAD := Lib.hid (fun h : d = true => insInv.add (by rw [← h]; exact HI.out) hkl)
      have HPU := Lib.hid (fun h : d = false => HPUT.out k out (by rw [← h]; exact HI.out) hkl)
      have HPA := Lib.hid (fun h : d = false => insInv.pass (by rw [← h]; exact HI.out) hkl)
      have HCF : Hid (∀ W, Below wa.heap.size wa W → ∀ j u, (fv l[k])[j]? = some u → W.cell? ((ad.add (k * 3)).add j) = some u) := Lib.hid (fun W hW j u h => by
        obtain ⟨ad', e', hc'⟩ := (HR.out.below (hb0.trans (hW.mono hb0.size))).elem hkl
        injection e' with e'
        subst e'
        exact hc' j u h)
      generalize l[k] = x at *
      obtain ⟨c0, c1, c2⟩ := q0.fr
      have hx1 : wr.cell? ⟨(ad.add (k * 3)).block, (ad.add (k * 3)).off + 1, none⟩ = some (.int .i64 x.seq) := hc 1 _ rfl
      clear HI HPUT
      by_cases e1 : x.seq = f.seq
      · have hR := HSM.out e1
        have HR1 := Lib.hid hR
        have d1 : (x.seq == f.seq) = true := by simpa using e1
        clear e1 HSM HAD HPU HPA hR
        go_upto_region 6 with fail
        refine wp_region_T 8 (by kernel_rfl) ?_
        -- region 6: 8 operations, tail from 8
        refine WpT.take (i := 0) rfl (by kernel_rfl) (fun _ _ _ h => h) (.inl ⟨by rfl, fun w hSw => by clear hSw; go_simp; (try go_bits); (try rw [if_pos (by omega)]); (try with_reducible rfl)⟩) ((Below.refl _ _).drew) ?_
        try simp only [Act.put, List.setIfInBounds_toArray, List.set_cons_zero, List.set_cons_succ]
        refine WpT.take (i := 1) rfl (by kernel_rfl) (fun _ _ _ h => h) (.inl ⟨by rfl, fun w hSw => by clear hSw; go_simp; (try go_bits); (try rw [if_pos (by omega)]); (try with_reducible rfl)⟩) ((Below.refl _ _).drew) ?_
        try simp only [Act.put, List.setIfInBounds_toArray, List.set_cons_zero, List.set_cons_succ]
        refine WpT.take (i := 2) rfl (by kernel_rfl) (fun _ _ _ h => h) (.inl ⟨by rfl, fun w hSw => by clear hSw; go_simp; (try go_bits); (try rw [if_pos (by omega)]); (try with_reducible rfl)⟩) ((Below.refl _ _).drew) ?_
        try simp only [Act.put, List.setIfInBounds_toArray, List.set_cons_zero, List.set_cons_succ]
        refine WpT.take (i := 3) rfl (by kernel_rfl) (fun _ _ _ h => h) (.inl ⟨by rfl, fun w hSw => by clear hSw; go_simp; (try go_bits); (try rw [if_pos (by omega)]); (try with_reducible rfl)⟩) ((Below.refl _ _).drew) ?_
        try simp only [Act.put, List.setIfInBounds_toArray, List.set_cons_zero, List.set_cons_succ]
        refine WpT.take (i := 4) rfl (by kernel_rfl) (fun _ _ _ h => h) (yields_load rfl rfl rfl (by kernel_rfl) hx1) ((Below.refl _ _).drew) ?_
        try simp only [Act.put, List.setIfInBounds_toArray, List.set_cons_zero, List.set_cons_succ]
        refine WpT.take (i := 5) rfl (by kernel_rfl) (fun _ _ _ h => h) (.inl ⟨by rfl, fun w hSw => by clear hSw; go_simp; (try go_bits); (try rw [if_pos (by omega)]); (try with_reducible rfl)⟩) ((Below.refl _ _).drew) ?_
        try simp only [Act.put, List.setIfInBounds_toArray, List.set_cons_zero, List.set_cons_succ]
        refine WpT.take (i := 6) rfl (by kernel_rfl) (fun _ _ _ h => h) (yields_load rfl rfl rfl (by kernel_rfl) c1) ((Below.refl _ _).drew) ?_
        try simp only [Act.put, List.setIfInBounds_toArray, List.set_cons_zero, List.set_cons_succ]
        refine WpT.take (i := 7) rfl (by kernel_rfl) (fun _ _ _ h => h) (.inl ⟨by rfl, fun w hSw => by clear hSw; go_simp; (try go_bits); (try rw [if_pos (by omega)]); (try with_reducible rfl)⟩) ((Below.refl _ _).drew) ?_
        try simp only [Act.put, List.setIfInBounds_toArray, List.set_cons_zero, List.set_cons_succ]
        refine WpT.done (by kernel_rfl) ?_ _
        go_wp2_with fail
        go_ret
        have hbd := bstep hBw ((Below.refl _ wr).drew)
        show RInsIs _ (insF l f) w (.returned (.slice _ n c)) _
        rw [HR1.out]
        exact ⟨_, n, c, rfl, HR.out.below hbd, hnc, HCM.out, hbd, KA.refl _ _⟩
      · have d1 : (x.seq == f.seq) = false := by simpa using e1
        have HNE := Lib.hid e1
        clear e1 HSM
        go_upto_region 6 with fail
        refine wp_region_T 8 (by kernel_rfl) ?_
        -- region 6: 8 operations, tail from 8
        refine WpT.take (i := 0) rfl (by kernel_rfl) (fun _ _ _ h => h) (.inl ⟨by rfl, fun w hSw => by clear hSw; go_simp; (try go_bits); (try rw [if_pos (by omega)]); (try with_reducible rfl)⟩) ((Below.refl _ _).drew) ?_
        try simp only [Act.put, List.setIfInBounds_toArray, List.set_cons_zero, List.set_cons_succ]
        refine WpT.take (i := 1) rfl (by kernel_rfl) (fun _ _ _ h => h) (.inl ⟨by rfl, fun w hSw => by clear hSw; go_simp; (try go_bits); (try rw [if_pos (by omega)]); (try with_reducible rfl)⟩) ((Below.refl _ _).drew) ?_
        try simp only [Act.put, List.setIfInBounds_toArray, List.set_cons_zero, List.set_cons_succ]
        refine WpT.take (i := 2) rfl (by kernel_rfl) (fun _ _ _ h => h) (.inl ⟨by rfl, fun w hSw => by clear hSw; go_simp; (try go_bits); (try rw [if_pos (by omega)]); (try with_reducible rfl)⟩) ((Below.refl _ _).drew) ?_
        try simp only [Act.put, List.setIfInBounds_toArray, List.set_cons_zero, List.set_cons_succ]
        refine WpT.take (i := 3) rfl (by kernel_rfl) (fun _ _ _ h => h) (.inl ⟨by rfl, fun w hSw => by clear hSw; go_simp; (try go_bits); (try rw [if_pos (by omega)]); (try with_reducible rfl)⟩) ((Below.refl _ _).drew) ?_
        try simp only [Act.put, List.setIfInBounds_toArray, List.set_cons_zero, List.set_cons_succ]
        refine WpT.take (i := 4) rfl (by kernel_rfl) (fun _ _ _ h => h) (yields_load rfl rfl rfl (by kernel_rfl) hx1) ((Below.refl _ _).drew) ?_
        try simp only [Act.put, List.setIfInBounds_toArray, List.set_cons_zero, List.set_cons_succ]
        refine WpT.take (i := 5) rfl (by kernel_rfl) (fun _ _ _ h => h) (.inl ⟨by rfl, fun w hSw => by clear hSw; go_simp; (try go_bits); (try rw [if_pos (by omega)]); (try with_reducible rfl)⟩) ((Below.refl _ _).drew) ?_
        try simp only [Act.put, List.setIfInBounds_toArray, List.set_cons_zero, List.set_cons_succ]
        refine WpT.take (i := 6) rfl (by kernel_rfl) (fun _ _ _ h => h) (yields_load rfl rfl rfl (by kernel_rfl) c1) ((Below.refl _ _).drew) ?_
        try simp only [Act.put, List.setIfInBounds_toArray, List.set_cons_zero, List.set_cons_succ]
        refine WpT.take (i := 7) rfl (by kernel_rfl) (fun _ _ _ h => h) (.inl ⟨by rfl, fun w hSw => by clear hSw; go_simp; (try go_bits); (try rw [if_pos (by omega)]); (try with_reducible rfl)⟩) ((Below.refl _ _).drew) ?_
        try simp only [Act.put, List.setIfInBounds_toArray, List.set_cons_zero, List.set_cons_succ]
        refine WpT.done (by kernel_rfl) ?_ _
        have hb6 : Below wr.heap.size wr wr.drew := (Below.refl _ wr).drew
        generalize wr.drew = wy at *
        replace hbw := bstep hbw hb6
        replace hBw := bstep hBw hb6
        replace hown := ownsRow_below hown hb6
        replace q0 := q0.below hb6
        have hc' : ∀ j u, (fv x)[j]? = some u → wy.cell? ((ad.add (k * 3)).add j) = some u := fun j u h => (hb6.cell (World.block_lt_of_cell? _ _ (hc j u h))).trans (hc j u h)
        clear hx1 c0 c1 c2 hc d1 hb6
        obtain ⟨c0, c1, c2⟩ := q0.fr
        have hx1 : wy.cell? ⟨(ad.add (k * 3)).block, (ad.add (k * 3)).off + 1, none⟩ = some (.int .i64 x.seq) := hc' 1 _ rfl
        cases d
        · by_cases e2 : f.seq < x.seq
          · have d2 : decide (f.seq < x.seq) = true := by simpa using e2
            have HN := Lib.hid (HPU.out rfl e2)
            clear HPU HPA HAD HNE e2
            go_upto_region 8 with fail
            refine wp_region_T 12 (by kernel_rfl) ?_
            -- region 8: 12 operations, tail from 12
            refine WpT.take (i := 0) rfl (by kernel_rfl) (fun _ _ _ h => h) (.inl ⟨by rfl, fun w hSw => by clear hSw; go_simp; (try go_bits); (try rw [if_pos (by omega)]); (try with_reducible rfl)⟩) ((Below.refl _ _).drew) ?_
            try simp only [Act.put, List.setIfInBounds_toArray, List.set_cons_zero, List.set_cons_succ]
            refine WpT.take (i := 1) rfl (by kernel_rfl) (fun _ _ _ h => h) (.inl ⟨by rfl, fun w hSw => by clear hSw; go_simp; (try go_bits); (try rw [if_pos (by omega)]); (try with_reducible rfl)⟩) ((Below.refl _ _).drew) ?_
            try simp only [Act.put, List.setIfInBounds_toArray, List.set_cons_zero, List.set_cons_succ]
            refine WpT.take (i := 2) rfl (by kernel_rfl) (fun _ _ _ h => h) (.inl ⟨by rfl, fun w hSw => by clear hSw; go_simp; (try go_bits); (try rw [if_pos (by omega)]); (try with_reducible rfl)⟩) ((Below.refl _ _).drew) ?_
            try simp only [Act.put, List.setIfInBounds_toArray, List.set_cons_zero, List.set_cons_succ]
            refine WpT.take (i := 3) rfl (by kernel_rfl) (fun _ _ _ h => h) (.inl ⟨by rfl, fun w hSw => by clear hSw; go_simp; (try go_bits); (try rw [if_pos (by omega)]); (try with_reducible rfl)⟩) ((Below.refl _ _).drew) ?_
            try simp only [Act.put, List.setIfInBounds_toArray, List.set_cons_zero, List.set_cons_succ]
            refine WpT.take (i := 4) rfl (by kernel_rfl) (fun _ _ _ h => h) (yields_loadW (by rfl) rfl rfl (by kernel_rfl) c1) ((Below.refl _ _).drew) ?_
            try simp only [Act.put, List.setIfInBounds_toArray, List.set_cons_zero, List.set_cons_succ]
            refine WpT.take (i := 5) rfl (by kernel_rfl) (fun _ _ _ h => h) (.inl ⟨by rfl, fun w hSw => by clear hSw; go_simp; (try go_bits); (try rw [if_pos (by omega)]); (try with_reducible rfl)⟩) ((Below.refl _ _).drew) ?_
            try simp only [Act.put, List.setIfInBounds_toArray, List.set_cons_zero, List.set_cons_succ]
            refine WpT.take (i := 6) rfl (by kernel_rfl) (fun _ _ _ h => h) (.inl ⟨by rfl, fun w hSw => by clear hSw; go_simp; (try go_bits); (try rw [if_pos (by omega)]); (try with_reducible rfl)⟩) ((Below.refl _ _).drew) ?_
            try simp only [Act.put, List.setIfInBounds_toArray, List.set_cons_zero, List.set_cons_succ]
            refine WpT.take (i := 7) rfl (by kernel_rfl) (fun _ _ _ h => h) (.inl ⟨by rfl, fun w hSw => by clear hSw; go_simp; (try go_bits); (try rw [if_pos (by omega)]); (try with_reducible rfl)⟩) ((Below.refl _ _).drew) ?_
            try simp only [Act.put, List.setIfInBounds_toArray, List.set_cons_zero, List.set_cons_succ]
            refine WpT.take (i := 8) rfl (by kernel_rfl) (fun _ _ _ h => h) (.inl ⟨by rfl, fun w hSw => by clear hSw; go_simp; (try go_bits); (try rw [if_pos (by omega)]); (try with_reducible rfl)⟩) ((Below.refl _ _).drew) ?_
            try simp only [Act.put, List.setIfInBounds_toArray, List.set_cons_zero, List.set_cons_succ]
            refine WpT.take (i := 9) rfl (by kernel_rfl) (fun _ _ _ h => h) (yields_loadW (by rfl) rfl rfl (by kernel_rfl) hx1) ((Below.refl _ _).drew) ?_
            try simp only [Act.put, List.setIfInBounds_toArray, List.set_cons_zero, List.set_cons_succ]
            refine WpT.take (i := 10) rfl (by kernel_rfl) (fun _ _ _ h => h) (.inl ⟨by rfl, fun w hSw => by clear hSw; go_simp; (try go_bits); (try rw [if_pos (by omega)]); (try with_reducible rfl)⟩) ((Below.refl _ _).drew) ?_
            try simp only [Act.put, List.setIfInBounds_toArray, List.set_cons_zero, List.set_cons_succ]
            refine WpT.take (i := 11) rfl (by kernel_rfl) (fun _ _ _ h => h) (.inl ⟨by rfl, fun w hSw => by clear hSw; go_simp; (try go_bits); (try rw [if_pos (by omega)]); (try with_reducible rfl)⟩) ((Below.refl _ _).drew) ?_
            try simp only [Act.put, List.setIfInBounds_toArray, List.set_cons_zero, List.set_cons_succ]
            refine WpT.done (by kernel_rfl) ?_ _
            have hb8 : Below wy.heap.size wy wy.drew := (Below.refl _ wy).drew
            generalize wy.drew = wz at *
            replace hbw := bstep hbw hb8
            replace hBw := bstep hBw hb8
            replace hown := ownsRow_below hown hb8
            replace q0 := q0.below hb8
            have hc : ∀ j u, (fv x)[j]? = some u → wz.cell? ((ad.add (k * 3)).add j) = some u := fun j u h => (hb8.cell (World.block_lt_of_cell? _ _ (hc' j u h))).trans (hc' j u h)
            clear hc' hx1 c0 c1 c2 hb8
            go_upto_region 10 with (first
              | ((with_reducible show wpList _ _ _ _ _ _); refine wpList_loadFrW (by rfl) rfl rfl q0.frAll ?_)
              | ((with_reducible show wpList _ _ _ _ _ _); refine wpList_lit1f (s := f) rfl rfl rfl ?_; intro w5 g5 hg5 hr5 hl5 hb5; clear hg5 hl5; have hown5 := ownsRow_below hown hb5)
              | ((with_reducible show wpList _ _ _ _ _ _); refine wpList_appK rfl rfl elemFr rfl hown5 rfl (m := 1) hr5.rd (one_fvs _) (by have := HO.out; omega) (by have := hbw.size; have := hb5.size; omega) ?_; intro v6 w6 hown6 _ hb6; obtain ⟨A6, c6, rfl, -, -, -⟩ := ownsRow_form hown6))
            have hbf : Below wa.heap.size wa w6 := (bstep hbw hb5).trans hb6
            have hown7 : w6.ownsRow wa.heap.size 49 3 (.slice A6 (out.length + 1) c6) (out ++ [f]).length (fvs (out ++ [f])) := by rw [List.length_append, fvs_app]; exact hown6
            have HO2 : Hid ((out ++ [f]).length ≤ k + 2) := Lib.hid (by have := HO.out; simp; omega)
            have hcf : ∀ j u, (fv x)[j]? = some u → w6.cell? ((ad.add (k * 3)).add j) = some u := by
              exact HCF.out w6 hbf
            clear hc hr5 hown5 hown6 hown hb5 hb6
            generalize out ++ [f] = out2 at *
            go_wp2_with (first
              | ((with_reducible show wpList _ _ _ _ _ _); refine wpList_loadFrW (by rfl) rfl rfl hcf ?_)
              | ((with_reducible show wpList _ _ _ _ _ _); refine wpList_lit1f (s := x) rfl rfl rfl ?_; intro w5' g5' hg5 hr5 hl5 hb5; clear hg5 hl5; have hown5 := ownsRow_below hown7 hb5)
              | ((with_reducible show wpList _ _ _ _ _ _); refine wpList_appK rfl rfl elemFr rfl hown5 rfl (m := 1) hr5.rd (one_fvs _) (by have := HO2.out; omega) (by have := hbf.size; have := hb5.size; omega) ?_; intro v6' w6' hown6 _ hb6))
            have hbg : Below wa.heap.size wa w6' := (bstep hbf hb5).trans hb6
            exact ⟨⟨k + 1, out2 ++ [x], true, by omega, by go_num, rfl, by rw [List.length_append, fvs_app]; exact hown6, hbg, HN⟩, by simp [intOf]; omega⟩
          · have d2 : decide (f.seq < x.seq) = false := by simpa using e2
            have HN := Lib.hid (HPA.out rfl HNE.out e2)
            clear HPU HPA HAD HNE e2
            go_upto_region 8 with fail
            refine wp_region_T 12 (by kernel_rfl) ?_
            -- region 8: 12 operations, tail from 12
            refine WpT.take (i := 0) rfl (by kernel_rfl) (fun _ _ _ h => h) (.inl ⟨by rfl, fun w hSw => by clear hSw; go_simp; (try go_bits); (try rw [if_pos (by omega)]); (try with_reducible rfl)⟩) ((Below.refl _ _).drew) ?_
            try simp only [Act.put, List.setIfInBounds_toArray, List.set_cons_zero, List.set_cons_succ]
            refine WpT.take (i := 1) rfl (by kernel_rfl) (fun _ _ _ h => h) (.inl ⟨by rfl, fun w hSw => by clear hSw; go_simp; (try go_bits); (try rw [if_pos (by omega)]); (try with_reducible rfl)⟩) ((Below.refl _ _).drew) ?_
            try simp only [Act.put, List.setIfInBounds_toArray, List.set_cons_zero, List.set_cons_succ]
            refine WpT.take (i := 2) rfl (by kernel_rfl) (fun _ _ _ h => h) (.inl ⟨by rfl, fun w hSw => by clear hSw; go_simp; (try go_bits); (try rw [if_pos (by omega)]); (try with_reducible rfl)⟩) ((Below.refl _ _).drew) ?_
            try simp only [Act.put, List.setIfInBounds_toArray, List.set_cons_zero, List.set_cons_succ]
            refine WpT.take (i := 3) rfl (by kernel_rfl) (fun _ _ _ h => h) (.inl ⟨by rfl, fun w hSw => by clear hSw; go_simp; (try go_bits); (try rw [if_pos (by omega)]); (try with_reducible rfl)⟩) ((Below.refl _ _).drew) ?_
            try simp only [Act.put, List.setIfInBounds_toArray, List.set_cons_zero, List.set_cons_succ]
            refine WpT.take (i := 4) rfl (by kernel_rfl) (fun _ _ _ h => h) (yields_loadW (by rfl) rfl rfl (by kernel_rfl) c1) ((Below.refl _ _).drew) ?_
            try simp only [Act.put, List.setIfInBounds_toArray, List.set_cons_zero, List.set_cons_succ]
            refine WpT.take (i := 5) rfl (by kernel_rfl) (fun _ _ _ h => h) (.inl ⟨by rfl, fun w hSw => by clear hSw; go_simp; (try go_bits); (try rw [if_pos (by omega)]); (try with_reducible rfl)⟩) ((Below.refl _ _).drew) ?_
            try simp only [Act.put, List.setIfInBounds_toArray, List.set_cons_zero, List.set_cons_succ]
            refine WpT.take (i := 6) rfl (by kernel_rfl) (fun _ _ _ h => h) (.inl ⟨by rfl, fun w hSw => by clear hSw; go_simp; (try go_bits); (try rw [if_pos (by omega)]); (try with_reducible rfl)⟩) ((Below.refl _ _).drew) ?_
            try simp only [Act.put, List.setIfInBounds_toArray, List.set_cons_zero, List.set_cons_succ]
            refine WpT.take (i := 7) rfl (by kernel_rfl) (fun _ _ _ h => h) (.inl ⟨by rfl, fun w hSw => by clear hSw; go_simp; (try go_bits); (try rw [if_pos (by omega)]); (try with_reducible rfl)⟩) ((Below.refl _ _).drew) ?_
            try simp only [Act.put, List.setIfInBounds_toArray, List.set_cons_zero, List.set_cons_succ]
            refine WpT.take (i := 8) rfl (by kernel_rfl) (fun _ _ _ h => h) (.inl ⟨by rfl, fun w hSw => by clear hSw; go_simp; (try go_bits); (try rw [if_pos (by omega)]); (try with_reducible rfl)⟩) ((Below.refl _ _).drew) ?_
            try simp only [Act.put, List.setIfInBounds_toArray, List.set_cons_zero, List.set_cons_succ]
            refine WpT.take (i := 9) rfl (by kernel_rfl) (fun _ _ _ h => h) (yields_loadW (by rfl) rfl rfl (by kernel_rfl) hx1) ((Below.refl _ _).drew) ?_
            try simp only [Act.put, List.setIfInBounds_toArray, List.set_cons_zero, List.set_cons_succ]
            refine WpT.take (i := 10) rfl (by kernel_rfl) (fun _ _ _ h => h) (.inl ⟨by rfl, fun w hSw => by clear hSw; go_simp; (try go_bits); (try rw [if_pos (by omega)]); (try with_reducible rfl)⟩) ((Below.refl _ _).drew) ?_
            try simp only [Act.put, List.setIfInBounds_toArray, List.set_cons_zero, List.set_cons_succ]
            refine WpT.take (i := 11) rfl (by kernel_rfl) (fun _ _ _ h => h) (.inl ⟨by rfl, fun w hSw => by clear hSw; go_simp; (try go_bits); (try rw [if_pos (by omega)]); (try with_reducible rfl)⟩) ((Below.refl _ _).drew) ?_
            try simp only [Act.put, List.setIfInBounds_toArray, List.set_cons_zero, List.set_cons_succ]
            refine WpT.done (by kernel_rfl) ?_ _
            have hb8 : Below wy.heap.size wy wy.drew := (Below.refl _ wy).drew
            generalize wy.drew = wz at *
            replace hbw := bstep hbw hb8
            replace hBw := bstep hBw hb8
            replace hown := ownsRow_below hown hb8
            replace q0 := q0.below hb8
            have hc : ∀ j u, (fv x)[j]? = some u → wz.cell? ((ad.add (k * 3)).add j) = some u := fun j u h => (hb8.cell (World.block_lt_of_cell? _ _ (hc' j u h))).trans (hc' j u h)
            clear hc' hx1 c0 c1 c2 hb8
            go_wp2_with (first
              | ((with_reducible show wpList _ _ _ _ _ _); refine wpList_loadFrW (by rfl) rfl rfl hc ?_)
              | ((with_reducible show wpList _ _ _ _ _ _); refine wpList_lit1f (s := x) rfl rfl rfl ?_; intro w5 g5 hg5 hr5 hl5 hb5; clear hg5 hl5; have hown5 := ownsRow_below hown hb5)
              | ((with_reducible show wpList _ _ _ _ _ _); refine wpList_appK rfl rfl elemFr rfl hown5 rfl (m := 1) hr5.rd (one_fvs _) (by have := HO.out; omega) (by have := hbw.size; have := hb5.size; omega) ?_; intro v6 w6 hown6 _ hb6))
            have hbf : Below wa.heap.size wa w6 := (bstep hbw hb5).trans hb6
            exact ⟨⟨k + 1, out ++ [x], false, by omega, by go_num, rfl, by rw [List.length_append, fvs_app]; exact hown6, hbf, HN⟩, by simp [intOf]; omega⟩
        · have HN := Lib.hid (HAD.out rfl)
          clear HPU HPA HAD HNE
          go_upto_region 8 with fail
          refine wp_region_T 12 (by kernel_rfl) ?_
          -- region 8: 12 operations, tail from 12
          refine WpT.take (i := 0) rfl (by kernel_rfl) (fun _ _ _ h => h) (.inl ⟨by rfl, fun w hSw => by clear hSw; go_simp; (try go_bits); (try rw [if_pos (by omega)]); (try with_reducible rfl)⟩) ((Below.refl _ _).drew) ?_
          try simp only [Act.put, List.setIfInBounds_toArray, List.set_cons_zero, List.set_cons_succ]
          refine WpT.take (i := 1) rfl (by kernel_rfl) (fun _ _ _ h => h) (.inl ⟨by rfl, fun w hSw => by clear hSw; go_simp; (try go_bits); (try rw [if_pos (by omega)]); (try with_reducible rfl)⟩) ((Below.refl _ _).drew) ?_
          try simp only [Act.put, List.setIfInBounds_toArray, List.set_cons_zero, List.set_cons_succ]
          refine WpT.take (i := 2) rfl (by kernel_rfl) (fun _ _ _ h => h) (.inl ⟨by rfl, fun w hSw => by clear hSw; go_simp; (try go_bits); (try rw [if_pos (by omega)]); (try with_reducible rfl)⟩) ((Below.refl _ _).drew) ?_
          try simp only [Act.put, List.setIfInBounds_toArray, List.set_cons_zero, List.set_cons_succ]
          refine WpT.take (i := 3) rfl (by kernel_rfl) (fun _ _ _ h => h) (.inr ⟨by rfl, rfl⟩) ((Below.refl _ _).drew) ?_
          try simp only [Act.put, List.setIfInBounds_toArray, List.set_cons_zero, List.set_cons_succ]
          refine WpT.take (i := 4) rfl (by kernel_rfl) (fun _ _ _ h => h) (.inr ⟨by rfl, rfl⟩) ((Below.refl _ _).drew) ?_
          try simp only [Act.put, List.setIfInBounds_toArray, List.set_cons_zero, List.set_cons_succ]
          refine WpT.take (i := 5) rfl (by kernel_rfl) (fun _ _ _ h => h) (.inr ⟨by rfl, rfl⟩) ((Below.refl _ _).drew) ?_
          try simp only [Act.put, List.setIfInBounds_toArray, List.set_cons_zero, List.set_cons_succ]
          refine WpT.take (i := 6) rfl (by kernel_rfl) (fun _ _ _ h => h) (.inr ⟨by rfl, rfl⟩) ((Below.refl _ _).drew) ?_
          try simp only [Act.put, List.setIfInBounds_toArray, List.set_cons_zero, List.set_cons_succ]
          refine WpT.take (i := 7) rfl (by kernel_rfl) (fun _ _ _ h => h) (.inr ⟨by rfl, rfl⟩) ((Below.refl _ _).drew) ?_
          try simp only [Act.put, List.setIfInBounds_toArray, List.set_cons_zero, List.set_cons_succ]
          refine WpT.take (i := 8) rfl (by kernel_rfl) (fun _ _ _ h => h) (.inr ⟨by rfl, rfl⟩) ((Below.refl _ _).drew) ?_
          try simp only [Act.put, List.setIfInBounds_toArray, List.set_cons_zero, List.set_cons_succ]
          refine WpT.take (i := 9) rfl (by kernel_rfl) (fun _ _ _ h => h) (.inr ⟨by rfl, rfl⟩) ((Below.refl _ _).drew) ?_
          try simp only [Act.put, List.setIfInBounds_toArray, List.set_cons_zero, List.set_cons_succ]
          refine WpT.take (i := 10) rfl (by kernel_rfl) (fun _ _ _ h => h) (.inr ⟨by rfl, rfl⟩) ((Below.refl _ _).drew) ?_
          try simp only [Act.put, List.setIfInBounds_toArray, List.set_cons_zero, List.set_cons_succ]
          refine WpT.take (i := 11) rfl (by kernel_rfl) (fun _ _ _ h => h) (.inl ⟨by rfl, fun w hSw => by clear hSw; go_simp; (try go_bits); (try rw [if_pos (by omega)]); (try with_reducible rfl)⟩) ((Below.refl _ _).drew) ?_
          try simp only [Act.put, List.setIfInBounds_toArray, List.set_cons_zero, List.set_cons_succ]
          refine WpT.done (by kernel_rfl) ?_ _
          have hb8 : Below wy.heap.size wy wy.drew := (Below.refl _ wy).drew
          generalize wy.drew = wz at *
          replace hbw := bstep hbw hb8
          replace hBw := bstep hBw hb8
          replace hown := ownsRow_below hown hb8
          replace q0 := q0.below hb8
          have hc : ∀ j u, (fv x)[j]? = some u → wz.cell? ((ad.add (k * 3)).add j) = some u := fun j u h => (hb8.cell (World.block_lt_of_cell? _ _ (hc' j u h))).trans (hc' j u h)
          clear hc' hx1 c0 c1 c2 hb8
          go_wp2_with (first
            | ((with_reducible show wpList _ _ _ _ _ _); refine wpList_loadFrW (by rfl) rfl rfl hc ?_)
            | ((with_reducible show wpList _ _ _ _ _ _); refine wpList_lit1f (s := x) rfl rfl rfl ?_; intro w5 g5 hg5 hr5 hl5 hb5; clear hg5 hl5; have hown5 := ownsRow_below hown hb5)
            | ((with_reducible show wpList _ _ _ _ _ _); refine wpList_appK rfl rfl elemFr rfl hown5 rfl (m := 1) hr5.rd (one_fvs _) (by have := HO.out; omega) (by have := hbw.size; have := hb5.size; omega) ?_; intro v6 w6 hown6 _ hb6))
          have hbf : Below wa.heap.size wa w6 := (bstep hbw hb5).trans hb6
          exact ⟨⟨k + 1, out ++ [x], true, by omega, by go_num, rfl, by rw [List.length_append, fvs_app]; exact hown6, hbf, HN⟩, by simp [intOf]; omega⟩
    · obtain rfl : k = n := by omega
      clear HPUT
      have hBw := hb0.trans (hbw.mono hb0.size)
      replace q0 := q0.below hbw
      have HO : Hid (out.length ≤ k + 1) := Lib.hid HI.out.2.2
      cases d
      · have hE := insInv.last (by have := HI.out; rwa [← HL.out] at this)
        have HE := Lib.hid hE
        clear hE HI
        go_wp2_with (first
          | ((with_reducible show wpList _ _ _ _ _ _); refine wpList_loadFrW (by rfl) rfl rfl q0.frAll ?_)
          | ((with_reducible show wpList _ _ _ _ _ _); refine wpList_lit1f (s := f) rfl rfl rfl ?_; intro w5 g5 hg5 hr5 hl5 hb5; clear hg5 hl5; have hown5 := ownsRow_below hown hb5)
          | ((with_reducible show wpList _ _ _ _ _ _); refine wpList_appK rfl rfl elemFr rfl hown5 rfl (m := 1) hr5.rd (one_fvs _) (by have := HO.out; omega) (by have := hbw.size; have := hb5.size; omega) ?_; intro v6 w6 hown6 _ hb6; obtain ⟨A6, c6, rfl, -, -, -⟩ := ownsRow_form hown6))
        go_ret
        show RInsIs A (insF l f) w (.returned (.slice A6 (out.length + 1) c6)) _
        rw [HE.out]
        refine RInsIs.own (by rw [fvs_app]; exact hown6) (by simp) hb0.size ?_
        exact (bstep hBw hb5).trans (hb6.mono hb0.size)
      · have hE := insInv.all (by have := HI.out; rwa [← HL.out] at this)
        have HE := Lib.hid hE
        clear hE HI
        go_wp2_with fail
        go_ret
        show RInsIs A (insF l f) w (.returned (.slice A5 out.length c5)) _
        rw [HE.out]
        exact RInsIs.own hown rfl hb0.size hBw
end Go.Proofs.Ytecklplohgfohaa
