/-
  Find and of in the program, Find in the reference. Conditions: a ring's keys stand in order.
-/
import Derived.Test.YtfnpeclomcnpeaaDoorRg
namespace Go.Proofs.YtfnpeclomcnpeaaDoor
set_option linter.unusedSimpArgs false
set_option linter.unusedVariables false
open Go.RowKit Ring
/-- A function whose first result lies in a block that is known whole, whose second one lies in a slot. -/
theorem ret_blk2 {P : Program} {fn : Func} {R : Ending → World → Prop} {a : Act} {w : World} {g : Nat} {t : TypeId} {cs : Array Value} {p q : Tmp} {ty : TypeId}
    (h : fn.results = #[.cell p ty, .tmp q]) (hd : a.defers = []) (hp : a.tmps.getD p undef = .pointer (some ⟨g, 0, none⟩)) (hb : Blk w g t cs)
    (hu : (P.underlying ty).map isAggDesc = some true) (hi : (P.info? ty).map (·.size) = some cs.size) (hR : R (.returned (.tuple #[.agg cs, a.tmps.getD q undef])) w) : bodyPost P fn R .ret a w := by
  refine bodyPost_ret ?_ hd hR
  have hp' : a.tmps[p]?.getD undef = .pointer (some ⟨g, 0, none⟩) := by simpa using hp
  simp [results, h, hp', asAddr, run_loadVar_blk w g t ty cs hb hu hi]
theorem wpList_loadKy {w : World} {ops : Array Oper} {rest : List Oper} {o : Oper} {a : Act} {Q : Exit → Act → World → Prop} (hgd : o.guard = none) {x : Operand} (ho : o.op = .load 24 x) {p : Addr} (ha : a.eval x = .pointer (some p)) {k : Key}
    (hc : ∀ j u, (kv k)[j]? = some u → w.cell? (p.add j) = some u) (h : wpList Tryd.prog ops Q rest (a.put o.dst (.agg (keyC k))) w) : wpList Tryd.prog ops Q (o :: rest) a w :=
  wpList_loadK (us := kv k) hgd ho ha aggKy sizeKy hc h
def zeroKey : Key := ⟨0, 0, ⟨#[]⟩, 0, 0⟩
/-- The key that has been found, or none: all 0. -/
def keyO (o : Option Key) : Key := o.getD zeroKey
def errO (o : Option Key) (e : Int) : Int := if o.isSome then 0 else e
set_option maxRecDepth 20000 in
set_option maxHeartbeats 1000000 in
theorem find_any (A : Option Addr) (n c : Nat) (l : List Key) (p s : Int) (w : World) (hn : n ≤ 100000) (hr : RdK w A n l) (hs : Sorted l) :
    Calls Tryd.prog 15 #[.slice A n c, .int .i64 p, .int .i64 s] w fun e w' => e = .returned (.tuple #[keyV (keyO (find ⟨p, s, ⟨#[]⟩, 0, 0⟩ l)), .int .i64 (errO (find ⟨p, s, ⟨#[]⟩, 0, 0⟩ l) 5)]) ∧ Below w.heap.size w w' := by
  have HQ := Lib.hid (fun W hr => place_any A n c l p s W hn hr hs)
  have HL := Lib.hid hr.len
  have HF : Hid (find ⟨p, s, ⟨#[]⟩, 0, 0⟩ l = none ∨ ∃ (h : low ⟨p, s, ⟨#[]⟩, 0, 0⟩ l < l.length), find ⟨p, s, ⟨#[]⟩, 0, 0⟩ l = some l[low ⟨p, s, ⟨#[]⟩, 0, 0⟩ l]) := Lib.hid (by
    rw [find_eq _ l hs]
    by_cases h : low ⟨p, s, ⟨#[]⟩, 0, 0⟩ l < l.length
    · rw [dif_pos h]
      by_cases hx : same l[low ⟨p, s, ⟨#[]⟩, 0, 0⟩ l] ⟨p, s, ⟨#[]⟩, 0, 0⟩
      · rw [if_pos hx]; exact .inr ⟨h, rfl⟩
      · rw [if_neg hx]; exact .inl rfl
    · rw [dif_neg h]; exact .inl rfl)
  generalize low ⟨p, s, ⟨#[]⟩, 0, 0⟩ l = L at *
  generalize find ⟨p, s, ⟨#[]⟩, 0, 0⟩ l = F at *
  have hb0 := (Below.refl w.heap.size w).alloc (Nat.le_refl _) (.cells (keyC zeroKey) 24)
  have hz0 := Blk.new w 24 (keyC zeroKey)
  rcases HF.out with rfl | ⟨hL, rfl⟩
  · go_enter Tryd.func15, Tryd.ntmps15
    go_wp2_with fail
    refine (HQ.out _ (hr.below hb0)).mono ?_
    rintro e w' ⟨rfl, hb1⟩
    have hz1 := hz0.below hb1
    have hb2 := bstep hb0 hb1
    clear hz0 hb0
    go_wp2_with (refine wpList_storeKy (k := zeroKey) rfl rfl rfl rfl hz1 ?_; intro w3 hbk3 hb3)
    refine ret_blk2 rfl rfl rfl hbk3 aggKy sizeKy ⟨rfl, hb2.trans hb3⟩
  · obtain ⟨ad, rfl, _⟩ := hr.elem hL
    have HE : Hid (∀ W', Below w.heap.size w W' → ∀ j u, (kv l[L])[j]? = some u → W'.cell? ((ad.add (L * 5)).add j) = some u) := Lib.hid (fun W' hb => by
      obtain ⟨ad', e', hc'⟩ := (hr.below hb).elem hL
      injection e' with e'
      subst e'
      exact hc')
    have hL2 : L < n := by have := HL.out; omega
    generalize l[L] = x at *
    go_enter Tryd.func15, Tryd.ntmps15
    go_wp2_with fail
    refine (HQ.out _ (hr.below hb0)).mono ?_
    rintro e w' ⟨rfl, hb1⟩
    have hz1 := hz0.below hb1
    have hb2 := bstep hb0 hb1
    have hc := HE.out _ hb2
    clear hz0 hb0 HF
    go_wp2_with (first
      | (refine wpList_loadKy (k := x) rfl rfl rfl hc ?_)
      | (refine wpList_storeKy (k := x) rfl rfl rfl rfl hz1 ?_; intro w3 hbk3 hb3))
    refine ret_blk2 rfl rfl rfl hbk3 aggKy sizeKy ⟨rfl, hb2.trans hb3⟩
/-- The reference's pair of a key and an error. -/
abbrev keyedC (k : Key) (e : Int) : Array Value := #[.int .i64 k.party, .int .i64 k.serial, .string k.secret, .int .i64 k.frm, .int .i64 k.til, .int .i64 e]
theorem wpList_storeRow6 {w : World} {ops : Array Oper} {rest : List Oper} {o : Oper} {a : Act} {Q : Exit → Act → World → Prop} (hgd : o.guard = none) {x y : Operand} (ho : o.op = .store 37 x y) {g : Nat} (hx : a.eval x = .pointer (some ⟨g, 0, none⟩))
    {k k' : Key} {e e' : Int} (hy : a.eval y = .agg (keyedC k e)) (hb : Blk w g 37 (keyedC k' e'))
    (h : ∀ w', Blk w' g 37 (keyedC k e) → Below g w w' → wpList Tryd.prog ops Q rest (a.put o.dst undef) w') : wpList Tryd.prog ops Q (o :: rest) a w :=
  wpList_storeRow (o := 0) (vs := keyedC k e) hgd ho hx hy hb (by simp) (by kernel_rfl) (by simp [keyedC, Value.oneCell']) (h _ (hb.all (keyedC k e) rfl) (below_setCells (Below.refl _ _) (Nat.le_refl _) 0 _))
theorem aggKd : (Tryd.prog.underlying 37).map isAggDesc = some true := by kernel_rfl
theorem sizeKd : (Tryd.prog.info? 37).map (·.size) = some 6 := by kernel_rfl
theorem find_at (z : Key) : ∀ (l : List Key) (k : Nat) (h : k < l.length), (∀ j (h' : j < l.length), j < k → ¬ same l[j] z) → same l[k] z → find z l = some l[k]
  | [], k, h, _, _ => by simp at h
  | x :: l, k, h, h0, hk => by
    cases k with
    | zero => simp only [List.getElem_cons_zero] at hk ⊢; unfold find; rw [if_pos hk]
    | succ k =>
      have hx : ¬ same x z := h0 0 (by simp) (by omega)
      unfold find
      rw [if_neg hx]
      exact find_at z l k (by simpa using h) (fun j h' hj => h0 (j + 1) (by simpa using h') (by omega)) (by simpa using hk)
set_option maxRecDepth 20000 in
set_option maxHeartbeats 2000000 in
theorem refFind_any (A : Option Addr) (n c : Nat) (l : List Key) (p s : Int) (w : World) (hn : n ≤ 100000) (hr : RdK w A n l) :
    Calls Tryd.prog 18 #[.slice A n c, .int .i64 p, .int .i64 s] w fun e w' => e = .returned (.agg (keyedC (keyO (find ⟨p, s, ⟨#[]⟩, 0, 0⟩ l)) (errO (find ⟨p, s, ⟨#[]⟩, 0, 0⟩ l) 5))) ∧ Below w.heap.size w w' := by
  have HL := Lib.hid hr.len
  have HA := Lib.hid (find_at ⟨p, s, ⟨#[]⟩, 0, 0⟩ l)
  have HN := Lib.hid (find_none ⟨p, s, ⟨#[]⟩, 0, 0⟩ l)
  generalize find ⟨p, s, ⟨#[]⟩, 0, 0⟩ l = F at *
  have hb0 := (Below.refl w.heap.size w).alloc (Nat.le_refl _) (.cells (keyedC zeroKey 0) 37)
  have hz0 := Blk.new w 37 (keyedC zeroKey 0)
  go_enter Tryd.func18, Tryd.ntmps18
  go_wp2_with fail
  go_loopw [7] (fun vj wr => ∃ k : Nat, k ≤ n ∧ vj = .int .i64 k ∧ Below w.heap.size w wr ∧ Blk wr w.heap.size 37 (keyedC zeroKey 0) ∧ Hid (∀ j (h' : j < l.length), j < k → ¬ same l[j] ⟨p, s, ⟨#[]⟩, 0, 0⟩)) (fun vj _ => n - (intOf vj).toNat)
  case atStart => exact ⟨0, Nat.zero_le _, rfl, hb0, hz0, Lib.hid (fun _ _ h => by omega)⟩
  case round =>
    clear hb0 hz0
    obtain ⟨k, hk, rfl, hbw, hz, HP⟩ := hrel
    by_cases hlt : k < n
    · obtain ⟨ad, rfl, hc⟩ := (hr.below hbw).elem (i := k) (by have := HL.out; omega)
      have HA1 := Lib.hid (HA.out k (by have := HL.out; omega) HP.out)
      have HPn : Hid (¬ same (l[k]'(by have := HL.out; omega)) ⟨p, s, ⟨#[]⟩, 0, 0⟩ → ∀ j (h' : j < l.length), j < k + 1 → ¬ same l[j] ⟨p, s, ⟨#[]⟩, 0, 0⟩) := Lib.hid (fun h0 j h' hj => by
        rcases Nat.lt_or_ge j k with h | h
        · exact HP.out j h' h
        · obtain rfl : j = k := by omega
          exact h0)
      clear HP
      generalize (l[k]'(by have := HL.out; omega)) = x at *
      have hc0 := hc 0 _ rfl
      have hc1 : wr.cell? ⟨(ad.add (k * 5)).block, (ad.add (k * 5)).off + 1, none⟩ = some (.int .i64 x.serial) := hc 1 _ rfl
      have HC := Lib.hid hc
      rw [Addr.add_zero'] at hc0
      clear hc
      unfold same at HA1 HPn
      simp only at HA1 HPn
      by_cases h1 : x.party = p
      · by_cases h2 : x.serial = s
        · obtain rfl := HA1.out ⟨h1, h2⟩
          have d1 : (x.party == p) = true := by simpa using h1
          have d2 : (x.serial == s) = true := by simpa using h2
          clear HA1 HPn HA HN h1 h2
          go_wp2_with (first
            | (refine wpList_loadKy (k := x) rfl rfl rfl HC.out ?_)
            | (refine wpList_storeRow6 (k := x) (e := 0) rfl rfl rfl rfl hz ?_; intro w3 hbk3 hb3))
          refine ret_blk rfl rfl rfl hbk3 aggKd sizeKd ⟨rfl, hbw.trans hb3⟩
        · have d1 : (x.party == p) = true := by simpa using h1
          have d2 : (x.serial == s) = false := by simpa using h2
          have HNn := Lib.hid (HPn.out (fun h => h2 h.2))
          clear HA1 HPn HA h1 h2
          go_wp2_with fail
          exact ⟨⟨k + 1, by omega, by go_num, hbw, hz, HNn⟩, by simp [intOf]; omega⟩
      · have d1 : (x.party == p) = false := by simpa using h1
        have HNn := Lib.hid (HPn.out (fun h => h1 h.1))
        clear HA1 HPn HA h1
        go_wp2_with fail
        exact ⟨⟨k + 1, by omega, by go_num, hbw, hz, HNn⟩, by simp [intOf]; omega⟩
    · obtain rfl : k = n := by omega
      obtain rfl := HN.out (fun x hx => by
        obtain ⟨j, hj, rfl⟩ := List.mem_iff_getElem.1 hx
        exact HP.out j hj (by have := HL.out; omega))
      clear HP HA HN
      go_wp2_with (refine wpList_storeRow6 (k := zeroKey) (e := 5) rfl rfl rfl rfl hz ?_; intro w3 hbk3 hb3)
      refine ret_blk rfl rfl rfl hbk3 aggKd sizeKd ⟨rfl, hbw.trans hb3⟩
end Go.Proofs.YtfnpeclomcnpeaaDoor
