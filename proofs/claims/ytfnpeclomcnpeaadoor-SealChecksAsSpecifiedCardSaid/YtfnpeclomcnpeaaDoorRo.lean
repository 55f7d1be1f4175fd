/-
  Rotate, Revoke in the program. Conditions: a ring of less than 500 keys.
-/
import Derived.Test.YtfnpeclomcnpeaaDoorRv
namespace Go.Proofs.YtfnpeclomcnpeaaDoor
set_option linter.unusedSimpArgs false
set_option linter.unusedVariables false
open Go.RowKit Ring
abbrev bare (p s : Int) : Key := ⟨p, s, ⟨#[]⟩, 0, 0⟩
/-- What Revoke returns. -/
def revR (p s day : Int) (l : List Key) : List Key × Int := match find (bare p s) l with
  | none => ([], 5)
  | some k => if day ≤ k.frm then ([], 9) else (put (ended k day) l, 0)
def nextK (p : Int) (z : Key) (secret : ByteArray) (day : Int) : Key := ⟨p, z.serial + 1, secret, day, 1048577⟩
/-- What Rotate returns. -/
def rotR (p : Int) (secret : ByteArray) (day : Int) (l : List Key) : List Key × Int := match last p l with
  | none => ([], 5)
  | some z => if validB (nextK p z secret day) then (if day ≤ z.frm then ([], 9) else (put (nextK p z secret day) (put (ended z day) l), 0)) else ([], 1)
theorem find_self (z k : Key) : ∀ (l : List Key), Sorted l → find z l = some k → find k l = some k
  | [], _, h => by simp [find] at h
  | x :: l, hs, h => by
    have hs' := List.pairwise_cons.1 hs
    unfold find at h ⊢
    by_cases hx : same x z
    · rw [if_pos hx] at h
      injection h with h
      subst h
      rw [if_pos ⟨rfl, rfl⟩]
    · rw [if_neg hx] at h
      have h1 := find_self z k l hs'.2 h
      have h2 := (find_same k l k h1).2
      have h3 := hs'.1 k h2
      rw [if_neg (fun h4 : same x k => by unfold lt same at *; omega)]
      exact h1
set_option maxRecDepth 20000 in
set_option maxHeartbeats 2000000 in
theorem revoke_any (A : Option Addr) (n c : Nat) (l : List Key) (p s day : Int) (w : World) (hn : n ≤ 1000) (hr : RdK w A n l) (hs : Sorted l) :
    Calls Tryd.prog 30 #[.slice A n c, .int .i64 p, .int .i64 s, .int .i64 day] w (MadeRes w.heap.size (revR p s day l).1 (revR p s day l).2 w) := by
  have HF := Lib.hid (fun W hr => find_any A n c l p s W (by omega) hr hs)
  have HE : Hid (∀ k W, find (bare p s) l = some k → RdK W A n l → Calls Tryd.prog 45 #[.slice A n c, keyV k, .int .i64 day] W fun e w' => ∃ v, e = .returned v ∧ OwnKs w' W.heap.size v (put (ended k day) l) ∧ Below W.heap.size W w') :=
    Lib.hid (fun k W hf hr => end_any A n c l k day W hn hr hs (find_self _ k l hs hf))
  unfold revR
  change Hid (∀ W, RdK W A n l → Calls _ _ _ W fun e w' => e = .returned (.tuple #[keyV (keyO (find (bare p s) l)), .int .i64 (errO (find (bare p s) l) 5)]) ∧ Below W.heap.size W w') at HF
  generalize find (bare p s) l = F at *
  cases F with
  | none =>
    clear HE
    dsimp only
    go_enter Tryd.func30, Tryd.ntmps30
    go_wp2_with fail
    refine (HF.out _ hr).mono ?_
    rintro e w1 ⟨rfl, hb1⟩
    simp only [keyO, errO, Option.getD_none, Option.isSome_none, Bool.false_eq_true, if_false]
    go_wp2_with (first
      | (refine wpList_allocKy rfl rfl ?_; intro w2 g2 hg2 hbk hb2 hlt2; have Hg2 := Lib.hid hg2; clear hg2)
      | (refine wpList_storeKy (k := zeroKey) rfl rfl rfl rfl hbk ?_; intro w3 hbk3 hb3))
    go_ret2
    exact ⟨_, rfl, OwnKs.nil _ _, hb1.trans ((hb2.mono hb1.size).trans (hb3.mono (by have := Hg2.out; have := hb1.size; omega)))⟩
  | some k =>
    dsimp only
    have HE1 := Lib.hid (fun W => HE.out k W rfl)
    clear HE
    generalize put (ended k day) l = O at *
    by_cases hd : day ≤ k.frm
    · have d : decide (day ≤ k.frm) = true := by simpa using hd
      rw [if_pos hd]
      dsimp only
      go_enter Tryd.func30, Tryd.ntmps30
      go_wp2_with fail
      refine (HF.out _ hr).mono ?_
      rintro e w1 ⟨rfl, hb1⟩
      simp only [keyO, errO, Option.getD_some, Option.isSome_some, if_true]
      go_wp2_with (first
        | (refine wpList_allocKy rfl rfl ?_; intro w2 g2 hg2 hbk hb2 hlt2; have Hg2 := Lib.hid hg2; clear hg2)
        | (refine wpList_storeKy (k := k) rfl rfl rfl rfl hbk ?_; intro w3 hbk3 hb3; have q3 := hbk3.cell 3; simp only [List.getElem?_toArray, List.getElem?_cons_zero, List.getElem?_cons_succ] at q3))
      go_ret2
      exact ⟨_, rfl, OwnKs.nil _ _, hb1.trans ((hb2.mono hb1.size).trans (hb3.mono (by have := Hg2.out; have := hb1.size; omega)))⟩
    · have d : decide (day ≤ k.frm) = false := by simpa using hd
      rw [if_neg hd]
      dsimp only
      go_enter Tryd.func30, Tryd.ntmps30
      go_wp2_with fail
      refine (HF.out _ hr).mono ?_
      rintro e w1 ⟨rfl, hb1⟩
      simp only [keyO, errO, Option.getD_some, Option.isSome_some, if_true]
      go_wp2_with (first
        | (refine wpList_allocKy rfl rfl ?_; intro w2 g2 hg2 hbk hb2 hlt2; have Hg2 := Lib.hid hg2; clear hg2)
        | (refine wpList_storeKy (k := k) rfl rfl rfl rfl hbk ?_; intro w3 hbk3 hb3; have q3 := hbk3.cell 3; simp only [List.getElem?_toArray, List.getElem?_cons_zero, List.getElem?_cons_succ] at q3)
        | (refine wpList_loadRow rfl rfl rfl hbk3 aggKy sizeKy ?_))
      have hbA : Below w.heap.size w w3 := hb1.trans ((hb2.mono hb1.size).trans (hb3.mono (by have := Hg2.out; have := hb1.size; omega)))
      refine (HE1.out _ (hr.below hbA)).mono ?_
      rintro e w4 ⟨v, rfl, hown, hb4⟩
      go_wp2_with fail
      go_ret2
      exact ⟨_, rfl, hown.lower hbA.size, bstep hbA hb4⟩
theorem last_at (p : Int) (l : List Key) : last p l = if h : 0 < (of p l).length then some ((of p l)[(of p l).length - 1]) else none := by
  rw [last_eq]
  by_cases h : 0 < (of p l).length
  · rw [dif_pos h, List.getLast?_eq_getElem?, List.getElem?_eq_getElem]
  · rw [dif_neg h]
    have : of p l = [] := List.eq_nil_of_length_eq_zero (by omega)
    rw [this]
    rfl
/-- No key of a party is beyond the last one. -/
theorem next_new (p : Int) (secret : ByteArray) (day : Int) (l : List Key) (hs : Sorted l) (z : Key) (hz : last p l = some z) : find (nextK p z secret day) (put (ended z day) l) = none := by
  obtain ⟨t, ht, hlt, hzp⟩ := last_split hs hz
  apply find_none
  intro x hx hsm
  have hx2 := (put_sorted (ended z day) l hs).2 x hx
  unfold same nextK at hsm
  simp only at hsm
  rcases hx2 with rfl | hx2
  · unfold ended at hsm; simp only at hsm; omega
  · have hxo : x ∈ of p l := List.mem_filter.2 ⟨hx2, by simpa using hsm.1⟩
    rw [ht] at hxo
    rcases List.mem_append.1 hxo with h | h
    · have := hlt x h
      unfold lt at this
      omega
    · simp only [List.mem_singleton] at h
      subst h
      omega
theorem last_found (p : Int) (l : List Key) (hs : Sorted l) (z : Key) (hz : last p l = some z) : find z l = some z := by
  obtain ⟨t, ht, hlt, hzp⟩ := last_split hs hz
  have hzl : z ∈ l := (List.mem_filter.1 (show z ∈ of p l by rw [ht]; simp)).1
  have : ∀ (l : List Key), Sorted l → z ∈ l → find z l = some z := fun l => by
    induction l with
    | nil => intro _ h; simp at h
    | cons x l ih =>
      intro hs h
      have hs' := List.pairwise_cons.1 hs
      unfold find
      rcases List.mem_cons.1 h with rfl | h
      · rw [if_pos ⟨rfl, rfl⟩]
      · have h3 := hs'.1 z h
        rw [if_neg (fun h4 : same x z => by unfold lt same at *; omega)]
        exact ih hs'.2 h
  exact this l hs hzl
set_option maxRecDepth 20000 in
set_option maxHeartbeats 4000000 in
theorem rotate_any (A : Option Addr) (n c : Nat) (l : List Key) (p : Int) (secret : ByteArray) (day : Int) (w : World) (hn : n < 499) (hnc : n ≤ c) (hc : c ≤ maxLen) (hr : RdK w A n l) (hs : Sorted l) (hv : ∀ k ∈ l, validB k = true)
    (hp : (Lit.int .i64 p).wf = true) (hsec : secret.size ≤ maxLen) (hday : (Lit.int .i64 day).wf = true) :
    Calls Tryd.prog 29 #[.slice A n c, .int .i64 p, .string secret, .int .i64 day] w (MadeRes w.heap.size (rotR p secret day l).1 (rotR p secret day l).2 w) := by
  have h1 : ∀ k ∈ l, 0 < k.serial := fun k hk => by have := (validB_iff k).1 (hv k hk); unfold validP at this; omega
  have HQ := Lib.hid (fun W hr => of_any' A n c l p W (by omega) hnc hc hr hs h1)
  have HLO : Hid (0 < (of p l).length → ∃ (h : (of p l).length - 1 < (of p l).length), last p l = some (of p l)[(of p l).length - 1]) := Lib.hid (fun h => ⟨by omega, by rw [last_at, dif_pos h]⟩)
  have HLN : Hid ((of p l).length = 0 → last p l = none) := Lib.hid (fun h => by rw [last_at, dif_neg (by omega)])
  have HZ : Hid (∀ z, last p l = some z → (1 ≤ z.serial ∧ z.serial ≤ 2147483648) ∧ find z l = some z ∧ find (nextK p z secret day) (put (ended z day) l) = none ∧ (put (ended z day) l).length = l.length ∧ Sorted (put (ended z day) l)) := Lib.hid (fun z hz => by
    have hf := last_found p l hs z hz
    have hzl := (find_same z l z hf).2
    have := (validB_iff z).1 (hv z hzl)
    unfold validP at this
    refine ⟨this.2.1, hf, next_new p secret day l hs z hz, ?_, (put_sorted _ l hs).1⟩
    rw [put_found z (ended z day) ⟨rfl, rfl⟩ l z hs hf, List.length_set])
  have HL := Lib.hid hr.len
  have HEnd := Lib.hid (fun z W hr hf => end_any A n c l z day W (by omega) hr hs hf)
  unfold rotR
  generalize of p l = O at *
  generalize last p l = F at *
  by_cases h0 : O.length = 0
  · obtain rfl := HLN.out h0
    clear HLO HZ HEnd
    dsimp only
    go_enter Tryd.func29, Tryd.ntmps29
    go_wp2_with fail
    refine (HQ.out _ hr).mono ?_
    rintro e w1 ⟨⟨A', m, rfl, hmn, hrO⟩, hb1⟩
    have hm0 : m = 0 := by rw [← hrO.len, h0]
    subst hm0
    clear h0
    go_wp2_with fail
    go_ret2
    exact ⟨_, rfl, OwnKs.nil _ _, hb1⟩
  · have h0' : 0 < O.length := by omega
    obtain ⟨hlt, hF⟩ := HLO.out h0'
    obtain ⟨⟨hz1, hz2⟩, hzf, hnew, hlen, hsort⟩ := HZ.out _ hF
    obtain ⟨z, hz⟩ : ∃ z, O[O.length - 1] = z := ⟨_, rfl⟩
    rw [hz] at hz1 hz2 hzf hnew hlen hsort hF
    have HX := Lib.hid hz
    clear hz HZ HLO HLN h0
    subst hF
    dsimp only
    have HE1 := Lib.hid (fun W hr => HEnd.out z W hr hzf)
    have hwk : WfK (nextK p z secret day) := ⟨hp, by unfold nextK; simp [Lit.wf, IntKind.min, IntKind.max, IntKind.bits, IntKind.signed]; omega, hsec, hday, rfl⟩
    have HV := Lib.hid (fun W => valid_any (nextK p z secret day) hwk W)
    have HAdd : Hid (∀ (A : Option Addr) (c : Nat) (W : World), n ≤ c → c ≤ maxLen → RdK W A n (put (ended z day) l) → Calls Tryd.prog 14 #[.slice A n c, keyV (nextK p z secret day)] W (MadeRes W.heap.size (addR (nextK p z secret day) (put (ended z day) l)).1 (addR (nextK p z secret day) (put (ended z day) l)).2 W)) := Lib.hid (fun A c W hnc hc hr => addKey_any A n c _ _ W (by omega) hnc hc hr hsort hwk)
    unfold addR at HAdd
    rw [hnew] at HAdd
    have HPl : Hid ((put (ended z day) l).length = n) := Lib.hid (by rw [hlen, HL.out])
    clear HEnd hzf hnew hlen hsort hwk hp hday
    generalize put (nextK p z secret day) (put (ended z day) l) = O2 at *
    generalize put (ended z day) l = O1 at *
    have HK : Hid (∀ W', Below w.heap.size w W' → True) := Lib.hid (fun _ _ => trivial)
    have hnx : nextK p z secret day = ⟨p, z.serial + 1, secret, day, 1048577⟩ := rfl
    rw [hnx] at HV HAdd ⊢
    cases hvb : validB ⟨p, z.serial + 1, secret, day, 1048577⟩
    · rw [hvb] at HV
      simp only [Bool.false_eq_true, if_false]
      clear HAdd hnx hvb HE1 HK
      go_enter Tryd.func29, Tryd.ntmps29
      go_wp2_with fail
      refine (HQ.out _ hr).mono ?_
      rintro e w1 ⟨⟨A', m, rfl, hmn, hrO⟩, hb1⟩
      obtain rfl : O.length = m := hrO.len
      have hd0 : ((O.length : Int) == 0) = false := by rw [beq_eq_false_iff_ne]; omega
      obtain ⟨ad', rfl, hcz⟩ := (hrO.below hb1).elem hlt
      rw [HX.out] at hcz
      have HCZ := Lib.hid hcz
      clear hcz hrO
      go_upto_region 5 with (first
        | (refine wpList_loadKy (k := z) rfl rfl rfl HCZ.out ?_)
        | (refine wpList_allocKy rfl rfl ?_; intro w2 g2 hg2 hbk2 hb2 hlt2; have Hg2 := Lib.hid hg2; clear hg2)
        | (refine wpList_storeKy (k := z) rfl rfl rfl rfl hbk2 ?_; intro w3 hbk3 hb3; have q31 := hbk3.cell 1; have q33 := hbk3.cell 3; simp only [List.getElem?_toArray, List.getElem?_cons_zero, List.getElem?_cons_succ] at q31 q33))
      have hlt3 := hbk3.lt
      go_wp2_with (first
        | (refine wpList_allocKy rfl rfl ?_; intro w4 g4 hg4 hbk4 hb4 hlt4; have Hg4 := Lib.hid hg4; clear hg4)
        | (refine wpList_storeKy (k := ⟨p, z.serial + 1, secret, day, 1048577⟩) rfl rfl rfl rfl hbk4 ?_; intro w5 hbk5 hb5)
        | (refine wpList_loadRow rfl rfl rfl hbk5 aggKy sizeKy ?_))
      have hbA : Below w.heap.size w w3 := hb1.trans ((hb2.mono hb1.size).trans (hb3.mono (by have := Hg2.out; have := hb1.size; omega)))
      have hbB : Below w3.heap.size w3 w5 := hb4.trans (hb5.mono (by have := Hg4.out; omega))
      have hbC := bstep hbA hbB
      have q2 := hbk3.below hbB
      clear q31 q33 hb1 hb2 hb3 hb4 hb5 hbk2 hbk3 hbk4
      refine (HV.out _).mono ?_
      rintro e w6 ⟨rfl, hb6⟩
      replace q2 := q2.below hb6
      have q4 := hbk5.below hb6
      have hbD := bstep hbC hb6
      have q33 := q2.cell 3
      simp only [List.getElem?_toArray, List.getElem?_cons_zero, List.getElem?_cons_succ] at q33
      clear hb6 hbk5 hbA hbB hbC
      go_wp2_with fail
      go_ret2
      exact ⟨_, rfl, OwnKs.nil _ _, hbD⟩
    · rw [hvb] at HV
      rw [hvb] at HAdd
      simp only [Option.isSome_none, Bool.false_eq_true, if_false, if_true] at HAdd
      simp only [if_true]
      clear hnx hvb HK
      by_cases hd : day ≤ z.frm
      · have d : decide (day ≤ z.frm) = true := by simpa using hd
        rw [if_pos hd]
        clear hd
        dsimp only
        go_enter Tryd.func29, Tryd.ntmps29
        go_wp2_with fail
        refine (HQ.out _ hr).mono ?_
        rintro e w1 ⟨⟨A', m, rfl, hmn, hrO⟩, hb1⟩
        obtain rfl : O.length = m := hrO.len
        have hd0 : ((O.length : Int) == 0) = false := by rw [beq_eq_false_iff_ne]; omega
        obtain ⟨ad', rfl, hcz⟩ := (hrO.below hb1).elem hlt
        rw [HX.out] at hcz
        have HCZ := Lib.hid hcz
        clear hcz hrO
        go_upto_region 5 with (first
          | (refine wpList_loadKy (k := z) rfl rfl rfl HCZ.out ?_)
          | (refine wpList_allocKy rfl rfl ?_; intro w2 g2 hg2 hbk2 hb2 hlt2; have Hg2 := Lib.hid hg2; clear hg2)
          | (refine wpList_storeKy (k := z) rfl rfl rfl rfl hbk2 ?_; intro w3 hbk3 hb3; have q31 := hbk3.cell 1; have q33 := hbk3.cell 3; simp only [List.getElem?_toArray, List.getElem?_cons_zero, List.getElem?_cons_succ] at q31 q33))
        have hlt3 := hbk3.lt
        go_wp2_with (first
          | (refine wpList_allocKy rfl rfl ?_; intro w4 g4 hg4 hbk4 hb4 hlt4; have Hg4 := Lib.hid hg4; clear hg4)
          | (refine wpList_storeKy (k := ⟨p, z.serial + 1, secret, day, 1048577⟩) rfl rfl rfl rfl hbk4 ?_; intro w5 hbk5 hb5)
          | (refine wpList_loadRow rfl rfl rfl hbk5 aggKy sizeKy ?_))
        have hbA : Below w.heap.size w w3 := hb1.trans ((hb2.mono hb1.size).trans (hb3.mono (by have := Hg2.out; have := hb1.size; omega)))
        have hbB : Below w3.heap.size w3 w5 := hb4.trans (hb5.mono (by have := Hg4.out; omega))
        have hbC := bstep hbA hbB
        have q2 := hbk3.below hbB
        clear q31 q33 hb1 hb2 hb3 hb4 hb5 hbk2 hbk3 hbk4
        refine (HV.out _).mono ?_
        rintro e w6 ⟨rfl, hb6⟩
        replace q2 := q2.below hb6
        have q4 := hbk5.below hb6
        have hbD := bstep hbC hb6
        have q33 := q2.cell 3
        simp only [List.getElem?_toArray, List.getElem?_cons_zero, List.getElem?_cons_succ] at q33
        clear hb6 hbk5 hbA hbB hbC
        go_wp2_with fail
        go_ret2
        exact ⟨_, rfl, OwnKs.nil _ _, hbD⟩
      · have d : decide (day ≤ z.frm) = false := by simpa using hd
        rw [if_neg hd]
        clear hd
        dsimp only
        go_enter Tryd.func29, Tryd.ntmps29
        go_wp2_with fail
        refine (HQ.out _ hr).mono ?_
        rintro e w1 ⟨⟨A', m, rfl, hmn, hrO⟩, hb1⟩
        obtain rfl : O.length = m := hrO.len
        have hd0 : ((O.length : Int) == 0) = false := by rw [beq_eq_false_iff_ne]; omega
        obtain ⟨ad', rfl, hcz⟩ := (hrO.below hb1).elem hlt
        rw [HX.out] at hcz
        have HCZ := Lib.hid hcz
        clear hcz hrO
        go_upto_region 5 with (first
          | (refine wpList_loadKy (k := z) rfl rfl rfl HCZ.out ?_)
          | (refine wpList_allocKy rfl rfl ?_; intro w2 g2 hg2 hbk2 hb2 hlt2; have Hg2 := Lib.hid hg2; clear hg2)
          | (refine wpList_storeKy (k := z) rfl rfl rfl rfl hbk2 ?_; intro w3 hbk3 hb3; have q31 := hbk3.cell 1; have q33 := hbk3.cell 3; simp only [List.getElem?_toArray, List.getElem?_cons_zero, List.getElem?_cons_succ] at q31 q33))
        have hlt3 := hbk3.lt
        go_wp2_with (first
          | (refine wpList_allocKy rfl rfl ?_; intro w4 g4 hg4 hbk4 hb4 hlt4; have Hg4 := Lib.hid hg4; clear hg4)
          | (refine wpList_storeKy (k := ⟨p, z.serial + 1, secret, day, 1048577⟩) rfl rfl rfl rfl hbk4 ?_; intro w5 hbk5 hb5)
          | (refine wpList_loadRow rfl rfl rfl hbk5 aggKy sizeKy ?_))
        have hbA : Below w.heap.size w w3 := hb1.trans ((hb2.mono hb1.size).trans (hb3.mono (by have := Hg2.out; have := hb1.size; omega)))
        have hbB : Below w3.heap.size w3 w5 := hb4.trans (hb5.mono (by have := Hg4.out; omega))
        have hbC := bstep hbA hbB
        have q2 := hbk3.below hbB
        clear q31 q33 hb1 hb2 hb3 hb4 hb5 hbk2 hbk3 hbk4
        refine (HV.out _).mono ?_
        rintro e w6 ⟨rfl, hb6⟩
        replace q2 := q2.below hb6
        have q4 := hbk5.below hb6
        have hbD := bstep hbC hb6
        have q33 := q2.cell 3
        simp only [List.getElem?_toArray, List.getElem?_cons_zero, List.getElem?_cons_succ] at q33
        clear hb6 hbk5 hbA hbB hbC
        have HE2 := Lib.hid (fun W hb => HE1.out W (hr.below (bstep hbD hb)))
        go_wp2_with fail
        have hS0 : Below w6.heap.size w6 w6.drew := (Below.refl _ w6).drew
        refine wp_region_T 9 (by kernel_rfl) ?_
        -- region 10: 10 operations, tail from 9
        refine WpT.take (i := 0) rfl (by kernel_rfl) (fun _ _ _ h => h) (.inl ⟨by rfl, fun w hSw => by clear hSw; go_simp; (try go_bits); (try rw [if_pos (by omega)]); (try with_reducible rfl)⟩) ((Below.refl _ _).drew) ?_
        try simp only [Act.put, List.setIfInBounds_toArray, List.set_cons_zero, List.set_cons_succ]
        refine WpT.take (i := 1) rfl (by kernel_rfl) (fun _ _ _ h => h) (yields_blk rfl rfl rfl (by kernel_rfl) (by kernel_rfl) (by assumption)) ((Below.refl _ _).drew) ?_
        try simp only [Act.put, List.setIfInBounds_toArray, List.set_cons_zero, List.set_cons_succ]
        refine WpT.take (i := 2) rfl (by kernel_rfl) (fun _ _ _ h => h) (.inl ⟨by rfl, fun w hSw => by clear hSw; go_simp; (try go_bits); (try rw [if_pos (by omega)]); (try with_reducible rfl)⟩) ((Below.refl _ _).drew) ?_
        try simp only [Act.put, List.setIfInBounds_toArray, List.set_cons_zero, List.set_cons_succ]
        refine WpT.take (i := 4) rfl (by kernel_rfl) (fun _ _ _ h => h) (yields_blk rfl rfl rfl (by kernel_rfl) (by kernel_rfl) (by assumption)) ((Below.refl _ _).drew) ?_
        try simp only [Act.put, List.setIfInBounds_toArray, List.set_cons_zero, List.set_cons_succ]
        refine WpT.one (i := 3) rfl (by kernel_rfl) (fun K hK => ?_)
        go_simp; refine (HE2.out _ hS0).mono ?_; rintro e w7 ⟨v7, rfl, hown7, hb7⟩; have hS7 := bstep hS0 hb7; obtain ⟨A7, c7, rfl, hnc7, hc7, hrd7⟩ := hown7.form
        refine hK _ _ (hS7) ?_; clear hK K; try simp only [Act.put, List.setIfInBounds_toArray, List.set_cons_zero, List.set_cons_succ]
        refine WpT.one (i := 5) rfl (by kernel_rfl) (fun K hK => ?_)
        go_simp; rw [HPl.out] at hrd7 hnc7 ⊢; refine (HAdd.out _ _ _ hnc7 hc7 hrd7).mono ?_; rintro e w8 ⟨v8, rfl, hown8, hb8⟩; have hS8 := bstep hS7 hb8
        refine hK _ _ (hS8) ?_; clear hK K; try simp only [Act.put, List.setIfInBounds_toArray, List.set_cons_zero, List.set_cons_succ]
        refine WpT.take (i := 6) rfl (by kernel_rfl) (fun _ _ _ h => h) (.inl ⟨by rfl, fun w hSw => by clear hSw; go_simp; (try go_bits); (try rw [if_pos (by omega)]); (try with_reducible rfl)⟩) (hS8) ?_
        try simp only [Act.put, List.setIfInBounds_toArray, List.set_cons_zero, List.set_cons_succ]
        refine WpT.take (i := 7) rfl (by kernel_rfl) (fun _ _ _ h => h) (.inl ⟨by rfl, fun w hSw => by clear hSw; go_simp; (try go_bits); (try rw [if_pos (by omega)]); (try with_reducible rfl)⟩) (hS8) ?_
        try simp only [Act.put, List.setIfInBounds_toArray, List.set_cons_zero, List.set_cons_succ]
        refine WpT.one (i := 8) rfl (by kernel_rfl) (fun K hK => ?_)
        go_simp; (try go_bits)
        refine hK _ _ (hS8) ?_; clear hK K; try simp only [Act.put, List.setIfInBounds_toArray, List.set_cons_zero, List.set_cons_succ]
        refine WpT.tail (i := 9) rfl (by kernel_rfl) (by kernel_rfl) (fun K hK => ?_)
        go_simp; (try go_bits)
        refine hK _ _ ?_; clear hK K; try simp only [Act.put, List.setIfInBounds_toArray, List.set_cons_zero, List.set_cons_succ]
        refine WpT.done (by kernel_rfl) ?_ _
        go_wp2_with fail
        go_ret2
        exact ⟨_, rfl, hown8.lower (by have := hbD.size; have := hS7.size; omega), bstep hbD hS8⟩
end Go.Proofs.YtfnpeclomcnpeaaDoor
