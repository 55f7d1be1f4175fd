/-
  These texts, joined.
  The walk of MerklePeaksGrow. Conditions: the tables of constants stand.
  The law MerklePeaksGrow: it returns true for every input, and its arguments read behind the call as before; the row and its tied card. Conditions: the tables start as the program's text lays them.
-/
import Derived.Test.YtgggpnjnhhkmgaaDoorB9
import Derived.Test.YtgggpnjnhhkmgaaDoorB10
namespace Go.Proofs.YtgggpnjnhhkmgaaDoor
set_option linter.unusedSimpArgs false
set_option linter.unusedVariables false
open Go.RowKit Exch Merk Go.Shelf
theorem yields_neqDgF {ops : Array Oper} {S : World → Prop} {o : Oper} {a : Act} {x y : Operand} {p q : Nat} {u : TypeId} (hw : Region.wanted o (yielded ops a.tmps) = true) (ho : o.op = .binOp .neq 31 x y u) (hx : a.eval x = dgV p) (hy : a.eval y = dgV q) (hp : p < 2 ^ 128) (he : p = q)
    (hg : ∀ W, (eqGuard .neq 31 x y (dgV p) (dgV q)).run Tryd.prog W = .ok () W) : YieldsIf Tryd.prog ops S o (.bool false) a := by
  refine .inl ⟨hw, fun w hS => ?_⟩
  have hq : q < 2 ^ 128 := by rw [← he]; exact hp
  have h := neq_Dg hp hq w
  rw [decide_eq_true he] at h
  unfold execOp
  simp only [ho, hx, hy, Sem.run_bind, hg, h, Result.andThen_ok, Sem.run_pure, Bool.not_true]
theorem ones_le (k : Nat) : ∀ n, n ≤ k → Merk.ones n ≤ n := by
  induction k with
  | zero => intro n h; obtain rfl : n = 0 := by omega
            rw [Merk.ones, if_pos rfl]; exact Nat.le_refl _
  | succ k ih =>
    intro n h
    rw [Merk.ones]
    split
    · omega
    · have := ih (n / 2) (by omega); omega
theorem peaks_form (nd : Nat → Nat → Nat) (em : Nat) (l : List Nat) (h : l.length ≤ 40) : (peaks nd em l).length ≤ 40 ∧ formedB (l.length : Int) (peaks nd em l).length = true := by
  have h1 := peaks_len nd em l.length l (Nat.le_refl _)
  have h2 := ones_le l.length l.length (Nat.le_refl _)
  refine ⟨by omega, ?_⟩
  unfold formedB
  simp only [Bool.and_eq_true, decide_eq_true_eq]
  exact ⟨by omega, by omega, by rw [h1]; rfl⟩
theorem top_peaks (nd : Nat → Nat → Nat) (em : Nat) (l : List Nat) (h : l.length ≤ 40) : topR nd em (l.length : Int) (peaks nd em l) = (Merk.root nd em l, 0) := by
  unfold topR
  rw [if_pos (peaks_form nd em l h).2, peaks_root nd em l.length l (Nat.le_refl _)]
theorem append_peaks (nd : Nat → Nat → Nat) (em : Nat) (l : List Nat) (x : Nat) (h : l.length ≤ 40) : appendR nd (l.length : Int) (peaks nd em l) x = (((l.length + 1 : Nat) : Int), peaks nd em (l ++ [x]), (0 : Int)) := by
  unfold appendR
  rw [if_pos (peaks_form nd em l h).2, if_neg (by omega), peaks_grow nd em l.length l x (Nat.le_refl _)]
  rfl
theorem peaks_lt {nd : Nat → Nat → Nat} {em : Nat} (N : Nds nd em) : ∀ (k : Nat) (l : List Nat), l.length ≤ k → (∀ x ∈ l, x < 2 ^ 128) → ∀ x ∈ peaks nd em l, x < 2 ^ 128
  | 0, l, h, _ => by obtain rfl := List.eq_nil_of_length_eq_zero (Nat.le_zero.1 h); rw [peaks_nil]; intro x hx; simp at hx
  | k + 1, l, h, hl => by
    by_cases h0 : l = []
    · subst h0; rw [peaks_nil]; intro x hx; simp at hx
    · rw [peaks_cons nd em h0]
      have hb := big_pos l.length
      have hp := pos_len h0
      intro x hx
      rcases List.mem_cons.1 hx with rfl | hx
      · exact root_lt N _ _ (Nat.le_refl _) (fun y hy => hl y (List.mem_of_mem_take hy))
      · exact peaks_lt N k _ (by rw [List.length_drop]; omega) (fun y hy => hl y (List.mem_of_mem_drop hy)) x hx
theorem own_gt {w : World} {g B : Nat} {c : Nat} {l : List Nat} (h : OwnDs w B (.slice (some ⟨g, 0, none⟩) 0 c) l) : B < w.heap.size := by
  have := World.ownsRow.lt h g rfl; omega
set_option maxRecDepth 100000 in
set_option maxHeartbeats 8000000 in
theorem walkMerklePeaksGrow (A : Option Addr) (n c : Nat) (l : List Nat) (w : World) (hnc : n ≤ c) (hcm : c ≤ maxLen) (hr : RdD w A n l) (hl : ∀ x ∈ l, x < 2 ^ 128) (hg : GCon w) (hrc : RCon w) (hgb : GBru w) :
    Calls Tryd.prog 8 #[.slice A n c] w fun e w' => e = .returned (.bool true) ∧ Below w.heap.size w w' := by
  have HS := Lib.hid (fun (W : World) (h : Below w.heap.size w W) => sanity_any nds W (hg.below h) (hrc.below h) (hgb.below h))
  rcases Nat.lt_or_ge 40 n with hn | hn
  · have d1 : decide ((n : Int) > 40) = true := by simp; omega
    clear hr hl hg hrc hgb
    go_enter Tryd.func8, Tryd.ntmps8
    go_wp2_with fail
    refine (HS.out _ (Below.refl _ _)).mono ?_
    rintro e w1 ⟨rfl, hb1⟩
    go_wp2_with fail
    go_ret
    exact ⟨rfl, hb1⟩
  have d1 : decide ((n : Int) > 40) = false := by simp; omega
  obtain ⟨nd, em, N⟩ : ∃ nd em, Nds nd em := ⟨_, _, nds⟩
  have hln := hr.len
  have HLN := Lib.hid hln
  have HTL : Hid (∀ k, k ≤ n → (l.take k).length = k) := Lib.hid (fun k hk => by rw [List.length_take]; omega)
  have HTP := Lib.hid (fun (k : Nat) (hk : k ≤ n) (B : Option Addr) (m cc : Nat) (W : World) (h : RdD W B m (peaks nd em (l.take k))) (h1 : m ≤ cc) (h2 : cc ≤ maxLen) (hb : Below w.heap.size w W) => by
    have e := HTL.out k hk
    have hf := peaks_form nd em (l.take k) (by omega)
    have hx := top_any N (k : Int) B m cc (peaks nd em (l.take k)) W (by have := h.len; omega) h h1 h2 (hg.below hb)
    have ht := top_peaks nd em (l.take k) (by omega)
    rw [e] at ht
    rw [ht] at hx
    exact hx)
  have HAP := Lib.hid (fun (k : Nat) (hk : k < l.length) (B : Option Addr) (m cc : Nat) (W : World) (h : RdD W B m (peaks nd em (l.take k))) (h1 : m ≤ cc) (h2 : cc ≤ maxLen) (hb : Below w.heap.size w W) => by
    have e := HTL.out k (by omega)
    have hf := peaks_form nd em (l.take k) (by omega)
    have hx := append_any N (k : Int) l[k] B m cc (peaks nd em (l.take k)) W (by have := h.len; omega) h h1 h2 (hg.below hb) (hgb.below hb)
    have ht := append_peaks nd em (l.take k) l[k] (by omega)
    rw [e, List.take_append_getElem hk] at ht
    rw [ht] at hx
    exact hx)
  have HRT := Lib.hid (fun (k : Nat) (hk : k ≤ n) (W : World) (hb : Below w.heap.size w W) => root_any N k (l.take k) A k c W (Nat.le_refl _) (by omega) ((hr.below hb).take hk) (by omega) hcm (hg.below hb))
  have HRL := Lib.hid (fun (k : Nat) => root_lt N _ (l.take k) (Nat.le_refl _) (fun x hx => hl x (List.mem_of_mem_take hx)))
  have HPL : Hid (∀ k, ∀ x ∈ peaks nd em (l.take k), x < 2 ^ 128) := Lib.hid (fun k => peaks_lt N _ _ (Nat.le_refl _) (fun x hx => hl x (List.mem_of_mem_take hx)))
  have HPN : Hid (∀ k, k ≤ n → (peaks nd em (l.take k)).length ≤ 40) := Lib.hid (fun k hk => (peaks_form nd em (l.take k) (by have := HTL.out k hk; omega)).1)
  have HR := Lib.hid (fun (W : World) (h : Below w.heap.size w W) => hr.below h)
  have HP0 : Hid (peaks nd em (l.take 0) = []) := Lib.hid (by rw [List.take_zero, peaks_nil])
  clear hr hl hg hrc hgb hln N
  generalize hTP : (fun k => peaks nd em (l.take k)) = TP
  have eTP : ∀ k, peaks nd em (l.take k) = TP k := fun k => by rw [← hTP]
  generalize hRT : (fun k => Merk.root nd em (l.take k)) = RT
  have eRT : ∀ k, Merk.root nd em (l.take k) = RT k := fun k => by rw [← hRT]
  simp only [eTP, eRT] at HTP HAP HRT HRL HPL HPN HP0
  clear hTP eTP hRT eRT
  go_enter Tryd.func8, Tryd.ntmps8
  go_wp2_with ((with_reducible show wpList _ _ _ (⟨some 3, _, _, _, _, _⟩ :: _) _ _); refine wpList_new (cs := pkC 0 none 0 0) rfl rfl zeroPk ?_; intro wL g3 hg3 b3 hb3 lt3; have hgk : w.heap.size ≤ g3 := (by omega); clear hg3 lt3)
  go_loopw [4] (fun v4 wr => ∃ (k m cc : Nat) (B : Option Addr), v4 = .int .i64 k ∧ k ≤ n ∧ Blk wr g3 51 (pkC (k : Int) B m cc) ∧ OwnDs wr (g3 + 1) (.slice B m cc) (TP k) ∧ Below w.heap.size w wr) (fun v4 _ => n - (intOf v4).toNat)
  case atStart => exact ⟨0, 0, 0, none, rfl, Nat.zero_le _, b3, by rw [HP0.out]; exact OwnDs.nil _ _, hb3⟩
  case round =>
    clear b3 hb3
    obtain ⟨k, m, cc, B, rfl, hk, b3, o3, hbl⟩ := hrel
    have dj : decide ((k : Int) ≤ n) = true := by rw [decide_eq_true_eq]; omega
    have lrt := HRL.out k
    have ltp := HPL.out k
    have hkc : 0 ≤ (k : Int) ∧ (k : Int) ≤ (c : Int) := by omega
    obtain ⟨B0, cc0, e1, h10, h20, r0⟩ := o3.form
    injection e1 with e1 e2 e3
    subst e1; subst e3
    rw [← e2] at r0 h10
    have HE2 := Lib.hid e2
    clear e2
    go_wp2_with ((with_reducible show wpList _ _ _ (⟨some 21, _, _, _, _, _⟩ :: _) _ _); refine wpList_loadRowW (by rfl) rfl rfl b3 aggPk (by rw [sizePk]; rfl) ?_)
    refine (HTP.out k hk B m cc _ r0 h10 h20 hbl).mono ?_
    rintro e w1 ⟨rfl, hb1⟩
    replace b3 := b3.below hb1
    replace o3 := o3.below hb1
    replace r0 := r0.below hb1
    replace hbl := bstep hbl hb1
    clear hb1
    go_wp2_with ((with_reducible show wpList _ _ _ (⟨some 5, _, _, _, _, _⟩ :: _) _ _); refine wpList_newDg (n := RT k) rfl rfl rfl rfl (fun _ => rfl) (fun _ => rfl) ?_; intro w2 g5 hg5 b5 hb2; replace b3 := b3.below hb2; replace o3 := o3.below hb2; replace r0 := r0.below hb2; replace hbl := bstep hbl hb2; clear hb2 hg5)
    have c0 := b3.cell 0
    simp only [List.getElem?_toArray, List.getElem?_cons_zero, List.getElem?_cons_succ] at c0
    have hS : Below w2.heap.size w2 w2.drew := (Below.refl _ _).drew
    have HRK := Lib.hid (fun W h => HRT.out k hk W h)
    generalize RT k = RK at *
    refine wp_region_TB (S := Below (w2).heap.size (w2)) 16 (by kernel_rfl) ?_
    refine WpT.take (i := 0) rfl (by kernel_rfl) (fun _ _ _ h => h) (.inl ⟨by rfl, fun w hSw => by clear hSw; go_simp; (try go_bits); (try rw [if_pos (by omega)]); (try with_reducible rfl)⟩) (hS) ?_
    try simp only [nrm]
    refine WpT.take (i := 1) rfl (by kernel_rfl) (fun _ _ _ h => h) (.inl ⟨by rfl, fun w hSw => by clear hSw; go_simp; (try go_bits); (try rw [if_pos (by omega)]); (try with_reducible rfl)⟩) (hS) ?_
    try simp only [nrm]
    refine WpT.take (i := 2) rfl (by kernel_rfl) (fun _ _ _ h => h) (.inl ⟨by rfl, fun w hSw => by clear hSw; go_simp; (try go_bits); (try rw [if_pos (by omega)]); (try with_reducible rfl)⟩) (hS) ?_
    try simp only [nrm]
    refine WpT.take (i := 3) rfl (by kernel_rfl) (fun _ _ _ h => h) (yields_blkW (by rfl) rfl rfl aggDg (by rw [sizeDg, dgC_size]) b5) (hS) ?_
    try simp only [nrm]
    refine WpT.take (i := 4) rfl (by kernel_rfl) (fun _ _ _ h => h) (.inl ⟨by rfl, fun w hSw => by clear hSw; go_simp; (try go_bits); (try rw [if_pos (by omega)]); (try with_reducible rfl)⟩) (hS) ?_
    try simp only [nrm]
    refine WpT.take (i := 5) rfl (by kernel_rfl) (fun _ _ _ h => h) (.inl ⟨by rfl, fun w hSw => by clear hSw; go_simp; (try go_bits); (try rw [if_pos (by omega)]); (try with_reducible rfl)⟩) (hS) ?_
    try simp only [nrm]
    refine WpT.take (i := 6) rfl (by kernel_rfl) (fun _ _ _ h => h) (.inl ⟨by rfl, fun w hSw => by clear hSw; go_simp; (try go_bits); (try rw [if_pos (by omega)]); (try with_reducible rfl)⟩) (hS) ?_
    try simp only [nrm]
    refine WpT.one (i := 7) rfl (by kernel_rfl) (fun K hK => ?_)
    refine (if_pos (by rfl)).mpr ?_; go_simp; refine (HRK.out _ (bstep hbl hS)).mono ?_; unfold DgIs; rintro e w3 ⟨rfl, hb3⟩; replace hS := bstep hS hb3
    refine hK _ _ (hS) ?_; clear hK K; try simp only [nrm]
    refine WpT.take (i := 8) rfl (by kernel_rfl) (fun _ _ _ h => h) (yields_neqDgF (p := RK) (q := RK) (by rfl) rfl (by rfl) (by rfl) lrt rfl (fun W => by rfl)) (hS) ?_
    try simp only [nrm]
    refine WpT.take (i := 9) rfl (by kernel_rfl) (fun _ _ _ h => h) (.inl ⟨by rfl, fun w hSw => by clear hSw; go_simp; (try go_bits); (try rw [if_pos (by omega)]); (try with_reducible rfl)⟩) (hS) ?_
    try simp only [nrm]
    refine WpT.take (i := 10) rfl (by kernel_rfl) (fun _ _ _ h => h) (.inl ⟨by rfl, fun w hSw => by clear hSw; go_simp; (try go_bits); (try rw [if_pos (by omega)]); (try with_reducible rfl)⟩) (hS) ?_
    try simp only [nrm]
    refine WpT.take (i := 11) rfl (by kernel_rfl) (fun _ _ _ h => h) (.inl ⟨by rfl, fun w hSw => by clear hSw; go_simp; (try go_bits); (try rw [if_pos (by omega)]); (try with_reducible rfl)⟩) (hS) ?_
    try simp only [nrm]
    refine WpT.take (i := 12) rfl (by kernel_rfl) (fun _ _ _ h => h) (yields_loadW (by rfl) rfl rfl (by kernel_rfl) c0) (hS) ?_
    try simp only [nrm]
    refine WpT.take (i := 13) rfl (by kernel_rfl) (fun _ _ _ h => h) (.inl ⟨by rfl, fun w hSw => by clear hSw; go_simp; (try go_bits); (try rw [if_pos (by omega)]); (try with_reducible rfl)⟩) (hS) ?_
    try simp only [nrm]
    refine WpT.take (i := 14) rfl (by kernel_rfl) (fun _ _ _ h => h) (.inl ⟨by rfl, fun w hSw => by clear hSw; go_simp; (try go_bits); (try rw [if_pos (by omega)]); (try with_reducible rfl)⟩) (hS) ?_
    try simp only [nrm]
    refine WpT.take (i := 15) rfl (by kernel_rfl) (fun _ _ _ h => h) (.inl ⟨by rfl, fun w hSw => by clear hSw; go_simp; (try go_bits); (try rw [if_pos (by omega)]); (try with_reducible rfl)⟩) (hS) ?_
    try simp only [nrm]
    refine WpT.done (by kernel_rfl) ?_ _
    skip
    replace b3 := b3.below hS
    replace o3 := o3.below hS
    replace r0 := r0.below hS
    replace hbl := bstep hbl hS
    clear hS hb3 b5 HRK c0 lrt
    by_cases hkn : k = n
    · have dk : ((k : Int) == (n : Int)) = true := by simp [hkn]
      clear hkn
      go_wp2_with fail
      refine (HS.out _ hbl).mono ?_
      rintro e w4 ⟨rfl, hb4⟩
      go_wp2_with fail
      go_ret
      exact ⟨rfl, bstep hbl hb4⟩
    · have dk : ((k : Int) == (n : Int)) = false := by simp; omega
      have hkl : k < n := by omega
      have hix : 0 ≤ (k : Int) ∧ (k : Int) < (n : Int) := by omega
      have hm40 := HPN.out k hk
      rw [← HE2.out] at hm40
      have c1 := b3.cell 1
      simp only [List.getElem?_toArray, List.getElem?_cons_zero, List.getElem?_cons_succ] at c1
      clear hkn
      have HB3 := Lib.hid (fun W (h : Below w3.heap.size w3 W) => b3.below h)
      have HO3 := Lib.hid (fun W (h : Below w3.heap.size w3 W) => o3.below h)
      have HR0 := Lib.hid (fun W (h : Below w3.heap.size w3 W) => r0.below h)
      have HBL := Lib.hid (fun W (h : Below w3.heap.size w3 W) => bstep hbl h)
      clear o3 hbl
      go_upto_region 12 with (first
        | ((with_reducible show wpList _ _ _ (⟨some 45, _, _, _, _, _⟩ :: _) _ _); refine wpList_plain rfl fun K hK => wp_lit0D rfl fun wx gx hgx ownx hbx ltx => hK _ _ ?_; clear hgx hK ltx; replace b3 := b3.below hbx; replace r0 := r0.below hbx; clear c1; have c1 := b3.cell 1; simp only [List.getElem?_toArray, List.getElem?_cons_zero, List.getElem?_cons_succ] at c1)
        | ((with_reducible show wpList _ _ _ (⟨some 48, _, _, _, _, _⟩ :: _) _ _); refine wpList_appK rfl rfl elemDg rfl (n := ([] : List Nat).length) (xs := dgsL []) ownx rfl r0.rd (one_dgsL _) (by simp only [List.length_nil]; omega) (Nat.le_of_lt (own_gt ownx)) ?_; intro v7 w7 own7 _ hb7; replace hbx := hbx.trans hb7; clear hb7 b3 r0 ownx c1))
      have b3 := HB3.out _ hbx
      have o3 := HO3.out _ hbx
      have r0 := HR0.out _ hbx
      have hbl := HBL.out _ hbx
      have own7' : OwnDs w7 w3.heap.size v7 (TP k) := by
        have h := OwnDs.app (a := []) (b := TP k) (by rw [← HE2.out]; exact own7)
        simpa using h
      obtain ⟨A7, c7, rfl, -, -, r7⟩ := own7'.form' (n := m) HE2.out.symm
      clear own7 own7' HB3 HO3 HR0 HBL hbx
      obtain ⟨ad, hA, hce⟩ := (HR.out _ hbl).elem (i := k) (by rw [HLN.out]; exact hkl)
      have HAK := Lib.hid (fun (W : World) (h : Below w7.heap.size w7 W) => HAP.out k (by rw [HLN.out]; exact hkl) B m cc W (r0.below h) h10 h20 (bstep hbl h))
      generalize l[k]'(by rw [HLN.out]; exact hkl) = x at *
      subst hA
      have hltr : g3 < w7.heap.size := b3.lt
      try simp only [nrm]
      go_cut [8, 9] (fun v8 v9 wx => ∃ (g8 m' c' : Nat) (B' : Option Addr), v8 = .pointer (some ⟨g8, 0, none⟩) ∧ v9 = .int .i64 0 ∧ Blk wx g8 51 (pkC ((k + 1 : Nat) : Int) B' m' c') ∧ OwnDs wx (g3 + 1) (.slice B' m' c') (TP (k + 1)) ∧ Below w7.heap.size w7 wx ∧ w7.heap.size ≤ g8)
      case first =>
        clear r0 r7 o3 hbl
        have hS : Below w7.heap.size w7 w7.drew := (Below.refl _ _).drew
        refine wp_region_TB (S := Below (w7).heap.size (w7)) 11 (by kernel_rfl) ?_
        refine WpT.take (i := 0) rfl (by kernel_rfl) (fun _ _ _ h => h) (yields_blk rfl rfl rfl aggPk (by rw [sizePk]; rfl) b3) (hS) ?_
        try simp only [nrm]
        refine WpT.take (i := 1) rfl (by kernel_rfl) (fun _ _ _ h => h) (.inl ⟨by rfl, fun w hSw => by clear hSw; go_simp; (try go_bits); (try rw [if_pos (by omega)]); (try with_reducible rfl)⟩) (hS) ?_
        try simp only [nrm]
        refine WpT.take (i := 2) rfl (by kernel_rfl) (fun _ _ _ h => h) (.inl ⟨by rfl, fun w hSw => by clear hSw; go_simp; (try go_bits); (try rw [if_pos (by omega)]); (try with_reducible rfl)⟩) (hS) ?_
        try simp only [nrm]
        refine WpT.take (i := 3) rfl (by kernel_rfl) (fun _ _ _ h => h) (.inl ⟨by rfl, fun w hSw => by clear hSw; go_simp; (try go_bits); (try rw [if_pos (by omega)]); (try with_reducible rfl)⟩) (hS) ?_
        try simp only [nrm]
        refine WpT.take (i := 4) rfl (by kernel_rfl) (fun _ _ _ h => h) (yields_loadK (us := bv (dg x)) rfl rfl rfl aggDg (by rw [sizeDg, bv_dg_len]) hce) (hS) ?_
        try simp only [nrm]
        refine WpT.fork (i := 5) (j := 9) rfl rfl (by kernel_rfl) (fun K hK => ?_) (fun K hK => ?_)
        · go_simp; refine (HAK.out _ hS).mono ?_; unfold ApIs; rintro e w5 ⟨A5, n5, c5, rfl, o5, hb5⟩; (try have hne5 : (Value.slice A5 n5 c5).ownBlock ≠ some gN := fun e => by have h := (World.ownsRow.lt o5 _ e).1; omega); (try replace qN := qN.below hb5); have o5' := o5.lower hS.size; replace hS := bstep hS hb5
          refine hK _ _ (hS) ?_; clear hK K; try simp only [nrm]
          refine WpT.take (i := 6) rfl (by kernel_rfl) (fun _ _ _ h => h) (.inl ⟨by rfl, fun w hSw => by clear hSw; go_simp; (try go_bits); (try rw [if_pos (by omega)]); (try with_reducible rfl)⟩) (hS) ?_
          try simp only [nrm]
          refine WpT.take (i := 7) rfl (by kernel_rfl) (fun _ _ _ h => h) (.inl ⟨by rfl, fun w hSw => by clear hSw; go_simp; (try go_bits); (try rw [if_pos (by omega)]); (try with_reducible rfl)⟩) (hS) ?_
          try simp only [nrm]
          refine WpT.take (i := 8) rfl (by kernel_rfl) (fun _ _ _ h => h) (.inl ⟨by rfl, fun w hSw => by clear hSw; go_simp; (try go_bits); (try rw [if_pos (by omega)]); (try with_reducible rfl)⟩) (hS) ?_
          try simp only [nrm]
          refine WpT.one (i := 9) rfl (by kernel_rfl) (fun K hK => ?_)
          refine wp_new rfl zeroPk ?_; intro wN gN hgN qN hbN ltN; have hgeN : w7.heap.size ≤ gN := (by rw [hgN]; exact hS.size); (try have hne5 : (Value.slice A5 n5 c5).ownBlock ≠ some gN := fun e => by have h := (World.ownsRow.lt o5 _ e).2; omega); clear hgN; (try replace o5' := o5'.below hbN); replace hS := bstep hS hbN
          refine hK _ _ (hS) ?_; clear hK K; try simp only [nrm]
          refine WpT.one (i := 10) rfl (by kernel_rfl) (fun K hK => ?_)
          refine wp_put (vs := pkC ((k + 1 : Nat) : Int) A5 n5 c5) rfl (by rfl) (by rfl) qN rfl (by rw [sizePk]; rfl) (one_pkC _ _ _ _) ?_; intro w9 ht9 b9; replace hS := hS.trans (ht9.below _ hgeN)
          refine hK _ _ (hS) ?_; clear hK K; try simp only [nrm]
          refine WpT.tail (i := 11) rfl (by kernel_rfl) (by kernel_rfl) (fun K hK => ?_)
          go_simp; (try go_bits)
          refine hK _ _ ?_; clear hK K; try simp only [nrm]
          refine WpT.done (by kernel_rfl) ?_ _
          go_wp2_with fail; go_meet; exact ⟨gN, n5, c5, A5, rfl, rfl, b9, OwnDs.lower (ht9.own o5' hne5) (by omega), hS, hgeN⟩
        · refine wp_new rfl zeroPk ?_; intro wN gN hgN qN hbN ltN; have hgeN : w7.heap.size ≤ gN := (by rw [hgN]; exact hS.size); (try have hne5 : (Value.slice A5 n5 c5).ownBlock ≠ some gN := fun e => by have h := (World.ownsRow.lt o5 _ e).2; omega); clear hgN; (try replace o5' := o5'.below hbN); replace hS := bstep hS hbN
          refine hK _ _ (hS) ?_; clear hK K; try simp only [nrm]
          refine WpT.one (i := 5) rfl (by kernel_rfl) (fun K hK => ?_)
          go_simp; refine (HAK.out _ hS).mono ?_; unfold ApIs; rintro e w5 ⟨A5, n5, c5, rfl, o5, hb5⟩; (try have hne5 : (Value.slice A5 n5 c5).ownBlock ≠ some gN := fun e => by have h := (World.ownsRow.lt o5 _ e).1; omega); (try replace qN := qN.below hb5); have o5' := o5.lower hS.size; replace hS := bstep hS hb5
          refine hK _ _ (hS) ?_; clear hK K; try simp only [nrm]
          refine WpT.take (i := 6) rfl (by kernel_rfl) (fun _ _ _ h => h) (.inl ⟨by rfl, fun w hSw => by clear hSw; go_simp; (try go_bits); (try rw [if_pos (by omega)]); (try with_reducible rfl)⟩) (hS) ?_
          try simp only [nrm]
          refine WpT.take (i := 7) rfl (by kernel_rfl) (fun _ _ _ h => h) (.inl ⟨by rfl, fun w hSw => by clear hSw; go_simp; (try go_bits); (try rw [if_pos (by omega)]); (try with_reducible rfl)⟩) (hS) ?_
          try simp only [nrm]
          refine WpT.take (i := 8) rfl (by kernel_rfl) (fun _ _ _ h => h) (.inl ⟨by rfl, fun w hSw => by clear hSw; go_simp; (try go_bits); (try rw [if_pos (by omega)]); (try with_reducible rfl)⟩) (hS) ?_
          try simp only [nrm]
          refine WpT.one (i := 10) rfl (by kernel_rfl) (fun K hK => ?_)
          refine wp_put (vs := pkC ((k + 1 : Nat) : Int) A5 n5 c5) rfl (by rfl) (by rfl) qN rfl (by rw [sizePk]; rfl) (one_pkC _ _ _ _) ?_; intro w9 ht9 b9; replace hS := hS.trans (ht9.below _ hgeN)
          refine hK _ _ (hS) ?_; clear hK K; try simp only [nrm]
          refine WpT.tail (i := 11) rfl (by kernel_rfl) (by kernel_rfl) (fun K hK => ?_)
          go_simp; (try go_bits)
          refine hK _ _ ?_; clear hK K; try simp only [nrm]
          refine WpT.done (by kernel_rfl) ?_ _
          go_wp2_with fail; go_meet; exact ⟨gN, n5, c5, A5, rfl, rfl, b9, OwnDs.lower (ht9.own o5' hne5) (by omega), hS, hgeN⟩
      case rest =>
        obtain ⟨g8, m', c', B', rfl, rfl, b8, o8, hbx, hge⟩ := hcut
        replace b3 := b3.below hbx
        replace r0 := r0.below hbx
        replace r7 := r7.below hbx
        replace hbl := bstep hbl hbx
        have c1 := b3.cell 1
        simp only [List.getElem?_toArray, List.getElem?_cons_zero, List.getElem?_cons_succ] at c1
        clear hbx o3 HAK hce
        go_wp2_with fail
        refine (same_true r0 r7 (by omega) ltp).mono ?_
        rintro e wy ⟨rfl, hby⟩
        replace b3 := b3.below hby
        replace b8 := b8.below hby
        replace o8 := o8.below hby
        replace hbl := bstep hbl hby
        have c0 := b3.cell 0
        simp only [List.getElem?_toArray, List.getElem?_cons_zero, List.getElem?_cons_succ] at c0
        clear hby r0 r7 c1
        go_wp2_with (first
          | ((with_reducible show wpList _ _ _ (⟨some 73, _, _, _, _, _⟩ :: _) _ _); refine wpList_loadRowW (by rfl) rfl rfl b8 aggPk (by rw [sizePk]; rfl) ?_)
          | ((with_reducible show wpList _ _ _ (⟨none, _, _, _, _, _⟩ :: _) _ _); refine wpList_put (vs := pkC ((k + 1 : Nat) : Int) B' m' c') rfl rfl rfl rfl b3 rfl (by rw [sizePk]; rfl) (one_pkC _ _ _ _) ?_; intro w9 ht9 b9; clear c0))
        have hne : (Value.slice B' m' c').ownBlock ≠ some g3 := fun e => by have h := (World.ownsRow.lt o8 _ e).1; omega
        exact ⟨⟨k + 1, m', c', B', by go_num, by omega, b9, ht9.own o8 hne, hbl.trans (ht9.below _ hgk)⟩, by simp [intOf]; omega⟩
end Go.Proofs.YtgggpnjnhhkmgaaDoor
namespace Go.Proofs.YtgggpnjnhhkmgaaDoor.merklePeaksGrow
set_option linter.unusedSimpArgs false
set_option linter.unusedVariables false
open Go.ChangeShapes Go.WideShapes Go.ChangeAt Go.RowKit Go.Proofs.YtgggpnjnhhkmgaaDoor
open Go.ChangeMaps (open_string shut_string)

set_option maxRecDepth 20000 in
set_option maxHeartbeats 1000000 in
theorem contract (H : Type) (enc : TypeId × Value → H) (W : World) (base : Nat) (args : Array Value) (ds gs : List (DataW H)) (before : List MemPlace)
    (hval : ∀ (j : Nat) t v, Tryd.f8.params[j]? = some t → args[j]? = some v → Value.okWide Tryd.prog W .any base t v)
    (hW : DataW.Whole enc Tryd.prog Tryd.f8.params.toList Rows.merklePeaksGrowSpec.vars false W args.toList ds gs before) (hL : laidMetH Tryd.prog Rows.merklePeaksGrowRow.laid W) :
    Calls Tryd.prog 8 args W fun e W' => ∃ v, e = .returned v ∧ Rows.merklePeaksGrowSpec.post enc Tryd.prog Tryd.f8 false true false false W args v W' := by
  have hW' := hW
  have hRef : RCon W := rcon_of hL
  have hBru : GBru W := bru_of hL.tail.tail
  have hCon : GCon W := con_of hL.tail.tail.tail
  obtain ⟨p, q, hA0, hV, rfl, hfz, hnd⟩ := hW
  have hA : DataW.TrodAll enc Tryd.prog W 0 (fun _ => true) true Tryd.f8.params.toList args.toList ds p := hA0
  rw [Tryd.params8] at hA hval
  obtain ⟨v0, vs0, d0, ds0, p0, q0, hargs, rfl, rfl, h0, r0⟩ := trodAll_cons hA
  obtain ⟨rfl, rfl, rfl⟩ := trodAll_nil r0
  obtain rfl : args = #[v0] := by cases args; simp_all
  obtain ⟨rfl, rfl⟩ := trodVars_none hV
  have k0 := h0
  have lt0 : ∀ x ∈ p0, x.block < W.heap.size := by obtain ⟨m, hm⟩ := k0; exact DataW.trod_lt m _ _ _ hm
  obtain ⟨A0, n0, c0, l0, rfl, x0, y0, z0, f0⟩ := open_digests (hval 0 22 v0 rfl rfl) h0
  clear hA0
  refine (walkMerklePeaksGrow A0 n0 c0 l0 W x0 y0 z0 f0 hCon hRef hBru).mono fun e W' ⟨he, bel⟩ => ?_
  subst he
  exact ⟨_, rfl, _, _, _, [], _, [], hW', trodAll_mk1 (shut_bool (by kernel_rfl) _), (trodAll_cons_mk (Below.trod laidOut (by kernel_rfl) (of_decide_eq_true (by kernel_rfl)) k0 bel lt0) trodAll_mk0), rfl, bel.frame _, fun h => by cases h⟩

theorem laid_met (os : Os) : laidMet Tryd.prog Rows.merklePeaksGrowRow.laid ((laidWorldR os).forCall (fun _ _ => 0) ⟨#[], #[.slice none 0 0], []⟩).memory :=
  laidMet_of_run' 8 (by kernel_rfl) (by kernel_rfl)
theorem reads (os : Os) {H : Type} (enc : TypeId × Value → H) : ∃ places, DataW.whole enc Tryd.prog ((laidWorldR os).forCall (fun _ _ => 0) ⟨#[], #[.slice none 0 0], []⟩).memory Tryd.f8.params.toList Rows.merklePeaksGrowSpec.vars false (#[.slice none 0 0] : Array Value).toList 8 = some ([.nil], [], places) :=
  ⟨[], by kernel_rfl⟩
set_option maxRecDepth 100000 in
theorem lifted (os : Os) (started : os.Started) (H : Type) (enc : TypeId × Value → H) (F : Stop.Interp) :
    ReturnsInHanded {} Tryd.checked os 8 .any ((OpenSpec.ofChange Rows.merklePeaksGrowSpec).preRow enc Tryd.prog Tryd.f8 Rows.merklePeaksGrowRow.domain false Rows.merklePeaksGrowRow.laid) (((OpenSpec.ofChange Rows.merklePeaksGrowSpec).at F).post enc Tryd.prog Tryd.f8 false true false false) := by
  obtain ⟨places, hx⟩ := reads os enc
  refine returnsInHanded_of_row (C := Tryd.checked) (s := OpenSpec.ofChange Rows.merklePeaksGrowSpec) own started (by kernel_rfl) Tryd.func8
    (witness_row_at (enc := enc) (C := Tryd.checked) false (laidWorldR os) #[.slice none 0 0] rfl (by kernel_rfl) (by kernel_rfl) (by kernel_rfl)
      (OpenSpec.preRow_of_cond 8 hx (by kernel_rfl) (fun k hk => by cases hk) (by kernel_rfl) (laid_met os))) ?_
  intro W base args ds gs before hval hW _ _ _ hL _ _
  exact contract H enc W base args ds gs before hval hW hL
theorem said : Rows.MerklePeaksGrowSaid :=
  OpenClaim.holds_of_cond 8 Tryd.f8 rfl rfl rfl rfl rfl rfl rfl ⟨rfl, rfl, rfl, rfl, rfl⟩ rfl rfl rfl rfl rfl (by kernel_rfl) Tryd.func8 (by kernel_rfl)
    (of_decide_eq_true (by kernel_rfl)) (by unfold Func.isWrapper; first | (rw [if_pos (by decide +kernel)]; kernel_rfl) | (rw [if_neg (by decide +kernel)]; exact ⟨rfl, rfl⟩))
    (fun os started H enc _ F => by rw [OpenClaim.pre_eq_preRow]; exact lifted os started H enc F)
theorem plain (f : FuncId) (fn : Func) (hf : Tryd.pinned.checked.prog.funcNamed "antiquary/antiquarylaw03.MerklePeaksGrow" = some f) (hfn : Tryd.pinned.checked.prog.funcs[f]? = some fn) :
    false = Tryd.pinned.checked.prog.looks [] ∧ ∀ (j : Nat) t, fn.params[j]? = some t → Tryd.pinned.checked.prog.wantsStandIn t = false := by
  obtain rfl : f = 8 := Option.some.inj ((show Tryd.prog.funcNamed "antiquary/antiquarylaw03.MerklePeaksGrow" = some 8 by kernel_rfl).symm.trans hf) |>.symm
  obtain rfl : fn = Tryd.f8 := (Option.some.inj (Tryd.func8.symm.trans hfn)).symm
  refine ⟨by kernel_rfl, fun j t ht => ?_⟩
  rw [Tryd.params8] at ht
  have hm := Array.mem_of_getElem? ht
  have hall : Tryd.f8.params.toList.all (fun t => !Tryd.prog.wantsStandIn t) = true := by kernel_rfl
  rw [Tryd.params8] at hall
  have := List.all_eq_true.1 hall t (by simpa using hm)
  have h2 : Tryd.prog.wantsStandIn t = false := by simpa using this
  exact h2
theorem card_holds : Rows.MerklePeaksGrowCardSaid :=
  Claim7.holds_tied_plain_at .later [] _ _ _ _ said (fun _ h => by cases h) (by kernel_rfl) (fun _ h => by cases h) merklePeaksGrow_row_tie rfl ⟨rfl, rfl⟩ (by kernel_rfl) rfl plain (by kernel_rfl)
#print axioms card_holds
end Go.Proofs.YtgggpnjnhhkmgaaDoor.merklePeaksGrow
