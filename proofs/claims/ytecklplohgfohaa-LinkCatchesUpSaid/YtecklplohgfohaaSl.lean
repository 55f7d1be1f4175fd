/-
  sanity of the link laws. Conditions: none.
-/
import Derived.Test.YtecklplohgfohaaLp
import Derived.Test.YtecklplohgfohaaRg3
namespace Go.Proofs.Ytecklplohgfohaa
set_option linter.unusedSimpArgs false
set_option linter.unusedVariables false
open Go.RowKit Link
def fA : Fr := ⟨false, 0, ⟨#[97]⟩⟩
def fB : Fr := ⟨false, 1, ⟨#[98]⟩⟩
def fC : Fr := ⟨false, 2, ⟨#[99]⟩⟩
def fS : Fr := ⟨true, 2, ⟨#[97, 98]⟩⟩
def oP : Ob := ⟨2, 2, ⟨#[]⟩, [⟨#[99]⟩]⟩
def oF : Ob := ⟨2, 0, ⟨#[97, 98]⟩, [⟨#[99]⟩]⟩
theorem ev1 : framesO (pQ 3) 2 = ([fA, fB], 0) := by rfl
theorem ev2 : recvI iz fB = (⟨0, [fB]⟩, [], 0) := by rfl
theorem ev3 : recvI ⟨0, [fB]⟩ fA = (⟨2, []⟩, [fA, fB], 0) := by rfl
theorem ev4 : ackO (pQ 3) 2 = (oP, 0) := by rfl
theorem ev5 : framesO oP 9 = ([fC], 0) := by rfl
theorem ev6 : foldO (pQ 3) 2 ⟨#[97, 98]⟩ = (oF, 0) := by rfl
theorem ev7 : framesO oF 9 = ([fS, fC], 0) := by rfl
theorem ev8 : recvI iz fC = (⟨0, [fC]⟩, [], 0) := by rfl
theorem ev9 : recvI ⟨0, [fC]⟩ fS = (⟨3, []⟩, [fS, fC], 0) := by rfl
theorem wfFr (x : Fr) (h1 : (Lit.int .i64 x.seq).wf = true) (h2 : x.body.size ≤ 100) : WfF x := ⟨h1, by simp [maxLen]; omega⟩
theorem wf_A : WfF fA := wfFr _ rfl (by decide)
theorem wf_B : WfF fB := wfFr _ rfl (by decide)
theorem wf_C : WfF fC := wfFr _ rfl (by decide)
theorem wf_S : WfF fS := wfFr _ rfl (by decide)
theorem wf_z : WfI iz := ⟨rfl, by simp [iz]⟩
theorem wf_iB : WfI ⟨0, [fB]⟩ := ⟨rfl, by simp; exact wf_B⟩
theorem wf_iC : WfI ⟨0, [fC]⟩ := ⟨rfl, by simp; exact wf_C⟩
theorem wf_oP : WfO oP := ⟨rfl, rfl, by decide, by intro s hs; simp [oP] at hs; subst hs; decide⟩
theorem wf_oF : WfO oF := ⟨rfl, rfl, by decide, by intro s hs; simp [oF] at hs; subst hs; decide⟩
theorem RdF.lt {W : World} {A : Option Addr} {n : Nat} {l : List Fr} (h : RdF W A n l) : ∀ ad, 0 < n → A = some ad → ad.block < W.heap.size := fun ad hn e => by
  have hl := h.len
  obtain ⟨ad', e', hc⟩ := h.elem (i := 0) (by omega)
  rw [e] at e'
  injection e' with e'
  subst e'
  have := World.block_lt_of_cell? W _ (hc 0 _ rfl)
  rwa [block_of_add, block_of_add] at this
theorem RdO.lt {W : World} {o : Ob} {A : Option Addr} {n c : Nat} (h : RdO W o A n c) : ∀ ad, 0 < n → A = some ad → ad.block < W.heap.size := fun ad hn e => by
  obtain ⟨ad', e', hc⟩ := h.rd.get hn
  rw [e] at e'
  injection e' with e'
  subst e'
  have := World.block_lt_of_cell? W _ hc
  rwa [block_of_add] at this
theorem RdF.at_ {W : World} {ad : Addr} {n : Nat} {l : List Fr} (h : RdF W (some ad) n l) {i : Nat} (hi : i < l.length) : ∀ j u, (fv l[i])[j]? = some u → W.cell? ((ad.add (i * 3)).add j) = some u := by
  obtain ⟨ad', e, hc⟩ := h.elem hi
  injection e with e
  subst e
  exact hc
theorem RdF.turned {W W' : World} {A : Option Addr} {n g : Nat} {l : List Fr} (h : RdF W A n l) (ht : Turned g W W') (hn : ∀ ad, A = some ad → ad.block ≠ g) : RdF W' A n l := ⟨h.len, h.rd.turned ht hn⟩
theorem wpList_loadFrW {w : World} {ops : Array Oper} {rest : List Oper} {o : Oper} {a : Act} {Q : Exit → Act → World → Prop} (hw : Region.wanted o (yielded ops a.tmps) = true) {x : Operand} (ho : o.op = .load 49 x) {p : Addr} (ha : a.eval x = .pointer (some p)) {k : Fr}
    (hc : ∀ j u, (fv k)[j]? = some u → w.cell? (p.add j) = some u) (h : wpList Try.prog ops Q rest (a.put o.dst (.agg (frC k))) w) : wpList Try.prog ops Q (o :: rest) a w :=
  wpList_loadKW (us := fv k) hw ho ha aggFr sizeFr hc h
theorem yields_loadFr {ops : Array Oper} {w0 : World} {o : Oper} {a : Act} {x : Operand} {p : Addr} {k : Fr} (ho : o.op = .load 49 x) (hg : o.guard = none) (ha : a.eval x = .pointer (some p))
    (hc : ∀ j u, (fv k)[j]? = some u → w0.cell? (p.add j) = some u) : YieldsIf Try.prog ops (Below w0.heap.size w0) o (.agg (frC k)) a :=
  yields_loadK (us := fv k) ho hg ha aggFr sizeFr hc
theorem wpList_lit1fW {w : World} {ops : Array Oper} {rest : List Oper} {o : Oper} {a : Act} {Q : Exit → Act → World → Prop} (hw : Region.wanted o (yielded ops a.tmps) = true) {x : Operand} {s : Fr} (ho : o.op = .buildSlice 31 1 #[(0, x)]) (hx : a.eval x = frV s)
    (h : ∀ w' g, RdF w' (some ⟨g, 0, none⟩) 1 [s] → Below w.heap.size w w' → wpList Try.prog ops Q rest (a.put o.dst (.slice (some ⟨g, 0, none⟩) 1 1)) w') : wpList Try.prog ops Q (o :: rest) a w := by
  refine wpList_want hw fun K hK => ?_
  have h2 := h _ _ ⟨rfl, by have h5 := rd_newL w (fv s) 49; rw [show fvs [s] = fv s by simp [fvs]]; exact h5⟩ ((Below.refl _ _).alloc (Nat.le_refl _) _)
  unfold Oper.wp execOp
  simp only [ho, List.map_toArray, List.map_cons, List.map_nil, hx, build1_f, Sem.run_bind, Result.andThen_ok, Sem.run_pure]
  exact hK _ _ h2
theorem same_any (l : List Fr) (A : Option Addr) (n c : Nat) (B : Option Addr) (m d : Nat) (w : World) (ha : RdF w A n l) (hb : RdF w B m l) (hn : n ≤ 4294967296) (hm : m ≤ 4294967296) :
    Calls Try.prog 21 #[.slice A n c, .slice B m d] w fun e w' => e = .returned (.bool true) ∧ Below w.heap.size w w' := by
  have := sameFrames_any A n c l B m d l w ha hb hn hm
  rwa [sameFB_self] at this
theorem own_rdF {W : World} {B : Nat} {v : Value} {l : List Fr} (h : OwnFs W B v l) : ∃ A c, v = .slice A l.length c ∧ RdF W A l.length l ∧ ∀ g, g < B → ∀ ad, A = some ad → ad.block ≠ g := by
  have h0 := h
  obtain ⟨A, c, rfl, -, -, hr⟩ := h.form
  refine ⟨A, c, rfl, hr, fun g hg ad e => ?_⟩
  subst e
  rcases h0.2 with ⟨h2, _⟩ | ⟨p, cap, cur, hv, hp, _⟩
  · cases h2
  · injection hv with h3
    injection h3 with h3
    subst h3
    show p ≠ g
    omega
set_option maxRecDepth 100000 in
set_option maxHeartbeats 8000000 in
theorem sanity_any (w : World) : Calls Try.prog 9 #[] w fun e w' => e = .returned (.bool true) ∧ Below w.heap.size w w' := by
  have HP := Lib.hid (fun W => lawPut_any W)
  have HF1 := Lib.hid (fun A c W (h : RdO W (pQ 3) A 3 c) => frames_any (pQ 3) A 3 c 2 W h (pQ_wf 3 (by omega)))
  have HR1 := Lib.hid (fun A c W (h : RdI W iz A 0 c) => recv_any iz A 0 c fB W (by omega) h wf_z wf_B)
  have HR2 := Lib.hid (fun A c W (h : RdI W ⟨0, [fB]⟩ A 1 c) => recv_any ⟨0, [fB]⟩ A 1 c fA W (by omega) h wf_iB wf_A)
  have HA := Lib.hid (fun A c W (h : RdO W (pQ 3) A 3 c) => ack_any (pQ 3) A 3 c 2 W h (pQ_wf 3 (by omega)))
  have HF2 := Lib.hid (fun A n c W (h : RdO W oP A n c) => frames_any oP A n c 9 W h wf_oP)
  have HD := Lib.hid (fun A c W (h : RdO W (pQ 3) A 3 c) => fold_any (pQ 3) A 3 c 2 ⟨#[97, 98]⟩ W h (pQ_wf 3 (by omega)) (by decide))
  have HF3 := Lib.hid (fun A n c W (h : RdO W oF A n c) => frames_any oF A n c 9 W h wf_oF)
  have HR3 := Lib.hid (fun A c W (h : RdI W iz A 0 c) => recv_any iz A 0 c fC W (by omega) h wf_z wf_C)
  have HR4 := Lib.hid (fun A c W (h : RdI W ⟨0, [fC]⟩ A 1 c) => recv_any ⟨0, [fC]⟩ A 1 c fS W (by omega) h wf_iC wf_S)
  rw [ev1] at HF1
  rw [ev2] at HR1
  rw [ev3] at HR2
  rw [ev4] at HA
  rw [ev5] at HF2
  rw [ev6] at HD
  rw [ev7] at HF3
  rw [ev8] at HR3
  rw [ev9] at HR4
  have bA : ∀ W, (Instr.build 49 #[(2, .string ⟨#[97]⟩)]).run Try.prog W = .ok (.agg (frC fA)) W := fun W => by kernel_rfl
  have bB : ∀ W, (Instr.build 49 #[(1, .int .i64 1), (2, .string ⟨#[98]⟩)]).run Try.prog W = .ok (.agg (frC fB)) W := fun W => by kernel_rfl
  have bC : ∀ W, (Instr.build 49 #[(1, .int .i64 2), (2, .string ⟨#[99]⟩)]).run Try.prog W = .ok (.agg (frC fC)) W := fun W => by kernel_rfl
  have bS : ∀ W, (Instr.build 49 #[(0, .bool true), (1, .int .i64 2), (2, .string ⟨#[97, 98]⟩)]).run Try.prog W = .ok (.agg (frC fS)) W := fun W => by kernel_rfl
  have nA : ∀ W, (binOp .neq 49 (.agg (frC fA)) (.agg (frC fA))).run Try.prog W = .ok (.bool false) W := fun W => by rw [run_neqFr, eqF_self]; rfl
  have nA2 : ∀ W, (binOp .neq 49 (.agg (frC fA)) (.agg #[.bool false, .int .i64 0, .string ⟨#[97]⟩])).run Try.prog W = .ok (.bool false) W := nA
  have nB2 : ∀ W, (binOp .neq 49 (.agg (frC fB)) (.agg #[.bool false, .int .i64 1, .string ⟨#[98]⟩])).run Try.prog W = .ok (.bool false) W := fun W => by show (binOp .neq _ (.agg (frC fB)) (.agg (frC fB))).run _ W = _; rw [run_neqFr, eqF_self]; rfl
  have eS2 : ∀ W, (binOp .eql 49 (.agg (frC fS)) (.agg #[.bool true, .int .i64 2, .string ⟨#[97, 98]⟩])).run Try.prog W = .ok (.bool true) W := fun W => by show (binOp .eql _ (.agg (frC fS)) (.agg (frC fS))).run _ W = _; rw [run_eqlFr, eqF_self]
  have nB : ∀ W, (binOp .neq 49 (.agg (frC fB)) (.agg (frC fB))).run Try.prog W = .ok (.bool false) W := fun W => by rw [run_neqFr, eqF_self]; rfl
  have eS : ∀ W, (binOp .eql 49 (.agg (frC fS)) (.agg (frC fS))).run Try.prog W = .ok (.bool true) W := fun W => by rw [run_eqlFr, eqF_self]
  go_enter Try.func9, Try.ntmps9
  go_wp2_with fail
  refine (HP.out _).mono ?_
  rintro e w1 ⟨A1, c1, rfl, rO, hb0⟩
  go_upto_region 2 with (first
    | ((with_reducible show wpList _ _ _ _ _ _); refine wpList_new (cs := obC oz none 0 0) rfl rfl (fun w => by kernel_rfl) ?_; intro w2 g1 hg1 q1 hb2 lt1; have HG1 := Lib.hid hg1; clear hg1)
    | ((with_reducible show wpList _ _ _ _ _ _); refine wpList_putOb (k := pQ 3) rfl rfl rfl rfl q1 ?_; intro w3 ht3 b1))
  have hb : Below w1.heap.size w1 w3 := hb2.trans (ht3.below _ (by have := HG1.out; omega))
  replace rO := rO.below hb
  replace hb0 := bstep hb0 hb
  clear hb hb2 ht3 q1 HG1 lt1
  go_wp2_with ((with_reducible show wpList _ _ _ _ _ _); refine wpList_loadOb rfl rfl rfl b1 ?_)
  refine (HF1.out _ _ _ rO).mono ?_
  rintro e w4 ⟨v, rfl, hown, hb⟩
  obtain ⟨A3, c3, rfl, rL, -⟩ := own_rdF hown
  replace rL : RdF w4 A3 2 [fA, fB] := rL
  clear hown
  replace rO := rO.below hb
  replace b1 := b1.below hb
  replace hb0 := bstep hb0 hb
  clear hb
  go_upto_region 3 with fail
  obtain ⟨ad3, rfl, -⟩ := rL.elem (i := 0) (by simp)
  have hc0 : ∀ j u, (fv fA)[j]? = some u → w4.cell? (ad3.add j) = some u := fun j u h => by have := rL.at_ (i := 0) (by simp) j u h; simpa [add_of_add] using this
  have hc1 : ∀ j u, (fv fB)[j]? = some u → w4.cell? ((⟨ad3.block, ad3.off + 3, none⟩ : Addr).add j) = some u := fun j u h => rL.at_ (i := 1) (by simp) j u h
  go_upto_region 6 with (first
    | ((with_reducible show wpList _ _ _ _ _ _); refine wpList_loadFrW (by rfl) rfl rfl hc0 ?_)
    | ((with_reducible show wpList _ _ _ _ _ _); refine wpList_loadFrW (by rfl) rfl rfl hc1 ?_)
    | ((with_reducible show wpList _ _ _ _ _ _); refine wpList_new (cs := ibC iz none 0 0) rfl rfl (fun w => by kernel_rfl) ?_; intro w5 g5 hg5 q5 hb5 lt5; have HG5 := Lib.hid hg5; clear hg5))
  have NO := Lib.hid (fun (ad : Addr) e => show ad.block ≠ g5 from by have := rO.lt ad (by omega) e; have := HG5.out; omega)
  have NL := Lib.hid (fun (ad : Addr) e => show ad.block ≠ g5 from by have := rL.lt ad (by omega) e; have := HG5.out; omega)
  have N1 : g1 ≠ g5 := by have := b1.lt; have := HG5.out; omega
  have hl5 : w.heap.size ≤ g5 := by have := hb0.size; have := HG5.out; omega
  have hl1 : w.heap.size ≤ g5 := hl5
  replace rO := rO.below hb5
  replace b1 := b1.below hb5
  replace rL := rL.below hb5
  replace hb0 := bstep hb0 hb5
  have rI : RdI w5 iz none 0 0 := ⟨Nat.le_refl _, by simp [maxLen], RdF.none_ _⟩
  clear hc0 hc1 hb5 HG5
  have NI := Lib.hid (fun (ad : Addr) (e : (none : Option Addr) = some ad) => show ad.block ≠ g5 from by cases e)
  have hcE : ∀ j u, (fv fB)[j]? = some u → w5.cell? ((⟨ad3.block, ad3.off + 3, none⟩ : Addr).add j) = some u := fun j u h => rL.at_ (i := 1) (by simp) j u h
  have hS : Below w5.heap.size w5 w5.drew := (Below.refl _ w5).drew
  have hlta := q5.lt
  refine wp_region_T 9 (by kernel_rfl) ?_
  -- region 6: 12 operations, tail from 9
  refine WpT.take (i := 0) rfl (by kernel_rfl) (fun _ _ _ h => h) (yields_blk rfl rfl rfl (by kernel_rfl) (by kernel_rfl) q5) (hS) ?_
  try simp only [Act.put, List.setIfInBounds_toArray, List.set_cons_zero, List.set_cons_succ]
  refine WpT.take (i := 1) rfl (by kernel_rfl) (fun _ _ _ h => h) (.inl ⟨by rfl, fun w hSw => by clear hSw; go_simp; (try go_bits); (try rw [if_pos (by omega)]); (try with_reducible rfl)⟩) (hS) ?_
  try simp only [Act.put, List.setIfInBounds_toArray, List.set_cons_zero, List.set_cons_succ]
  refine WpT.take (i := 2) rfl (by kernel_rfl) (fun _ _ _ h => h) (.inl ⟨by rfl, fun w hSw => by clear hSw; go_simp; (try go_bits); (try rw [if_pos (by omega)]); (try with_reducible rfl)⟩) (hS) ?_
  try simp only [Act.put, List.setIfInBounds_toArray, List.set_cons_zero, List.set_cons_succ]
  refine WpT.take (i := 3) rfl (by kernel_rfl) (fun _ _ _ h => h) (yields_loadFr (k := fB) rfl rfl rfl hcE) (hS) ?_
  try simp only [Act.put, List.setIfInBounds_toArray, List.set_cons_zero, List.set_cons_succ]
  refine WpT.one (i := 4) rfl (by kernel_rfl) (fun K hK => ?_)
  go_simp; refine (HR1.out _ _ _ (rI.below hS)).mono ?_; rintro e wra ⟨Aa, na, da, va, rfl, rIa, howna, hb, kaa⟩; obtain ⟨Ba, ea, rfl, rXa, nXa⟩ := own_rdF howna; have nGa := Lib.hid (kaa g5 (.inl (Nat.lt_of_lt_of_le hlta hS.size)) NI.out); have nDa := Lib.hid (nXa g5 (Nat.lt_of_lt_of_le hlta hS.size)); replace hS := bstep hS hb
  refine hK _ _ (hS) ?_; clear hK K; try simp only [Act.put, List.setIfInBounds_toArray, List.set_cons_zero, List.set_cons_succ]
  refine WpT.take (i := 5) rfl (by kernel_rfl) (fun _ _ _ h => h) (.inl ⟨by rfl, fun w hSw => by clear hSw; go_simp; (try go_bits); (try rw [if_pos (by omega)]); (try with_reducible rfl)⟩) (hS) ?_
  try simp only [Act.put, List.setIfInBounds_toArray, List.set_cons_zero, List.set_cons_succ]
  refine WpT.take (i := 6) rfl (by kernel_rfl) (fun _ _ _ h => h) (.inl ⟨by rfl, fun w hSw => by clear hSw; go_simp; (try go_bits); (try rw [if_pos (by omega)]); (try with_reducible rfl)⟩) (hS) ?_
  try simp only [Act.put, List.setIfInBounds_toArray, List.set_cons_zero, List.set_cons_succ]
  refine WpT.takeP (i := 7) rfl (by kernel_rfl) (fun _ _ _ h => h) (.inl ⟨by rfl, fun w hSw => by clear hSw; go_simp; (try go_bits); (try rw [if_pos (by omega)]); (try with_reducible rfl)⟩) (hS) ?_
  try simp only [Act.put, List.setIfInBounds_toArray, List.set_cons_zero, List.set_cons_succ]
  refine WpT.takeP (i := 8) rfl (by kernel_rfl) (fun _ _ _ h => h) (.inl ⟨by rfl, fun w hSw => by clear hSw; go_simp; (try go_bits); (try rw [if_pos (by omega)]); (try with_reducible rfl)⟩) (hS) ?_
  try simp only [Act.put, List.setIfInBounds_toArray, List.set_cons_zero, List.set_cons_succ]
  refine WpT.tail (i := 9) rfl (by kernel_rfl) (by kernel_rfl) (fun K hK => ?_)
  refine wp_put (vs := ibC ⟨0, [fB]⟩ Aa na da) rfl (by rfl) (by rfl) (q5.below hS) (by rfl) (by kernel_rfl) (one_ibC _ _ _ _) ?_; intro w6 hta ba
  refine hK _ _ ?_; clear hK K; try simp only [Act.put, List.setIfInBounds_toArray, List.set_cons_zero, List.set_cons_succ]
  refine WpT.tail (i := 10) rfl (by kernel_rfl) (by kernel_rfl) (fun K hK => ?_)
  go_simp; (try go_bits)
  refine hK _ _ ?_; clear hK K; try simp only [Act.put, List.setIfInBounds_toArray, List.set_cons_zero, List.set_cons_succ]
  refine WpT.tail (i := 11) rfl (by kernel_rfl) (by kernel_rfl) (fun K hK => ?_)
  go_simp; (try go_bits)
  refine hK _ _ ?_; clear hK K; try simp only [Act.put, List.setIfInBounds_toArray, List.set_cons_zero, List.set_cons_succ]
  refine WpT.done (by kernel_rfl) ?_ _
  obtain rfl : na = 1 := by have := rIa.rd.len; simpa using this.symm
  change RdF _ _ 0 [] at rXa
  replace rO := (rO.below hS).turned hta NO.out
  replace b1 := hta.blk (b1.below hS) N1
  replace rL := (rL.below hS).turned hta NL.out
  replace rIa := rIa.turned hta nGa.out
  replace hb0 := (bstep hb0 hS).trans (hta.below _ hl5)
  have rI := rIa
  have NI := nGa
  clear hS hta kaa nXa nDa rXa hb hcE howna
  go_upto_region 7 with fail
  have hcE : ∀ j u, (fv fA)[j]? = some u → w6.cell? (ad3.add j) = some u := fun j u h => by have := rL.at_ (i := 0) (by simp) j u h; simpa [add_of_add] using this
  have hS : Below w6.heap.size w6 w6.drew := (Below.refl _ w6).drew
  have hltb := ba.lt
  refine wp_region_T 9 (by kernel_rfl) ?_
  -- region 7: 12 operations, tail from 9
  refine WpT.take (i := 0) rfl (by kernel_rfl) (fun _ _ _ h => h) (yields_blk rfl rfl rfl (by kernel_rfl) (by kernel_rfl) ba) (hS) ?_
  try simp only [Act.put, List.setIfInBounds_toArray, List.set_cons_zero, List.set_cons_succ]
  refine WpT.take (i := 1) rfl (by kernel_rfl) (fun _ _ _ h => h) (.inl ⟨by rfl, fun w hSw => by clear hSw; go_simp; (try go_bits); (try rw [if_pos (by omega)]); (try with_reducible rfl)⟩) (hS) ?_
  try simp only [Act.put, List.setIfInBounds_toArray, List.set_cons_zero, List.set_cons_succ]
  refine WpT.take (i := 2) rfl (by kernel_rfl) (fun _ _ _ h => h) (.inl ⟨by rfl, fun w hSw => by clear hSw; go_simp; (try go_bits); (try rw [if_pos (by omega)]); (try with_reducible rfl)⟩) (hS) ?_
  try simp only [Act.put, List.setIfInBounds_toArray, List.set_cons_zero, List.set_cons_succ]
  refine WpT.take (i := 3) rfl (by kernel_rfl) (fun _ _ _ h => h) (yields_loadFr (k := fA) rfl rfl rfl hcE) (hS) ?_
  try simp only [Act.put, List.setIfInBounds_toArray, List.set_cons_zero, List.set_cons_succ]
  refine WpT.one (i := 4) rfl (by kernel_rfl) (fun K hK => ?_)
  go_simp; refine (HR2.out _ _ _ (rI.below hS)).mono ?_; rintro e wrb ⟨Ab, nb, db, vb, rfl, rIb, hownb, hb, kab⟩; obtain ⟨Bb, eb, rfl, rXb, nXb⟩ := own_rdF hownb; have nGb := Lib.hid (kab g5 (.inl (Nat.lt_of_lt_of_le hltb hS.size)) NI.out); have nDb := Lib.hid (nXb g5 (Nat.lt_of_lt_of_le hltb hS.size)); replace hS := bstep hS hb
  refine hK _ _ (hS) ?_; clear hK K; try simp only [Act.put, List.setIfInBounds_toArray, List.set_cons_zero, List.set_cons_succ]
  refine WpT.take (i := 5) rfl (by kernel_rfl) (fun _ _ _ h => h) (.inl ⟨by rfl, fun w hSw => by clear hSw; go_simp; (try go_bits); (try rw [if_pos (by omega)]); (try with_reducible rfl)⟩) (hS) ?_
  try simp only [Act.put, List.setIfInBounds_toArray, List.set_cons_zero, List.set_cons_succ]
  refine WpT.take (i := 6) rfl (by kernel_rfl) (fun _ _ _ h => h) (.inl ⟨by rfl, fun w hSw => by clear hSw; go_simp; (try go_bits); (try rw [if_pos (by omega)]); (try with_reducible rfl)⟩) (hS) ?_
  try simp only [Act.put, List.setIfInBounds_toArray, List.set_cons_zero, List.set_cons_succ]
  refine WpT.takeP (i := 7) rfl (by kernel_rfl) (fun _ _ _ h => h) (.inl ⟨by rfl, fun w hSw => by clear hSw; go_simp; (try go_bits); (try rw [if_pos (by omega)]); (try with_reducible rfl)⟩) (hS) ?_
  try simp only [Act.put, List.setIfInBounds_toArray, List.set_cons_zero, List.set_cons_succ]
  refine WpT.takeP (i := 8) rfl (by kernel_rfl) (fun _ _ _ h => h) (.inl ⟨by rfl, fun w hSw => by clear hSw; go_simp; (try go_bits); (try rw [if_pos (by omega)]); (try with_reducible rfl)⟩) (hS) ?_
  try simp only [Act.put, List.setIfInBounds_toArray, List.set_cons_zero, List.set_cons_succ]
  refine WpT.tail (i := 9) rfl (by kernel_rfl) (by kernel_rfl) (fun K hK => ?_)
  refine wp_put (vs := ibC ⟨2, []⟩ Ab nb db) rfl (by rfl) (by rfl) (ba.below hS) (by rfl) (by kernel_rfl) (one_ibC _ _ _ _) ?_; intro w7 htb bb
  refine hK _ _ ?_; clear hK K; try simp only [Act.put, List.setIfInBounds_toArray, List.set_cons_zero, List.set_cons_succ]
  refine WpT.tail (i := 10) rfl (by kernel_rfl) (by kernel_rfl) (fun K hK => ?_)
  go_simp; (try go_bits)
  refine hK _ _ ?_; clear hK K; try simp only [Act.put, List.setIfInBounds_toArray, List.set_cons_zero, List.set_cons_succ]
  refine WpT.tail (i := 11) rfl (by kernel_rfl) (by kernel_rfl) (fun K hK => ?_)
  go_simp; (try go_bits)
  refine hK _ _ ?_; clear hK K; try simp only [Act.put, List.setIfInBounds_toArray, List.set_cons_zero, List.set_cons_succ]
  refine WpT.done (by kernel_rfl) ?_ _
  obtain rfl : nb = 0 := by have := rIb.rd.len; simpa using this.symm
  change RdF _ _ 2 [fA, fB] at rXb
  replace rO := (rO.below hS).turned htb NO.out
  replace b1 := htb.blk (b1.below hS) N1
  replace rL := (rL.below hS).turned htb NL.out
  have rY := rXb.turned htb nDb.out
  replace hb0 := (bstep hb0 hS).trans (htb.below _ hl5)
  clear hS htb kab nXb nDb rXb hb hcE hownb rI NI rIb ba nGa nGb rIa NO NL hlta
  go_wp2_with ((with_reducible show wpList _ _ _ _ _ _); refine wpList_loadOb rfl rfl rfl b1 ?_)
  refine (HA.out _ _ _ rO).mono ?_
  rintro e w8 ⟨A8, n8, c8, rfl, rP, hb, -⟩
  obtain rfl : n8 = 1 := by rw [← rP.len]; rfl
  replace rO := rO.below hb
  replace b1 := b1.below hb
  replace rL := rL.below hb
  replace rY := rY.below hb
  replace bb := bb.below hb
  replace hb0 := bstep hb0 hb
  clear hb
  go_upto_region 9 with (first
    | ((with_reducible show wpList _ _ _ _ _ _); refine wpList_new (cs := obC oz none 0 0) rfl rfl (fun w => by kernel_rfl) ?_; intro w9 g10 hg10 q10 hb9 lt10; have HG10 := Lib.hid hg10; clear hg10)
    | ((with_reducible show wpList _ _ _ _ _ _); refine wpList_putOb (k := oP) rfl rfl rfl rfl q10 ?_; intro w10 ht10 b10))
  have hb : Below w8.heap.size w8 w10 := hb9.trans (ht10.below _ (by have := HG10.out; omega))
  replace rO := rO.below hb
  replace b1 := b1.below hb
  replace rL := rL.below hb
  replace rY := rY.below hb
  replace bb := bb.below hb
  replace rP := rP.below hb
  replace hb0 := bstep hb0 hb
  clear hb hb9 ht10 q10 HG10 lt10
  go_wp2_with ((with_reducible show wpList _ _ _ _ _ _); refine wpList_loadOb rfl rfl rfl b10 ?_)
  refine (HF2.out _ _ _ _ rP).mono ?_
  rintro e w11 ⟨v11, rfl, hown, hb⟩
  obtain ⟨A11, c11, rfl, rM, -⟩ := own_rdF hown
  change RdF _ _ 1 [fC] at rM
  clear hown
  replace rO := rO.below hb
  replace b1 := b1.below hb
  replace rL := rL.below hb
  replace rY := rY.below hb
  replace bb := bb.below hb
  replace rP := rP.below hb
  replace b10 := b10.below hb
  replace hb0 := bstep hb0 hb
  clear hb
  go_wp2_with ((with_reducible show wpList _ _ _ _ _ _); refine wpList_loadOb rfl rfl rfl b1 ?_)
  refine (HD.out _ _ _ rO).mono ?_
  rintro e w12 ⟨A12, n12, c12, rfl, rF, hb, -⟩
  obtain rfl : n12 = 1 := by rw [← rF.len]; rfl
  replace rO := rO.below hb
  replace b1 := b1.below hb
  replace rL := rL.below hb
  replace rY := rY.below hb
  replace bb := bb.below hb
  replace rP := rP.below hb
  replace b10 := b10.below hb
  replace rM := rM.below hb
  replace hb0 := bstep hb0 hb
  clear hb
  go_upto_region 11 with (first
    | ((with_reducible show wpList _ _ _ _ _ _); refine wpList_new (cs := obC oz none 0 0) rfl rfl (fun w => by kernel_rfl) ?_; intro w13 g14 hg14 q14 hb13 lt14; have HG14 := Lib.hid hg14; clear hg14)
    | ((with_reducible show wpList _ _ _ _ _ _); refine wpList_putOb (k := oF) rfl rfl rfl rfl q14 ?_; intro w14 ht14 b14))
  have hb : Below w12.heap.size w12 w14 := hb13.trans (ht14.below _ (by have := HG14.out; omega))
  replace rO := rO.below hb
  replace b1 := b1.below hb
  replace rL := rL.below hb
  replace rY := rY.below hb
  replace bb := bb.below hb
  replace rP := rP.below hb
  replace b10 := b10.below hb
  replace rM := rM.below hb
  replace rF := rF.below hb
  replace hb0 := bstep hb0 hb
  clear hb hb13 ht14 q14 HG14 lt14 rO b1 rP
  go_wp2_with ((with_reducible show wpList _ _ _ _ _ _); refine wpList_loadOb rfl rfl rfl b14 ?_)
  refine (HF3.out _ _ _ _ rF).mono ?_
  rintro e w15 ⟨v15, rfl, hown, hb⟩
  obtain ⟨A15, c15, rfl, rN, -⟩ := own_rdF hown
  change RdF _ _ 2 [fS, fC] at rN
  clear hown rF b14
  replace rL := rL.below hb
  replace rY := rY.below hb
  replace bb := bb.below hb
  replace b10 := b10.below hb
  replace rM := rM.below hb
  replace hb0 := bstep hb0 hb
  clear hb
  obtain ⟨ad15, rfl, -⟩ := rN.elem (i := 0) (by simp)
  go_upto_region 15 with ((with_reducible show wpList _ _ _ _ _ _); refine wpList_new (cs := ibC iz none 0 0) rfl rfl (fun w => by kernel_rfl) ?_; intro w16 g18 hg18 q18 hb16 lt18; have HG18 := Lib.hid hg18; clear hg18)
  have NL := Lib.hid (fun (ad : Addr) e => show ad.block ≠ g18 from by have := rL.lt ad (by omega) e; have := HG18.out; omega)
  have NY := Lib.hid (fun (ad : Addr) e => show ad.block ≠ g18 from by have := rY.lt ad (by omega) e; have := HG18.out; omega)
  have NM := Lib.hid (fun (ad : Addr) e => show ad.block ≠ g18 from by have := rM.lt ad (by omega) e; have := HG18.out; omega)
  have NN := Lib.hid (fun (ad : Addr) e => show ad.block ≠ g18 from by have := rN.lt ad (by omega) e; have := HG18.out; omega)
  have N5 : g5 ≠ g18 := by have := bb.lt; have := HG18.out; omega
  have N10 : g10 ≠ g18 := by have := b10.lt; have := HG18.out; omega
  have hl18 : w.heap.size ≤ g18 := by have := hb0.size; have := HG18.out; omega
  replace rL := rL.below hb16
  replace rY := rY.below hb16
  replace bb := bb.below hb16
  replace b10 := b10.below hb16
  replace rM := rM.below hb16
  replace rN := rN.below hb16
  replace hb0 := bstep hb0 hb16
  clear hb16 HG18 lt18
  have rI : RdI w16 iz none 0 0 := ⟨Nat.le_refl _, by simp [maxLen], RdF.none_ _⟩
  have NI := Lib.hid (fun (ad : Addr) (e : (none : Option Addr) = some ad) => show ad.block ≠ g18 from by cases e)
  have hcE : ∀ j u, (fv fC)[j]? = some u → w16.cell? ((⟨ad15.block, ad15.off + 3, none⟩ : Addr).add j) = some u := fun j u h => rN.at_ (i := 1) (by simp) j u h
  have hS : Below w16.heap.size w16 w16.drew := (Below.refl _ w16).drew
  have hltc := q18.lt
  refine wp_region_T 9 (by kernel_rfl) ?_
  -- region 15: 12 operations, tail from 9
  refine WpT.take (i := 0) rfl (by kernel_rfl) (fun _ _ _ h => h) (yields_blk rfl rfl rfl (by kernel_rfl) (by kernel_rfl) q18) (hS) ?_
  try simp only [Act.put, List.setIfInBounds_toArray, List.set_cons_zero, List.set_cons_succ]
  refine WpT.take (i := 1) rfl (by kernel_rfl) (fun _ _ _ h => h) (.inl ⟨by rfl, fun w hSw => by clear hSw; go_simp; (try go_bits); (try rw [if_pos (by omega)]); (try with_reducible rfl)⟩) (hS) ?_
  try simp only [Act.put, List.setIfInBounds_toArray, List.set_cons_zero, List.set_cons_succ]
  refine WpT.take (i := 2) rfl (by kernel_rfl) (fun _ _ _ h => h) (.inl ⟨by rfl, fun w hSw => by clear hSw; go_simp; (try go_bits); (try rw [if_pos (by omega)]); (try with_reducible rfl)⟩) (hS) ?_
  try simp only [Act.put, List.setIfInBounds_toArray, List.set_cons_zero, List.set_cons_succ]
  refine WpT.take (i := 3) rfl (by kernel_rfl) (fun _ _ _ h => h) (yields_loadFr (k := fC) rfl rfl rfl hcE) (hS) ?_
  try simp only [Act.put, List.setIfInBounds_toArray, List.set_cons_zero, List.set_cons_succ]
  refine WpT.one (i := 4) rfl (by kernel_rfl) (fun K hK => ?_)
  go_simp; refine (HR3.out _ _ _ (rI.below hS)).mono ?_; rintro e wrc ⟨Ac, nc, dc, vc, rfl, rIc, hownc, hb, kac⟩; obtain ⟨Bc, ec, rfl, rXc, nXc⟩ := own_rdF hownc; have nGc := Lib.hid (kac g18 (.inl (Nat.lt_of_lt_of_le hltc hS.size)) NI.out); have nDc := Lib.hid (nXc g18 (Nat.lt_of_lt_of_le hltc hS.size)); replace hS := bstep hS hb
  refine hK _ _ (hS) ?_; clear hK K; try simp only [Act.put, List.setIfInBounds_toArray, List.set_cons_zero, List.set_cons_succ]
  refine WpT.take (i := 5) rfl (by kernel_rfl) (fun _ _ _ h => h) (.inl ⟨by rfl, fun w hSw => by clear hSw; go_simp; (try go_bits); (try rw [if_pos (by omega)]); (try with_reducible rfl)⟩) (hS) ?_
  try simp only [Act.put, List.setIfInBounds_toArray, List.set_cons_zero, List.set_cons_succ]
  refine WpT.take (i := 6) rfl (by kernel_rfl) (fun _ _ _ h => h) (.inl ⟨by rfl, fun w hSw => by clear hSw; go_simp; (try go_bits); (try rw [if_pos (by omega)]); (try with_reducible rfl)⟩) (hS) ?_
  try simp only [Act.put, List.setIfInBounds_toArray, List.set_cons_zero, List.set_cons_succ]
  refine WpT.takeP (i := 7) rfl (by kernel_rfl) (fun _ _ _ h => h) (.inl ⟨by rfl, fun w hSw => by clear hSw; go_simp; (try go_bits); (try rw [if_pos (by omega)]); (try with_reducible rfl)⟩) (hS) ?_
  try simp only [Act.put, List.setIfInBounds_toArray, List.set_cons_zero, List.set_cons_succ]
  refine WpT.takeP (i := 8) rfl (by kernel_rfl) (fun _ _ _ h => h) (.inl ⟨by rfl, fun w hSw => by clear hSw; go_simp; (try go_bits); (try rw [if_pos (by omega)]); (try with_reducible rfl)⟩) (hS) ?_
  try simp only [Act.put, List.setIfInBounds_toArray, List.set_cons_zero, List.set_cons_succ]
  refine WpT.tail (i := 9) rfl (by kernel_rfl) (by kernel_rfl) (fun K hK => ?_)
  refine wp_put (vs := ibC ⟨0, [fC]⟩ Ac nc dc) rfl (by rfl) (by rfl) (q18.below hS) (by rfl) (by kernel_rfl) (one_ibC _ _ _ _) ?_; intro w17 htc bc
  refine hK _ _ ?_; clear hK K; try simp only [Act.put, List.setIfInBounds_toArray, List.set_cons_zero, List.set_cons_succ]
  refine WpT.tail (i := 10) rfl (by kernel_rfl) (by kernel_rfl) (fun K hK => ?_)
  go_simp; (try go_bits)
  refine hK _ _ ?_; clear hK K; try simp only [Act.put, List.setIfInBounds_toArray, List.set_cons_zero, List.set_cons_succ]
  refine WpT.tail (i := 11) rfl (by kernel_rfl) (by kernel_rfl) (fun K hK => ?_)
  go_simp; (try go_bits)
  refine hK _ _ ?_; clear hK K; try simp only [Act.put, List.setIfInBounds_toArray, List.set_cons_zero, List.set_cons_succ]
  refine WpT.done (by kernel_rfl) ?_ _
  obtain rfl : nc = 1 := by have := rIc.rd.len; simpa using this.symm
  change RdF _ _ 0 [] at rXc
  replace rL := (rL.below hS).turned htc NL.out
  replace rY := (rY.below hS).turned htc NY.out
  replace rM := (rM.below hS).turned htc NM.out
  replace rN := (rN.below hS).turned htc NN.out
  replace bb := htc.blk (bb.below hS) N5
  replace b10 := htc.blk (b10.below hS) N10
  replace hb0 := (bstep hb0 hS).trans (htc.below _ hl18)
  replace rIc := rIc.turned htc nGc.out
  have rI := rIc
  have NI := nGc
  clear hS htc kac nXc nDc rXc hb hcE hownc
  go_upto_region 16 with fail
  have hcE : ∀ j u, (fv fS)[j]? = some u → w17.cell? (ad15.add j) = some u := fun j u h => by have := rN.at_ (i := 0) (by simp) j u h; simpa [add_of_add] using this
  have hS : Below w17.heap.size w17 w17.drew := (Below.refl _ w17).drew
  have hltd := bc.lt
  refine wp_region_T 9 (by kernel_rfl) ?_
  -- region 16: 12 operations, tail from 9
  refine WpT.take (i := 0) rfl (by kernel_rfl) (fun _ _ _ h => h) (yields_blk rfl rfl rfl (by kernel_rfl) (by kernel_rfl) bc) (hS) ?_
  try simp only [Act.put, List.setIfInBounds_toArray, List.set_cons_zero, List.set_cons_succ]
  refine WpT.take (i := 1) rfl (by kernel_rfl) (fun _ _ _ h => h) (.inl ⟨by rfl, fun w hSw => by clear hSw; go_simp; (try go_bits); (try rw [if_pos (by omega)]); (try with_reducible rfl)⟩) (hS) ?_
  try simp only [Act.put, List.setIfInBounds_toArray, List.set_cons_zero, List.set_cons_succ]
  refine WpT.take (i := 2) rfl (by kernel_rfl) (fun _ _ _ h => h) (.inl ⟨by rfl, fun w hSw => by clear hSw; go_simp; (try go_bits); (try rw [if_pos (by omega)]); (try with_reducible rfl)⟩) (hS) ?_
  try simp only [Act.put, List.setIfInBounds_toArray, List.set_cons_zero, List.set_cons_succ]
  refine WpT.take (i := 3) rfl (by kernel_rfl) (fun _ _ _ h => h) (yields_loadFr (k := fS) rfl rfl rfl hcE) (hS) ?_
  try simp only [Act.put, List.setIfInBounds_toArray, List.set_cons_zero, List.set_cons_succ]
  refine WpT.one (i := 4) rfl (by kernel_rfl) (fun K hK => ?_)
  go_simp; refine (HR4.out _ _ _ (rI.below hS)).mono ?_; rintro e wrd ⟨Ad, nd, dd, vd, rfl, rId, hownd, hb, kad⟩; obtain ⟨Bd, ed, rfl, rXd, nXd⟩ := own_rdF hownd; have nGd := Lib.hid (kad g18 (.inl (Nat.lt_of_lt_of_le hltd hS.size)) NI.out); have nDd := Lib.hid (nXd g18 (Nat.lt_of_lt_of_le hltd hS.size)); replace hS := bstep hS hb
  refine hK _ _ (hS) ?_; clear hK K; try simp only [Act.put, List.setIfInBounds_toArray, List.set_cons_zero, List.set_cons_succ]
  refine WpT.take (i := 5) rfl (by kernel_rfl) (fun _ _ _ h => h) (.inl ⟨by rfl, fun w hSw => by clear hSw; go_simp; (try go_bits); (try rw [if_pos (by omega)]); (try with_reducible rfl)⟩) (hS) ?_
  try simp only [Act.put, List.setIfInBounds_toArray, List.set_cons_zero, List.set_cons_succ]
  refine WpT.take (i := 6) rfl (by kernel_rfl) (fun _ _ _ h => h) (.inl ⟨by rfl, fun w hSw => by clear hSw; go_simp; (try go_bits); (try rw [if_pos (by omega)]); (try with_reducible rfl)⟩) (hS) ?_
  try simp only [Act.put, List.setIfInBounds_toArray, List.set_cons_zero, List.set_cons_succ]
  refine WpT.takeP (i := 7) rfl (by kernel_rfl) (fun _ _ _ h => h) (.inl ⟨by rfl, fun w hSw => by clear hSw; go_simp; (try go_bits); (try rw [if_pos (by omega)]); (try with_reducible rfl)⟩) (hS) ?_
  try simp only [Act.put, List.setIfInBounds_toArray, List.set_cons_zero, List.set_cons_succ]
  refine WpT.takeP (i := 8) rfl (by kernel_rfl) (fun _ _ _ h => h) (.inl ⟨by rfl, fun w hSw => by clear hSw; go_simp; (try go_bits); (try rw [if_pos (by omega)]); (try with_reducible rfl)⟩) (hS) ?_
  try simp only [Act.put, List.setIfInBounds_toArray, List.set_cons_zero, List.set_cons_succ]
  refine WpT.tail (i := 9) rfl (by kernel_rfl) (by kernel_rfl) (fun K hK => ?_)
  refine wp_put (vs := ibC ⟨3, []⟩ Ad nd dd) rfl (by rfl) (by rfl) (bc.below hS) (by rfl) (by kernel_rfl) (one_ibC _ _ _ _) ?_; intro w18 htd bd
  refine hK _ _ ?_; clear hK K; try simp only [Act.put, List.setIfInBounds_toArray, List.set_cons_zero, List.set_cons_succ]
  refine WpT.tail (i := 10) rfl (by kernel_rfl) (by kernel_rfl) (fun K hK => ?_)
  go_simp; (try go_bits)
  refine hK _ _ ?_; clear hK K; try simp only [Act.put, List.setIfInBounds_toArray, List.set_cons_zero, List.set_cons_succ]
  refine WpT.tail (i := 11) rfl (by kernel_rfl) (by kernel_rfl) (fun K hK => ?_)
  go_simp; (try go_bits)
  refine hK _ _ ?_; clear hK K; try simp only [Act.put, List.setIfInBounds_toArray, List.set_cons_zero, List.set_cons_succ]
  refine WpT.done (by kernel_rfl) ?_ _
  obtain rfl : nd = 0 := by have := rId.rd.len; simpa using this.symm
  change RdF _ _ 2 [fS, fC] at rXd
  replace rL := (rL.below hS).turned htd NL.out
  replace rY := (rY.below hS).turned htd NY.out
  replace rM := (rM.below hS).turned htd NM.out
  replace rN := (rN.below hS).turned htd NN.out
  replace bb := htd.blk (bb.below hS) N5
  replace b10 := htd.blk (b10.below hS) N10
  replace hb0 := (bstep hb0 hS).trans (htd.below _ hl18)
  have rW := rXd.turned htd nDd.out
  clear hS htd kad nXd nDd rXd hb hcE hownd rI NI rIc bc nGc nGd rId NL NY NM NN
  go_upto_region 17 with fail
  go_wp2_with fail
  refine (same_any [fA, fB] _ _ _ _ _ _ _ rY rL (by omega) (by omega)).mono ?_
  rintro e w19 ⟨rfl, hb⟩
  replace rM := rM.below hb
  replace rN := rN.below hb
  replace bb := bb.below hb
  replace b10 := b10.below hb
  replace bd := bd.below hb
  replace rW := rW.below hb
  replace hb0 := bstep hb0 hb
  clear hb
  have k5 := bb.cell 0
  have k10 := b10.cell 0
  have hcS : ∀ j u, (fv fS)[j]? = some u → w19.cell? (ad15.add j) = some u := fun j u h => by have := rN.at_ (i := 0) (by simp) j u h; simpa [add_of_add] using this
  simp only [List.getElem?_toArray, List.getElem?_cons_zero] at k5 k10
  have kP : oP.base = 2 := rfl
  rw [kP] at k10
  clear kP
  go_wp2_with (first
    | ((with_reducible show wpList _ _ _ _ _ _); refine wpList_lit1fW (s := fC) (by rfl) rfl (by rfl) ?_; intro w20 g20 r20 hb20))
  refine (same_any [fC] _ _ _ _ _ _ _ (rM.below hb20) r20 (by omega) (by omega)).mono ?_
  rintro e w21 ⟨rfl, hb⟩
  replace hb := hb20.trans (hb.mono hb20.size)
  replace rM := rM.below hb
  replace rN := rN.below hb
  replace bb := bb.below hb
  replace b10 := b10.below hb
  replace bd := bd.below hb
  replace rW := rW.below hb
  replace hb0 := bstep hb0 hb
  clear hb hb20 r20 k5 k10 hcS
  have hcS : ∀ j u, (fv fS)[j]? = some u → w21.cell? (ad15.add j) = some u := fun j u h => by have := rN.at_ (i := 0) (by simp) j u h; simpa [add_of_add] using this
  go_wp2_with ((with_reducible show wpList _ _ _ _ _ _); refine wpList_loadFrW (k := fS) (by rfl) rfl rfl hcS ?_)
  refine (same_any [fS, fC] _ _ _ _ _ _ _ rW rN (by omega) (by omega)).mono ?_
  rintro e w22 ⟨rfl, hb⟩
  replace rM := rM.below hb
  replace rN := rN.below hb
  replace bb := bb.below hb
  replace b10 := b10.below hb
  replace bd := bd.below hb
  replace rW := rW.below hb
  replace hb0 := bstep hb0 hb
  clear hb
  have k18 := bd.cell 0
  simp only [List.getElem?_toArray, List.getElem?_cons_zero] at k18
  go_wp2_with fail
  go_ret
  exact ⟨rfl, hb0⟩
end Go.Proofs.Ytecklplohgfohaa
