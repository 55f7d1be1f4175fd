/-
  Known of the functions of this seat's laws, joined. Conditions: each theorem's own.
-/
import Derived.Test.YtcapckngikekpaaGreatDoorF11
namespace Go.Proofs.YtcapckngikekpaaGreatDoor
set_option linter.unusedSimpArgs false
set_option linter.unusedVariables false
set_option maxRecDepth 100000
set_option maxHeartbeats 16000000
section
open Go.RowKit Exch Merk Ring
theorem zpo (a b : List Nat) (A : Option Addr) (n c : Nat) (B : Option Addr) (m d : Nat) (w : World) (ha : RdD w A n a) (hb : RdD w B m b) (hn : n ≤ 1000000) (hm : m ≤ 1000000) (wa : ∀ x ∈ a, x < 2 ^ 128) (wb : ∀ x ∈ b, x < 2 ^ 128) :
  Calls Tryz.prog 69 #[.slice A n c, .slice B m d] w fun e w' => e = .returned (.bool (decide (a = b))) ∧ Below w.heap.size w w' := by
 have HA := ya ha
 have HB := ya hb
 have HLA := ya ha.len
 have HLB := ya hb.len
 have WA := ya wa
 have WB := ya wb
 clear wa wb
 by_cases hnm : n = m
 ·subst hnm
  have HX := ya (fun (h : ∀ j (hj : j < a.length) (hj2 : j < b.length), a[j] = b[j]) => (show decide (a = b) = true by
   rw [decide_eq_true_eq]; exact List.ext_getElem (by rw [ha.len, hb.len]) (fun i h1 h2 => h i h1 h2)))
  have HY := ya (fun k (h1 : k < a.length) (h2 : k < b.length) (h : a[k] ≠ b[k]) => zi9 h1 h2 h)
  generalize decide (a = b) = V at *
  clear ha hb
  have dn : ((n : Int) != n) = false := by simp
  go_enter Tryz.func69, Tryz.ntmps69
  go_wp2_with fail
  go_loopw [13] (fun vk wr => ∃ k : Nat, k ≤ n ∧ vk = .int .i64 k ∧ Below w.heap.size w wr ∧ Hid (∀ j (hj : j < a.length) (hj2 : j < b.length), j < k → a[j] = b[j])) (fun vk _ => n - (intOf vk).toNat)
  case atStart => exact ⟨0, Nat.zero_le _, rfl, Below.refl _ _, ya (fun j hj hj2 h => by omega)⟩
  case round =>
   obtain ⟨k, hk, rfl, hbw, HV⟩ := hrel
   by_cases hlt : k < n
   ·have hka : k < a.length := by have := HLA.out; omega
    have hkb : k < b.length := by have := HLB.out; omega
    obtain ⟨ad, rfl, hca⟩ := (HA.out.below hbw).elem hka
    obtain ⟨bd, rfl, hcb⟩ := (HB.out.below hbw).elem hkb
    have hne := z8e (WA.out _ (List.getElem_mem hka)) (WB.out _ (List.getElem_mem hkb))
    have HN : Hid (a[k] = b[k] → ∀ j (hj : j < a.length) (hj2 : j < b.length), j < k + 1 → a[j] = b[j]) := ya (fun h j hj hj2 hjk => by
     by_cases e : j = k
     ·subst e; exact h
     ·exact HV.out j hj hj2 (by omega))
    have HM := ya (HY.out k hka hkb)
    generalize a[k] = x at *
    generalize b[k] = y at *
    go_upto_region 6 with fail
    by_cases hxy : x = y
    ·have dx : decide (x = y) = true := by simpa using hxy
     rw [dx] at hne
     have HN2 := ya (HN.out hxy)
     clear HN HM HV dx hxy
     refine yq 9 (by kernel_rfl) ?_
     refine WpT.tk 0 ((Below.refl _ _).drew) ?_
     simp only [nrm]
     refine WpT.tk 1 ((Below.refl _ _).drew) ?_
     simp only [nrm]
     refine WpT.tk 2 ((Below.refl _ _).drew) ?_
     simp only [nrm]
     refine WpT.tl 3 rfl (z07 (us := bv (dg x)) rfl rfl rfl yn (by rw [yf, z03]) hca) ((Below.refl _ _).drew) ?_
     simp only [nrm]
     refine WpT.tk 4 ((Below.refl _ _).drew) ?_
     simp only [nrm]
     refine WpT.tk 5 ((Below.refl _ _).drew) ?_
     simp only [nrm]
     refine WpT.tk 6 ((Below.refl _ _).drew) ?_
     simp only [nrm]
     refine WpT.tl 7 rfl (z07 (us := bv (dg y)) rfl rfl rfl yn (by rw [yf, z03]) hcb) ((Below.refl _ _).drew) ?_
     simp only [nrm]
     refine WpT.tk 8 ((Below.refl _ _).drew) ?_
     simp only [nrm]
     refine WpT.done (by kernel_rfl) ?_ _
     go_wp2_with fail
     exact ⟨⟨k + 1, by omega, by go_num, hbw.drew, HN2⟩, by simp [intOf]; omega⟩
    ·have dx : decide (x = y) = false := by simpa using hxy
     rw [dx] at hne
     have hV := HM.out hxy
     subst hV
     clear HN HM HV dx hxy HX HY
     refine yq 9 (by kernel_rfl) ?_
     refine WpT.tk 0 ((Below.refl _ _).drew) ?_
     simp only [nrm]
     refine WpT.tk 1 ((Below.refl _ _).drew) ?_
     simp only [nrm]
     refine WpT.tk 2 ((Below.refl _ _).drew) ?_
     simp only [nrm]
     refine WpT.tl 3 rfl (z07 (us := bv (dg x)) rfl rfl rfl yn (by rw [yf, z03]) hca) ((Below.refl _ _).drew) ?_
     simp only [nrm]
     refine WpT.tk 4 ((Below.refl _ _).drew) ?_
     simp only [nrm]
     refine WpT.tk 5 ((Below.refl _ _).drew) ?_
     simp only [nrm]
     refine WpT.tk 6 ((Below.refl _ _).drew) ?_
     simp only [nrm]
     refine WpT.tl 7 rfl (z07 (us := bv (dg y)) rfl rfl rfl yn (by rw [yf, z03]) hcb) ((Below.refl _ _).drew) ?_
     simp only [nrm]
     refine WpT.tk 8 ((Below.refl _ _).drew) ?_
     simp only [nrm]
     refine WpT.done (by kernel_rfl) ?_ _
     go_wp2_with fail
     go_ret
     exact ⟨rfl, hbw.drew⟩
   ·obtain rfl : k = n := by omega
    have hV : V = true := HX.out (fun j hj hj2 => HV.out j hj hj2 (by have := HLA.out; omega))
    subst hV
    clear HX HY HV
    go_wp2_with fail
    go_ret
    exact ⟨rfl, hbw⟩
 ·have hV : decide (a = b) = false := by
   rw [decide_eq_false_iff_not]
   intro e
   subst e
   exact hnm (ha.len.symm.trans hb.len)
  rw [hV]
  have dn : ((n : Int) != m) = true := by simp; omega
  clear ha hb hV
  go_enter Tryz.func69, Tryz.ntmps69
  go_wp2_with fail
  go_ret
  exact ⟨rfl, Below.refl _ _⟩
theorem ze1 {P : Program} {ops : Array Oper} {S : World → Prop} {o : Oper} {a : Act} (hw : Region.wanted o (yielded ops a.tmps) = true) {t : TypeId} {x y : Operand} (ho : o.op = .slice t x none (some y) none) (hu : P.underlying t = some (.slice (P.elem t))) {s : Nat} (hs : (P.info? (P.elem t)).map (·.size) = some s)
  {A : Option Addr} {m c k : Nat} (hx : a.eval x = .slice A m c) (hy : a.eval y = .int .i64 (k : Int)) (hk : k ≤ c) : YieldsIf P ops S o (.slice A k c) a := by
 refine .inl ⟨hw, fun w hS => ?_⟩
 have hr : (Instr.sliceAt t (.slice A m c) none (some (.int .i64 (k : Int))) none).run P w = .ok (.slice A k c) w := by
  rw [run_sliceAt_slice w _ _ _ _ _ hu, run_slice_h w _ A m c hu .i64 (k : Int) (by omega) (by omega), zlv hs]
  have hA : (if c = 0 then A else A.map (·.add (0 * s))) = A := by
   split
   ·rfl
   ·cases A with
    | none => rfl
    | some ad => simp [Addr.add]
  show Result.ok (sliced A 0 (Int.toNat (k : Int)) c s) w = _
  unfold sliced
  rw [hA, Int.toNat_natCast, Nat.sub_zero, Nat.sub_zero]
 unfold execOp
 simp only [ho, hx, hy, Option.map_some, Option.map_none, hr, Sem.run_bind, Result.andThen_ok, Sem.run_pure]
theorem zft {nd : Nat → Nat → Nat} {em : Nat} (N : Nds nd em) : ∀ (k : Nat) (l : List Nat), l.length ≤ k → (∀ x ∈ l, x < 2 ^ 128) → ∀ x ∈ z0i nd em l, x < 2 ^ 128
 | 0, l, h, _ => by obtain rfl := List.eq_nil_of_length_eq_zero (Nat.le_zero.1 h); rw [z2w]; intro x hx; simp at hx
 | k + 1, l, h, hl => by
  by_cases h0 : l = []
  ·subst h0; rw [z2w]; intro x hx; simp at hx
  ·rw [z4z nd em h0]
   have hb := zaj l.length
   have hp := zd3 h0
   intro x hx
   rcases List.mem_cons.1 hx with rfl | hx
   ·exact z7u N _ _ (Nat.le_refl _) (fun y hy => hl y (List.mem_of_mem_take hy))
   ·exact zft N k _ (by rw [List.length_drop]; omega) (fun y hy => hl y (List.mem_of_mem_drop hy)) x hx
theorem z4g.take {W : World} {A : Option Addr} {n : Nat} {l : List EvR} (h : z4g W A n l) {k : Nat} (hk : k ≤ n) : z4g W A k (l.take k) := by
 have hl := h.len
 refine ⟨by rw [List.length_take]; omega, ?_, fun r hr => h.ok r (List.mem_of_mem_take hr)⟩
 have := h.rd.take (k := k * 25) (Nat.mul_le_mul_right 25 hk)
 rw [zck z2t l k (by omega)] at this
 exact this
theorem zpp (l : List EvR) (k : Nat) : ye (l.take k) = (ye l).take k := by simp [ye, List.map_take]
theorem zj5 (l : List EvR) (k : Nat) (hk : k ≤ l.length) : z2d (ye (l.take k)) = z1b (ye l) k := by
 unfold z2d z1b
 rw [z2u, List.length_take, Nat.min_eq_left hk]
 by_cases h : k = 0
 ·subst h; rfl
 ·rw [if_neg h, if_neg h, zpp, List.getElem?_take, if_pos (by omega)]
theorem zjt (l : List EvR) (k : Nat) (hk : k < l.length) : z2p k (z1b (ye l) k) ((ye l).drop k) = (if follows (ye (l.take k)) l[k].e = 0 then z2p (k + 1) (z1b (ye l) (k + 1)) ((ye l).drop (k + 1)) else false) := by
 have h1 : (ye l).drop k = l[k].e :: (ye l).drop (k + 1) := by
  rw [List.drop_eq_getElem_cons (by rw [z2u]; exact hk)]
  simp [ye]
 rw [h1, z2p]
 unfold follows
 rw [z2u, List.length_take, Nat.min_eq_left (by omega), zj5 l k (by omega), zes l k hk]
theorem zjs (l : List EvR) : z2p l.length (z1b (ye l) l.length) ((ye l).drop l.length) = true := by
 rw [List.drop_of_length_le (by rw [z2u]; exact Nat.le_refl _)]; rfl
theorem ziw (H : He) (o : Int) (ev : List Ev) (la : Int) (l : List Hd) (k : Nat) (hk : k < l.length) : z1w H o ev la (l.drop k) = (if l[k].office = o ∧ la ≤ l[k].commit ∧ l[k].commit ≤ ev.length ∧ l[k].day = z1b ev l[k].commit.toNat ∧ root H.nd H.em ((z00 H ev).take l[k].commit.toNat) = l[k].root then z1w H o ev l[k].commit (l.drop (k + 1)) else false) := by
 rw [List.drop_eq_getElem_cons hk, z1w]
theorem z6w (a b : Int) : (a < b ∧ decide (a < b) = true) ∨ (¬ a < b ∧ decide (a < b) = false) := by
 by_cases h : a < b
 ·exact .inl ⟨h, decide_eq_true h⟩
 ·exact .inr ⟨h, decide_eq_false h⟩
theorem zwn {ops : Array Oper} {a : Act} {o : Oper} {w : World} {rest : List Oper} {Q : Exit → Act → World → Prop} {x y : Operand} {p q : Fc} {u : TypeId} {b : Bool} (hw : Region.wanted o (yielded ops a.tmps) = true) (ho : o.op = .binOp .eql 29 x y u) (hx : a.eval x = fcV p) (hy : a.eval y = fcV q) (hp : p.blind < 2 ^ 128) (hq : q.blind < 2 ^ 128) (hb : decide (p = q) = b)
  (hg : ∀ W, (eqGuard .eql 29 x y (fcV p) (fcV q)).run Tryz.prog W = .ok () W) (h : wpList Tryz.prog ops Q rest (a.put o.dst (.bool b)) w) : wpList Tryz.prog ops Q (o :: rest) a w := by
 refine z8n hw fun K hK => ?_
 unfold Oper.wp execOp
 simp only [ho, hx, hy, Sem.run_bind, hg, zid hp hq, Result.andThen_ok, Sem.run_pure, hb]
 exact hK _ _ h
theorem zwo {ops : Array Oper} {a : Act} {o : Oper} {w : World} {rest : List Oper} {Q : Exit → Act → World → Prop} {x y : Operand} {p q : Hd} {u : TypeId} {b : Bool} (hw : Region.wanted o (yielded ops a.tmps) = true) (ho : o.op = .binOp .eql 51 x y u) (hx : a.eval x = hdV p) (hy : a.eval y = hdV q) (hp : z0k p) (hq : z0k q) (hb : decide (p = q) = b)
  (hg : ∀ W, (eqGuard .eql 51 x y (hdV p) (hdV q)).run Tryz.prog W = .ok () W) (h : wpList Tryz.prog ops Q rest (a.put o.dst (.bool b)) w) : wpList Tryz.prog ops Q (o :: rest) a w := by
 refine z8n hw fun K hK => ?_
 unfold Oper.wp execOp
 simp only [ho, hx, hy, Sem.run_bind, hg, zie hp hq, Result.andThen_ok, Sem.run_pure, hb]
 exact hK _ _ h
theorem zv0 (a b : ShR) (w : World) (h : b.s = a.s) (ka : z28 w a) (kb : z28 w b) (ha : a.n ≤ 1000000) (hb : b.n ≤ 1000000) :
  Calls Tryz.prog 33 #[shV a, shV b] w (BIs true w) := by
 obtain ⟨wa, hwa, hb0, q1, q2⟩ := z88 w (shC a) (shC b) 63 63
 have HWA := ya hwa
 have HS := ya (fun W (hw : Below w.heap.size w W) => zge a.s.path b.s.path a.A a.n a.c b.A b.n b.c W (ka.below hw).rd (kb.below hw).rd ha hb ka.lt kb.lt)
 have fa := z6h q1
 have fb := z6h q2
 have pa := zdi q1
 have pb := zdi q2
 have da := zdl q1
 have db := zdl q2
 rw [h] at fb db
 have hbl := ka.bl
 have hlt := ka.hd
 rw [show decide (a.s.path = b.s.path) = true from decide_eq_true (by rw [h])] at HS
 have hfl := z39 a.s.face
 have hhl := z1v a.s.head
 clear hwa q1 q2 ka kb h
 unfold BIs
 go_enter Tryz.func33, Tryz.ntmps33
 go_upto_region 1 with fail
 change Code.wp _ _ _ _ ((w.alloc (.cells (shC a) 63)).alloc (.cells (shC b) 63))
 rw [← HWA.out]
 go_wp2_with (first
  | ((with_reducible show sl 6); refine yj (us := fcL a.s.face) rfl rfl rfl z1a (by rw [z0d, hfl]) fa ?_)
  | ((with_reducible show sl 8); refine yj (us := fcL a.s.face) rfl rfl rfl z1a (by rw [z0d, hfl]) fb ?_)
  | ((with_reducible show sl 9); refine zwn (p := a.s.face) (q := a.s.face) (b := true) (by rfl) rfl rfl rfl hbl hbl (decide_eq_true rfl) (fun W => by kernel_rfl) ?_)
  | ((with_reducible show sl 12); refine wpList_loadW (by rfl) rfl rfl (by kernel_rfl) pa ?_)
  | ((with_reducible show sl 14); refine wpList_loadW (by rfl) rfl rfl (by kernel_rfl) pb ?_))
 refine (HS.out _ hb0).mono ?_
 rintro e w1 ⟨rfl, hb1⟩
 replace da := fun j u h => cell_later hb1 (da j u h)
 replace db := fun j u h => cell_later hb1 (db j u h)
 go_wp2_with (first
  | ((with_reducible show sl 19); refine z0s (us := hdL a.s.head) (by rfl) rfl rfl yz (by rw [yt, hhl]) da ?_)
  | ((with_reducible show sl 21); refine z0s (us := hdL a.s.head) (by rfl) rfl rfl yz (by rw [yt, hhl]) db ?_)
  | ((with_reducible show sl 22); refine zwo (p := a.s.head) (q := a.s.head) (b := true) (by rfl) rfl rfl rfl hlt hlt (decide_eq_true rfl) (fun W => by kernel_rfl) ?_))
 go_ret
 exact ⟨rfl, yb hb0 hb1⟩
theorem zbw {ops : Array Oper} {S : World → Prop} {o : Oper} {a : Act} {x y : Operand} {p q : Nat} {u : TypeId} {b : Bool} (hw : Region.wanted o (yielded ops a.tmps) = true) (ho : o.op = .binOp .neq 25 x y u) (hx : a.eval x = dgV p) (hy : a.eval y = dgV q) (hp : p < 2 ^ 128) (hq : q < 2 ^ 128) (hb : (!decide (p = q)) = b)
  (hg : ∀ W, (eqGuard .neq 25 x y (dgV p) (dgV q)).run Tryz.prog W = .ok () W) : YieldsIf Tryz.prog ops S o (.bool b) a := by
 refine .inl ⟨hw, fun w hS => ?_⟩
 unfold execOp
 simp only [ho, hx, hy, Sem.run_bind, hg, z8e hp hq, Result.andThen_ok, Sem.run_pure, hb]
theorem zw3 {H : He} (L : Les H) (r : LgR) (w : World) (h : z0l w r) (hn : r.en ≤ 1000000) (hhn : r.hn ≤ 1000000) (htn : r.tn ≤ 1000) (hf : z3x r.es) (hg : GCon w) (hgb : GBru w) :
  Calls Tryz.prog 22 #[lgV r] w (BIs (z5i H (yx r)) w) := by
 obtain ⟨wa, hwa, hb0, q0⟩ := z8d w r
 have HWA := ya hwa
 have HQ0 := ya (fun W (h : Below wa.heap.size wa W) => q0.below h)
 have HOF := ya (fun W => zjr r.o W)
 have HEL := ya h.ev.len
 have HHL := ya h.hd.len
 have HTL := ya h.tp.len
 have HE := ya (fun j (hj : j < r.es.length) W (hb : Below w.heap.size w W) => (h.ev.below hb).elem hj)
 have HHE := ya (fun j (hj : j < r.hs.length) W (hb : Below w.heap.size w W) => (h.hd.below hb).elem hj)
 have HFO := ya (fun j (hj : j < r.es.length) W (hb : Below w.heap.size w W) => zip (r.es.take j) r.eA j r.ec r.es[j] W ((h.ev.below hb).take (by have := h.ev.len; omega)) (by have := h.ev.len; omega))
 have HLV := ya (fun W (hb : Below w.heap.size w W) => zfc L r r.en W (h.below hb) (Nat.le_refl _) hn hf (hg.below hb))
 have HDY := ya (fun k (hk : k ≤ r.en) W (hb : Below w.heap.size w W) => zi3 r k W (h.below hb) hk hn)
 have HRT := ya (fun l A n c W (hn' : n ≤ 1000000) (hr : RdD W A n l) (hnc : n ≤ c) (hcm : c ≤ maxLen) (hb : Below w.heap.size w W) => z9t L.nds n l A n c W (Nat.le_refl _) hn' hr hnc hcm (hg.below hb))
 have HRLt := ya (fun l (hl : ∀ x ∈ l, x < 2 ^ 128) => z7u L.nds _ l (Nat.le_refl _) hl)
 have HLL := ya (zb0 L (ye r.es))
 have HHD := ya h.hl
 have HAP := ya (fun s x A m c tl W (h : Below w.heap.size w W) (hm : m ≤ 1000) hq h1 h2 => zh9 L.nds s x A m c tl W hm hq h1 h2 (hg.below h) (hgb.below h))
 have HP := ya (fun l' x (h : l'.length < 1099511627776) => zc5 H.nd H.em l' x h)
 have HPF := ya (fun l' (h : l'.length < 1099511627776) => (zd2 H.nd H.em l' h).1)
 have HPL := ya (fun l hl => zft L.nds _ l (Nat.le_refl _) hl)
 have HEQ := ya (fun a A n c W (hb : Below w.heap.size w W) (ha : RdD W A n a) (hn' : n ≤ 1000000) (hl : ∀ x ∈ a, x < 2 ^ 128) => zpo a r.ts A n c r.tA r.tn r.tc W ha (h.below hb).tp hn' (by omega) hl h.tl)
 have HK1 := ya (fun k (hk : k < r.es.length) => zjt r.es k hk)
 have HK2 := ya (zjs r.es)
 have HKH := ya (fun la k (hk : k < r.hs.length) => ziw H r.o (ye r.es) la r.hs k hk)
 have HV : Hid (z5i H (yx r) = (decide (0 ≤ r.o ∧ r.o < 32 ∧ (ye r.es).length ≤ 65536) && (z2p 0 0 (ye r.es) && (z1w H r.o (ye r.es) 0 r.hs && (decide (r.s = ((ye r.es).length : Int)) && decide (z0i H.nd H.em (z00 H (ye r.es)) = r.ts)))))) := ya rfl
 have HLN := ya (zay H (ye r.es))
 have HTK : Hid ((ye r.es).take r.en = ye r.es) := ya (List.take_of_length_le (by rw [z2u, h.ev.len]; exact Nat.le_refl _))
 have HEN : Hid (∀ k, k ≤ r.en → k ≤ r.ec) := ya (fun k hk => by have := h.ec; omega)
 have hec := h.ec
 have h5 := z5b r
 have h36 := z1v
 have h25 := z2t
 have c0 := z67 q0
 have c1 := z3v q0
 have HLE : Hid ((ye r.es).length = r.en) := ya (by rw [z2u, h.ev.len])
 rw [HLE.out] at HV
 clear hwa q0 h hf hg hgb L
 generalize z5i H (yx r) = X at *
 unfold BIs
 by_cases hoff : 0 ≤ r.o ∧ r.o < 32
 rotate_left
 ·have dof : decide (0 ≤ r.o ∧ r.o < 32) = false := by rw [decide_eq_false_iff_not]; exact hoff
  have hX : X = false := by
   rw [HV.out, show decide (0 ≤ r.o ∧ r.o < 32 ∧ r.en ≤ 65536) = false by rw [decide_eq_false_iff_not]; intro h; exact hoff ⟨h.1, h.2.1⟩]; rfl
  subst hX
  rw [dof] at HOF
  clear HV HFO HLV HDY HRT HRLt HAP HP HPF HPL HEQ HK1 HK2 HKH HE HHE hoff
  go_enter Tryz.func22, Tryz.ntmps22
  go_upto_region 1 with fail
  change Code.wp _ _ _ _ (w.alloc (.cells (lgC r) 42))
  rw [← HWA.out]
  go_wp2_with fail
  refine (HOF.out _).mono ?_
  rintro e w1 ⟨rfl, hw1⟩
  subst hw1
  go_wp2_with fail
  go_ret
  exact ⟨rfl, hb0⟩
 have dof : decide (0 ≤ r.o ∧ r.o < 32) = true := by rw [decide_eq_true_eq]; exact hoff
 rw [dof] at HOF
 by_cases hbig : r.en ≤ 65536
 rotate_left
 ·have hX : X = false := by
   rw [HV.out, show decide (0 ≤ r.o ∧ r.o < 32 ∧ r.en ≤ 65536) = false by rw [decide_eq_false_iff_not]; intro h; exact hbig h.2.2]; rfl
  subst hX
  have dn : decide ((65536 : Int) < (r.en : Int)) = true := by rw [decide_eq_true_eq]; omega
  have dn2 : decide (65536 < r.en) = true := by rw [decide_eq_true_eq]; omega
  have HN : Hid (r.en ≤ 1000000) := ya hn
  clear HV HFO HLV HDY HRT HRLt HAP HP HPF HPL HEQ HK1 HK2 HKH HE HHE hoff hbig hn dof hec
  obtain ⟨N, hN⟩ : ∃ N, r.en = N := ⟨_, rfl⟩
  rw [hN] at c1 dn dn2
  clear hN
  go_enter Tryz.func22, Tryz.ntmps22
  go_upto_region 1 with fail
  change Code.wp _ _ _ _ (w.alloc (.cells (lgC r) 42))
  rw [← HWA.out]
  go_wp2_with fail
  refine (HOF.out _).mono ?_
  rintro e w1 ⟨rfl, hw1⟩
  subst hw1
  go_wp2_with fail
  go_ret
  exact ⟨rfl, hb0⟩
 have HX : Hid (X = (z2p 0 0 (ye r.es) && (z1w H r.o (ye r.es) 0 r.hs && (decide (r.s = (r.en : Int)) && decide (z0i H.nd H.em (z00 H (ye r.es)) = r.ts))))) := ya (by
  rw [HV.out, show decide (0 ≤ r.o ∧ r.o < 32 ∧ r.en ≤ 65536) = true by rw [decide_eq_true_eq]; exact ⟨hoff.1, hoff.2, hbig⟩, Bool.true_and])
 have dn : decide ((65536 : Int) < (r.en : Int)) = false := by rw [decide_eq_false_iff_not]; omega
 have dn2 : decide (65536 < r.en) = false := by rw [decide_eq_false_iff_not]; omega
 clear HV hoff dof
 obtain ⟨N, hN⟩ : ∃ N, r.en = N := ⟨_, rfl⟩
 rw [hN] at c1 dn dn2 hn hec hbig HX HLE HEL HLV HDY HTK HEN
 have HNN := ya hN
 obtain ⟨EA, hEA⟩ : ∃ x, r.eA = x := ⟨_, rfl⟩
 rw [hEA] at c1 HE HFO
 have HEA := ya hEA
 obtain ⟨HA, hHA⟩ : ∃ x, r.hA = x := ⟨_, rfl⟩
 rw [hHA] at HHE
 have HHA := ya hHA
 clear hN hEA hHA
 go_enter Tryz.func22, Tryz.ntmps22
 go_upto_region 1 with fail
 change Code.wp _ _ _ _ (w.alloc (.cells (lgC r) 42))
 rw [← HWA.out]
 go_wp2_with fail
 refine (HOF.out _).mono ?_
 rintro e w1 ⟨rfl, hw1⟩
 subst hw1
 go_wp2_with fail
 clear HOF dn dn2
 go_loopw [25] (fun v25 wr => ∃ k : Nat, v25 = .int .i64 (k : Int) ∧ k ≤ N ∧ Below w1.heap.size w1 wr ∧ Hid (z2p 0 0 (ye r.es) = z2p k (z1b (ye r.es) k) ((ye r.es).drop k))) (fun v25 _ => N - (intOf v25).toNat)
 case atStart => exact ⟨0, rfl, by omega, Below.refl _ _, ya rfl⟩
 case round =>
  obtain ⟨k, rfl, hk, hbw, HG⟩ := hrel
  by_cases hlt : k < N
  ·have hke : k < r.es.length := by rw [HEL.out]; exact hlt
   have dj : decide ((k : Int) < (N : Int)) = true := by rw [decide_eq_true_eq]; omega
   obtain ⟨ad, rfl, hce⟩ := HE.out k hke wr (yb hb0 hbw)
   have HFk := ya (HFO.out k hke)
   have HSk := ya (HK1.out k hke)
   have hkc : k ≤ r.ec := by omega
   generalize r.es[k] = ev at *
   generalize follows (ye (r.es.take k)) ev.e = FK at *
   have y1 := z3v (HQ0.out _ hbw)
   rw [HNN.out, HEA.out] at y1
   have h25v := h25 ev
   clear HFO HLV HDY HRT HRLt HAP HP HPF HPL HEQ HK1 HKH HHE HE hke
   go_upto_region 6 with (first
    | ((with_reducible show sl 29); refine yj (us := evL ev) rfl rfl rfl z29 (by rw [z1z, h25v]) hce ?_)
    | ((with_reducible show sl 4); refine z0t rfl rfl ze2 ?_; intro w3 g3 hg3 b3 hb3 lt3; have hg3' : wr.heap.size ≤ g3 := (by omega); clear hg3 lt3)
    | ((with_reducible show sn); refine z01 (vs := evC ev) rfl rfl rfl rfl b3 (by rw [z47, z47]) (by rw [z1z, z47]) (zcw _) ?_; intro w4 ht4 b4))
   have hb4 : Below wr.heap.size wr w4 := hb3.trans (ht4.below _ hg3')
   have hc4 := yv (xs := evL ev) b4
   replace y1 := cell_later hb4 y1
   replace hbw := yb hbw hb4
   clear b3 hb3 ht4 b4 hg3' hce hb4
   have hS : Below w4.heap.size w4 w4.drew := (Below.refl _ _).drew
   rcases z6m FK with ⟨zf, e1, f1, d1⟩ | ⟨zf, e1, f1, d1⟩
   ·have HG2 : Hid (z2p 0 0 (ye r.es) = z2p (k + 1) (z1b (ye r.es) (k + 1)) ((ye r.es).drop (k + 1))) := ya (by rw [HG.out, HSk.out, if_pos zf])
    clear HG HSk zf HX
    refine yq 7 (by kernel_rfl) ?_
    refine WpT.tk 0 hS ?_
    simp only [nrm]
    refine WpT.tl 1 rfl (yh rfl rfl rfl (by kernel_rfl) y1) hS ?_
    simp only [nrm]
    refine WpT.tk 2 hS ?_
    simp only [nrm]
    refine WpT.tl 3 rfl (ze1 (s := 25) (by rfl) rfl (by kernel_rfl) (by kernel_rfl) (by rfl) (by rfl) hkc) hS ?_
    simp only [nrm]
    refine WpT.tl 4 rfl (z07 (us := evL ev) rfl rfl rfl z29 (by rw [z1z, h25v]) hc4) hS ?_
    simp only [nrm]
    refine WpT.on 5 rfl (fun K hK => ?_)
    go_simp; refine (HFk.out _ (yb hb0 (yb hbw hS))).mono ?_; rintro e w5 ⟨rfl, hb5⟩; replace hS := yb hS hb5
    refine hK _ _ hS ?_; clear hK K; try simp only [nrm]
    refine WpT.tk 6 hS ?_
    simp only [nrm]
    refine WpT.done (by kernel_rfl) ?_ _
    skip
    go_wp2_with fail
    exact ⟨⟨k + 1, by go_num, by omega, yb hbw hS, HG2⟩, by simp [intOf]; omega⟩
   ·have hX : X = false := by rw [HX.out, HG.out, HSk.out, if_neg zf, Bool.false_and]
    subst hX
    clear HG HSk zf HX
    refine yq 7 (by kernel_rfl) ?_
    refine WpT.tk 0 hS ?_
    simp only [nrm]
    refine WpT.tl 1 rfl (yh rfl rfl rfl (by kernel_rfl) y1) hS ?_
    simp only [nrm]
    refine WpT.tk 2 hS ?_
    simp only [nrm]
    refine WpT.tl 3 rfl (ze1 (s := 25) (by rfl) rfl (by kernel_rfl) (by kernel_rfl) (by rfl) (by rfl) hkc) hS ?_
    simp only [nrm]
    refine WpT.tl 4 rfl (z07 (us := evL ev) rfl rfl rfl z29 (by rw [z1z, h25v]) hc4) hS ?_
    simp only [nrm]
    refine WpT.on 5 rfl (fun K hK => ?_)
    go_simp; refine (HFk.out _ (yb hb0 (yb hbw hS))).mono ?_; rintro e w5 ⟨rfl, hb5⟩; replace hS := yb hS hb5
    refine hK _ _ hS ?_; clear hK K; try simp only [nrm]
    refine WpT.tk 6 hS ?_
    simp only [nrm]
    refine WpT.done (by kernel_rfl) ?_ _
    skip
    go_wp2_with fail
    go_ret
    exact ⟨rfl, yb hb0 (yb hbw hS)⟩
  ·obtain rfl : k = N := by omega
   have HX2 : Hid (X = (z1w H r.o (ye r.es) 0 r.hs && (decide (r.s = (k : Int)) && decide (z0i H.nd H.em (z00 H (ye r.es)) = r.ts)))) := ya (by
    have := HK2.out
    rw [HEL.out] at this
    rw [HX.out, HG.out, this, Bool.true_and])
   clear HX HG HK1 HK2 HFO HE
   have zr := z11 (HQ0.out _ hbw)
   have z1 := z3v (HQ0.out _ hbw)
   rw [HNN.out, HEA.out] at z1
   go_wp2_with ((with_reducible show sl 38); refine yj (us := lgL r) rfl rfl rfl z04 (by rw [yy, h5]) zr ?_)
   refine (HLV.out _ (yb hb0 hbw)).mono ?_
   rintro e w2 ⟨v2, rfl, o2, hb2⟩
   rw [HTK.out] at o2
   obtain ⟨A5, c5, rfl, n5, m5, r5⟩ := yg.formN o2 (HLN.out.trans HLE.out)
   replace hbw := yb hbw hb2
   have y3 := z68 (HQ0.out _ hbw)
   rw [HHA.out] at y3
   have HR5 := ya (fun W (hb : Below w2.heap.size w2 W) => r5.below hb)
   clear o2 r5 zr z1 hb2 HLV c0 c1
   go_wp2_with fail
   clear y3
   go_loopw [6, 46] (fun v6 v46 wr2 => ∃ (q : Nat) (la : Int), v6 = .int .i64 la ∧ v46 = .int .i64 (q : Int) ∧ q ≤ r.hn ∧ 0 ≤ la ∧ Hid (z1w H r.o (ye r.es) 0 r.hs = z1w H r.o (ye r.es) la (r.hs.drop q)) ∧ Below w2.heap.size w2 wr2) (fun _ v46 _ => r.hn - (intOf v46).toNat)
   case atStart => exact ⟨0, 0, rfl, rfl, by omega, by omega, ya rfl, Below.refl _ _⟩
   case round =>
    obtain ⟨q, la, rfl, rfl, hq, hla, HH, hbw2⟩ := hrel
    by_cases hlq : q < r.hn
    ·have hqe : q < r.hs.length := by rw [HHL.out]; exact hlq
     have dj : decide ((q : Int) < (r.hn : Int)) = true := by rw [decide_eq_true_eq]; omega
     obtain ⟨hd_, rfl, hce⟩ := HHE.out q hqe wr (yb hb0 (yb hbw hbw2))
     have HSq := ya (HKH.out la q hqe)
     have hhl := HHD.out _ (List.getElem_mem hqe)
     generalize r.hs[q] = hd at *
     have h36h := h36 hd
     have HRL : Hid (root H.nd H.em ((z00 H (ye r.es)).take hd.commit.toNat) < 2 ^ 128 ∧ hd.root < 2 ^ 128) := ya ⟨HRLt.out _ (fun x hx => HLL.out x (List.mem_of_mem_take hx)), hhl.root⟩
     clear HHE hqe hhl HAP HP HPF HPL HEQ HKH HRLt
     go_upto_region 14 with (first
      | ((with_reducible show sl 49); refine yj (us := hdL hd) rfl rfl rfl yz (by rw [yt, h36h]) hce ?_)
      | ((with_reducible show sl 8); refine z17 (z := hdC z3p) (vs := hdC hd) rfl rfl rfl rfl (z4p _) (fun _ => rfl) (fun _ => rfl) (by rw [z4v, z4v]) (by rw [yt, z4v]) (z4m _) ?_; intro w3 g3 hg3 b3 hb3 lt3; clear hg3 lt3))
     replace hbw2 := yb hbw2 hb3
     have y0 := z67 (HQ0.out _ (yb hbw hbw2))
     have yr := z11 (HQ0.out _ (yb hbw hbw2))
     have z0 := z31 b3
     have z1 := z1k b3
     have z2 := z32 b3
     have z3 := z3a b3
     have HB3 := ya (fun W (hb : Below w3.heap.size w3 W) => z1k (b3.below hb))
     have hb0' := yb hb0 (yb hbw hbw2)
     clear b3 hb3 hce
     have hb0w := hb0
     replace hb0 := hb0'
     clear hb0'
     have hS : Below w3.heap.size w3 w3.drew := (Below.refl _ _).drew
     rcases z48 hd.office r.o with ⟨t1, e1, f1, d1⟩ | ⟨t1, e1, f1, d1⟩
     rotate_left
     ·have hX : X = false := by rw [HX2.out, HH.out, HSq.out, if_neg (fun h => t1 h.1), Bool.false_and]
      subst hX
      clear HX2 HH HSq t1
      refine yq 37 (by kernel_rfl) ?_
      refine WpT.tk 0 hS ?_
      simp only [nrm]
      refine WpT.tl 1 rfl (yh rfl rfl rfl (by kernel_rfl) z0) hS ?_
      simp only [nrm]
      refine WpT.tk 2 hS ?_
      simp only [nrm]
      refine WpT.tl 3 rfl (yh rfl rfl rfl (by kernel_rfl) y0) hS ?_
      simp only [nrm]
      refine WpT.tk 4 hS ?_
      simp only [nrm]
      refine WpT.tk 5 hS ?_
      simp only [nrm]
      refine WpT.of [(6, 56), (7, 57), (8, 58)] (hS) ?_
      simp only [nrm]
      refine WpT.of [(9, 59)] (hS) ?_
      simp only [nrm]
      refine WpT.tk 10 hS ?_
      simp only [nrm]
      refine WpT.tk 11 hS ?_
      simp only [nrm]
      refine WpT.of [(12, 62), (13, 63), (14, 64)] (hS) ?_
      simp only [nrm]
      refine WpT.of [(15, 65), (16, 66)] (hS) ?_
      simp only [nrm]
      refine WpT.tk 17 hS ?_
      simp only [nrm]
      refine WpT.tk 18 hS ?_
      simp only [nrm]
      refine WpT.of [(19, 69), (20, 70), (21, 71)] (hS) ?_
      simp only [nrm]
      refine WpT.of [(22, 72), (23, 73), (24, 74)] (hS) ?_
      simp only [nrm]
      refine WpT.of [(25, 75)] (hS) ?_
      simp only [nrm]
      refine WpT.tk 26 hS ?_
      simp only [nrm]
      refine WpT.tk 27 hS ?_
      simp only [nrm]
      refine WpT.of [(28, 78), (29, 79), (30, 80)] (hS) ?_
      simp only [nrm]
      refine WpT.of [(31, 81), (32, 82), (33, 83)] (hS) ?_
      simp only [nrm]
      refine WpT.of [(34, 84), (35, 85)] (hS) ?_
      simp only [nrm]
      refine WpT.tk 36 hS ?_
      simp only [nrm]
      refine WpT.done (by kernel_rfl) ?_ _
      skip
      go_wp2_with fail
      go_ret
      exact ⟨rfl, yb hb0 hS⟩
     rcases z9f la hd.commit with ⟨t2, e2, f2⟩ | ⟨t2, e2, f2⟩
     rotate_left
     ·have hX : X = false := by rw [HX2.out, HH.out, HSq.out, if_neg (fun h => t2 h.2.1), Bool.false_and]
      subst hX
      clear HX2 HH HSq t1 t2
      refine yq 37 (by kernel_rfl) ?_
      refine WpT.tk 0 hS ?_
      simp only [nrm]
      refine WpT.tl 1 rfl (yh rfl rfl rfl (by kernel_rfl) z0) hS ?_
      simp only [nrm]
      refine WpT.tk 2 hS ?_
      simp only [nrm]
      refine WpT.tl 3 rfl (yh rfl rfl rfl (by kernel_rfl) y0) hS ?_
      simp only [nrm]
      refine WpT.tk 4 hS ?_
      simp only [nrm]
      refine WpT.tk 5 hS ?_
      simp only [nrm]
      refine WpT.tk 6 hS ?_
      simp only [nrm]
      refine WpT.tl 7 rfl (z13 (by rfl) rfl rfl (by kernel_rfl) z1) hS ?_
      simp only [nrm]
      refine WpT.tk 8 hS ?_
      simp only [nrm]
      refine WpT.tk 9 hS ?_
      simp only [nrm]
      refine WpT.tk 10 hS ?_
      simp only [nrm]
      refine WpT.tk 11 hS ?_
      simp only [nrm]
      refine WpT.of [(12, 62), (13, 63), (14, 64)] (hS) ?_
      simp only [nrm]
      refine WpT.of [(15, 65), (16, 66)] (hS) ?_
      simp only [nrm]
      refine WpT.tk 17 hS ?_
      simp only [nrm]
      refine WpT.tk 18 hS ?_
      simp only [nrm]
      refine WpT.of [(19, 69), (20, 70), (21, 71)] (hS) ?_
      simp only [nrm]
      refine WpT.of [(22, 72), (23, 73), (24, 74)] (hS) ?_
      simp only [nrm]
      refine WpT.of [(25, 75)] (hS) ?_
      simp only [nrm]
      refine WpT.tk 26 hS ?_
      simp only [nrm]
      refine WpT.tk 27 hS ?_
      simp only [nrm]
      refine WpT.of [(28, 78), (29, 79), (30, 80)] (hS) ?_
      simp only [nrm]
      refine WpT.of [(31, 81), (32, 82), (33, 83)] (hS) ?_
      simp only [nrm]
      refine WpT.of [(34, 84), (35, 85)] (hS) ?_
      simp only [nrm]
      refine WpT.tk 36 hS ?_
      simp only [nrm]
      refine WpT.done (by kernel_rfl) ?_ _
      skip
      go_wp2_with fail
      go_ret
      exact ⟨rfl, yb hb0 hS⟩
     rcases z9f hd.commit (k : Int) with ⟨t3, e3, f3⟩ | ⟨t3, e3, f3⟩
     rotate_left
     ·have hX : X = false := by rw [HX2.out, HH.out, HSq.out, if_neg (fun h => t3 (by have := h.2.2.1; rw [HLE.out] at this; exact this)), Bool.false_and]
      subst hX
      clear HX2 HH HSq t1 t2 t3
      refine yq 37 (by kernel_rfl) ?_
      refine WpT.tk 0 hS ?_
      simp only [nrm]
      refine WpT.tl 1 rfl (yh rfl rfl rfl (by kernel_rfl) z0) hS ?_
      simp only [nrm]
      refine WpT.tk 2 hS ?_
      simp only [nrm]
      refine WpT.tl 3 rfl (yh rfl rfl rfl (by kernel_rfl) y0) hS ?_
      simp only [nrm]
      refine WpT.tk 4 hS ?_
      simp only [nrm]
      refine WpT.tk 5 hS ?_
      simp only [nrm]
      refine WpT.tk 6 hS ?_
      simp only [nrm]
      refine WpT.tl 7 rfl (z13 (by rfl) rfl rfl (by kernel_rfl) z1) hS ?_
      simp only [nrm]
      refine WpT.tk 8 hS ?_
      simp only [nrm]
      refine WpT.tk 9 hS ?_
      simp only [nrm]
      refine WpT.tk 10 hS ?_
      simp only [nrm]
      refine WpT.tk 11 hS ?_
      simp only [nrm]
      refine WpT.tk 12 hS ?_
      simp only [nrm]
      refine WpT.tl 13 rfl (z13 (by rfl) rfl rfl (by kernel_rfl) z1) hS ?_
      simp only [nrm]
      refine WpT.tk 14 hS ?_
      simp only [nrm]
      refine WpT.tk 15 hS ?_
      simp only [nrm]
      refine WpT.tk 16 hS ?_
      simp only [nrm]
      refine WpT.tk 17 hS ?_
      simp only [nrm]
      refine WpT.tk 18 hS ?_
      simp only [nrm]
      refine WpT.of [(19, 69), (20, 70), (21, 71)] (hS) ?_
      simp only [nrm]
      refine WpT.of [(22, 72), (23, 73), (24, 74)] (hS) ?_
      simp only [nrm]
      refine WpT.of [(25, 75)] (hS) ?_
      simp only [nrm]
      refine WpT.tk 26 hS ?_
      simp only [nrm]
      refine WpT.tk 27 hS ?_
      simp only [nrm]
      refine WpT.of [(28, 78), (29, 79), (30, 80)] (hS) ?_
      simp only [nrm]
      refine WpT.of [(31, 81), (32, 82), (33, 83)] (hS) ?_
      simp only [nrm]
      refine WpT.of [(34, 84), (35, 85)] (hS) ?_
      simp only [nrm]
      refine WpT.tk 36 hS ?_
      simp only [nrm]
      refine WpT.done (by kernel_rfl) ?_ _
      skip
      go_wp2_with fail
      go_ret
      exact ⟨rfl, yb hb0 hS⟩
     obtain ⟨kc, hkc⟩ : ∃ kc : Nat, hd.commit = kc := ⟨hd.commit.toNat, by omega⟩
     have hkcn : kc ≤ k := by omega
     have HKC := ya hkc
     have HDYk := ya (HDY.out kc hkcn)
     have HSq2 : Hid (z1w H r.o (ye r.es) la (r.hs.drop q) = (if hd.day = z1b (ye r.es) kc ∧ root H.nd H.em ((z00 H (ye r.es)).take kc) = hd.root then z1w H r.o (ye r.es) (kc : Int) (r.hs.drop (q + 1)) else false)) := ya (by
      rw [HSq.out]
      by_cases hh : hd.day = z1b (ye r.es) kc ∧ root H.nd H.em ((z00 H (ye r.es)).take kc) = hd.root
      ·rw [if_pos hh, if_pos ⟨t1, t2, by rw [HLE.out]; exact t3, by rw [hkc, Int.toNat_natCast]; exact hh.1, by rw [hkc, Int.toNat_natCast]; exact hh.2⟩, hkc]
      ·rw [if_neg hh, if_neg (fun h => hh ⟨by have := h.2.2.2.1; rwa [hkc, Int.toNat_natCast] at this, by have := h.2.2.2.2; rwa [hkc, Int.toNat_natCast] at this⟩)])
     rw [hkc, Int.toNat_natCast] at HRL
     rw [hkc] at z1 e2 f2 e3 f3 HB3 t2
     have f3n : decide (k < kc) = false := by rw [decide_eq_false_iff_not]; omega
     generalize z1b (ye r.es) kc = DK at *
     clear HSq t1 t3 hkc HDY
     rcases z48 hd.day DK with ⟨t4, e4, f4, d4⟩ | ⟨t4, e4, f4, d4⟩
     rotate_left
     ·have hX : X = false := by rw [HX2.out, HH.out, HSq2.out, if_neg (fun h => t4 h.1), Bool.false_and]
      subst hX
      clear HX2 HH HSq2 t4 t2
      refine yq 37 (by kernel_rfl) ?_
      refine WpT.tk 0 hS ?_
      simp only [nrm]
      refine WpT.tl 1 rfl (yh rfl rfl rfl (by kernel_rfl) z0) hS ?_
      simp only [nrm]
      refine WpT.tk 2 hS ?_
      simp only [nrm]
      refine WpT.tl 3 rfl (yh rfl rfl rfl (by kernel_rfl) y0) hS ?_
      simp only [nrm]
      refine WpT.tk 4 hS ?_
      simp only [nrm]
      refine WpT.tk 5 hS ?_
      simp only [nrm]
      refine WpT.tk 6 hS ?_
      simp only [nrm]
      refine WpT.tl 7 rfl (z13 (by rfl) rfl rfl (by kernel_rfl) z1) hS ?_
      simp only [nrm]
      refine WpT.tk 8 hS ?_
      simp only [nrm]
      refine WpT.tk 9 hS ?_
      simp only [nrm]
      refine WpT.tk 10 hS ?_
      simp only [nrm]
      refine WpT.tk 11 hS ?_
      simp only [nrm]
      refine WpT.tk 12 hS ?_
      simp only [nrm]
      refine WpT.tl 13 rfl (z13 (by rfl) rfl rfl (by kernel_rfl) z1) hS ?_
      simp only [nrm]
      refine WpT.tk 14 hS ?_
      simp only [nrm]
      refine WpT.tk 15 hS ?_
      simp only [nrm]
      refine WpT.tk 16 hS ?_
      simp only [nrm]
      refine WpT.tk 17 hS ?_
      simp only [nrm]
      refine WpT.tk 18 hS ?_
      simp only [nrm]
      refine WpT.tk 19 hS ?_
      simp only [nrm]
      refine WpT.tl 20 rfl (z13 (by rfl) rfl rfl (by kernel_rfl) z2) hS ?_
      simp only [nrm]
      refine WpT.tl 21 rfl (z54 (us := lgL r) (by rfl) rfl rfl z04 (by rw [yy, h5]) yr) hS ?_
      simp only [nrm]
      refine WpT.tk 22 hS ?_
      simp only [nrm]
      refine WpT.tl 23 rfl (z13 (by rfl) rfl rfl (by kernel_rfl) z1) hS ?_
      simp only [nrm]
      refine WpT.on 24 rfl (fun K hK => ?_)
      go_simp; refine (HDYk.out _ (yb hb0 hS)).mono ?_; rintro e w4 ⟨rfl, hb4⟩; replace hS := yb hS hb4
      refine hK _ _ hS ?_; clear hK K; try simp only [nrm]
      refine WpT.tk 25 hS ?_
      simp only [nrm]
      refine WpT.tk 26 hS ?_
      simp only [nrm]
      refine WpT.tk 27 hS ?_
      simp only [nrm]
      refine WpT.of [(28, 78), (29, 79), (30, 80)] (hS) ?_
      simp only [nrm]
      refine WpT.of [(31, 81), (32, 82), (33, 83)] (hS) ?_
      simp only [nrm]
      refine WpT.of [(34, 84), (35, 85)] (hS) ?_
      simp only [nrm]
      refine WpT.tk 36 hS ?_
      simp only [nrm]
      refine WpT.done (by kernel_rfl) ?_ _
      skip
      go_wp2_with fail
      go_ret
      exact ⟨rfl, yb hb0 hS⟩
     have hkc5 : kc ≤ c5 := by omega
     have HRTk := ya (fun W (hb : Below w3.heap.size w3 W) => HRT.out ((z00 H (ye r.es)).take kc) A5 kc c5 W (by omega) ((HR5.out _ (yb hbw2 hb)).take hkcn) hkc5 m5 (yb hb0 hb))
     unfold z2z at HRTk
     generalize root H.nd H.em ((z00 H (ye r.es)).take kc) = RK at *
     by_cases hrk : RK = hd.root
     rotate_left
     ·have hX : X = false := by rw [HX2.out, HH.out, HSq2.out, if_neg (fun h => hrk h.2), Bool.false_and]
      subst hX
      have hrt : (!decide (RK = hd.root)) = true := by simp [hrk]
      clear HX2 HH HSq2 t4 t2 hrk
      refine yq 37 (by kernel_rfl) ?_
      refine WpT.tk 0 hS ?_
      simp only [nrm]
      refine WpT.tl 1 rfl (yh rfl rfl rfl (by kernel_rfl) z0) hS ?_
      simp only [nrm]
      refine WpT.tk 2 hS ?_
      simp only [nrm]
      refine WpT.tl 3 rfl (yh rfl rfl rfl (by kernel_rfl) y0) hS ?_
      simp only [nrm]
      refine WpT.tk 4 hS ?_
      simp only [nrm]
      refine WpT.tk 5 hS ?_
      simp only [nrm]
      refine WpT.tk 6 hS ?_
      simp only [nrm]
      refine WpT.tl 7 rfl (z13 (by rfl) rfl rfl (by kernel_rfl) z1) hS ?_
      simp only [nrm]
      refine WpT.tk 8 hS ?_
      simp only [nrm]
      refine WpT.tk 9 hS ?_
      simp only [nrm]
      refine WpT.tk 10 hS ?_
      simp only [nrm]
      refine WpT.tk 11 hS ?_
      simp only [nrm]
      refine WpT.tk 12 hS ?_
      simp only [nrm]
      refine WpT.tl 13 rfl (z13 (by rfl) rfl rfl (by kernel_rfl) z1) hS ?_
      simp only [nrm]
      refine WpT.tk 14 hS ?_
      simp only [nrm]
      refine WpT.tk 15 hS ?_
      simp only [nrm]
      refine WpT.tk 16 hS ?_
      simp only [nrm]
      refine WpT.tk 17 hS ?_
      simp only [nrm]
      refine WpT.tk 18 hS ?_
      simp only [nrm]
      refine WpT.tk 19 hS ?_
      simp only [nrm]
      refine WpT.tl 20 rfl (z13 (by rfl) rfl rfl (by kernel_rfl) z2) hS ?_
      simp only [nrm]
      refine WpT.tl 21 rfl (z54 (us := lgL r) (by rfl) rfl rfl z04 (by rw [yy, h5]) yr) hS ?_
      simp only [nrm]
      refine WpT.tk 22 hS ?_
      simp only [nrm]
      refine WpT.tl 23 rfl (z13 (by rfl) rfl rfl (by kernel_rfl) z1) hS ?_
      simp only [nrm]
      refine WpT.on 24 rfl (fun K hK => ?_)
      go_simp; refine (HDYk.out _ (yb hb0 hS)).mono ?_; rintro e w4 ⟨rfl, hb4⟩; replace hS := yb hS hb4
      refine hK _ _ hS ?_; clear hK K; try simp only [nrm]
      refine WpT.tk 25 hS ?_
      simp only [nrm]
      refine WpT.tk 26 hS ?_
      simp only [nrm]
      refine WpT.tk 27 hS ?_
      simp only [nrm]
      refine WpT.tk 28 hS ?_
      simp only [nrm]
      refine WpT.tk 29 hS ?_
      simp only [nrm]
      refine WpT.tl 30 rfl (z13 (by rfl) rfl rfl (by kernel_rfl) z1) hS ?_
      simp only [nrm]
      refine WpT.tl 31 rfl (ze1 (s := 16) (by rfl) rfl (by kernel_rfl) (by kernel_rfl) (by rfl) (by rfl) hkc5) hS ?_
      simp only [nrm]
      refine WpT.tk 33 hS ?_
      simp only [nrm]
      refine WpT.tl 34 rfl (z54 (us := bv (dg hd.root)) (by rfl) rfl rfl yn (by rw [yf, z03]) z3) hS ?_
      simp only [nrm]
      refine WpT.on 32 rfl (fun K hK => ?_)
      go_simp; refine (HRTk.out _ hS).mono ?_; rintro e w5 ⟨rfl, hb5⟩; replace hS := yb hS hb5
      refine hK _ _ hS ?_; clear hK K; try simp only [nrm]
      refine WpT.tl 35 rfl (zbw (by rfl) rfl (by rfl) (by rfl) HRL.out.1 HRL.out.2 hrt (fun W => by kernel_rfl)) hS ?_
      simp only [nrm]
      refine WpT.tk 36 hS ?_
      simp only [nrm]
      refine WpT.done (by kernel_rfl) ?_ _
      skip
      go_wp2_with fail
      go_ret
      exact ⟨rfl, yb hb0 hS⟩
     ·have hrt : (!decide (RK = hd.root)) = false := by simp [hrk]
      have HN2 : Hid (z1w H r.o (ye r.es) 0 r.hs = z1w H r.o (ye r.es) (kc : Int) (r.hs.drop (q + 1))) := ya (by rw [HH.out, HSq2.out, if_pos ⟨t4, hrk⟩])
      clear HX2 HH HSq2 t4 hrk
      refine yq 37 (by kernel_rfl) ?_
      refine WpT.tk 0 hS ?_
      simp only [nrm]
      refine WpT.tl 1 rfl (yh rfl rfl rfl (by kernel_rfl) z0) hS ?_
      simp only [nrm]
      refine WpT.tk 2 hS ?_
      simp only [nrm]
      refine WpT.tl 3 rfl (yh rfl rfl rfl (by kernel_rfl) y0) hS ?_
      simp only [nrm]
      refine WpT.tk 4 hS ?_
      simp only [nrm]
      refine WpT.tk 5 hS ?_
      simp only [nrm]
      refine WpT.tk 6 hS ?_
      simp only [nrm]
      refine WpT.tl 7 rfl (z13 (by rfl) rfl rfl (by kernel_rfl) z1) hS ?_
      simp only [nrm]
      refine WpT.tk 8 hS ?_
      simp only [nrm]
      refine WpT.tk 9 hS ?_
      simp only [nrm]
      refine WpT.tk 10 hS ?_
      simp only [nrm]
      refine WpT.tk 11 hS ?_
      simp only [nrm]
      refine WpT.tk 12 hS ?_
      simp only [nrm]
      refine WpT.tl 13 rfl (z13 (by rfl) rfl rfl (by kernel_rfl) z1) hS ?_
      simp only [nrm]
      refine WpT.tk 14 hS ?_
      simp only [nrm]
      refine WpT.tk 15 hS ?_
      simp only [nrm]
      refine WpT.tk 16 hS ?_
      simp only [nrm]
      refine WpT.tk 17 hS ?_
      simp only [nrm]
      refine WpT.tk 18 hS ?_
      simp only [nrm]
      refine WpT.tk 19 hS ?_
      simp only [nrm]
      refine WpT.tl 20 rfl (z13 (by rfl) rfl rfl (by kernel_rfl) z2) hS ?_
      simp only [nrm]
      refine WpT.tl 21 rfl (z54 (us := lgL r) (by rfl) rfl rfl z04 (by rw [yy, h5]) yr) hS ?_
      simp only [nrm]
      refine WpT.tk 22 hS ?_
      simp only [nrm]
      refine WpT.tl 23 rfl (z13 (by rfl) rfl rfl (by kernel_rfl) z1) hS ?_
      simp only [nrm]
      refine WpT.on 24 rfl (fun K hK => ?_)
      go_simp; refine (HDYk.out _ (yb hb0 hS)).mono ?_; rintro e w4 ⟨rfl, hb4⟩; replace hS := yb hS hb4
      refine hK _ _ hS ?_; clear hK K; try simp only [nrm]
      refine WpT.tk 25 hS ?_
      simp only [nrm]
      refine WpT.tk 26 hS ?_
      simp only [nrm]
      refine WpT.tk 27 hS ?_
      simp only [nrm]
      refine WpT.tk 28 hS ?_
      simp only [nrm]
      refine WpT.tk 29 hS ?_
      simp only [nrm]
      refine WpT.tl 30 rfl (z13 (by rfl) rfl rfl (by kernel_rfl) z1) hS ?_
      simp only [nrm]
      refine WpT.tl 31 rfl (ze1 (s := 16) (by rfl) rfl (by kernel_rfl) (by kernel_rfl) (by rfl) (by rfl) hkc5) hS ?_
      simp only [nrm]
      refine WpT.tk 33 hS ?_
      simp only [nrm]
      refine WpT.tl 34 rfl (z54 (us := bv (dg hd.root)) (by rfl) rfl rfl yn (by rw [yf, z03]) z3) hS ?_
      simp only [nrm]
      refine WpT.on 32 rfl (fun K hK => ?_)
      go_simp; refine (HRTk.out _ hS).mono ?_; rintro e w5 ⟨rfl, hb5⟩; replace hS := yb hS hb5
      refine hK _ _ hS ?_; clear hK K; try simp only [nrm]
      refine WpT.tl 35 rfl (zbw (by rfl) rfl (by rfl) (by rfl) HRL.out.1 HRL.out.2 hrt (fun W => by kernel_rfl)) hS ?_
      simp only [nrm]
      refine WpT.tk 36 hS ?_
      simp only [nrm]
      refine WpT.done (by kernel_rfl) ?_ _
      skip
      have z1x := HB3.out _ hS
      go_wp2_with fail
      exact ⟨⟨q + 1, (kc : Int), rfl, by go_num, by omega, by omega, HN2, yb hbw2 hS⟩, by simp [intOf]; omega⟩
    ·obtain rfl : q = r.hn := by omega
     have HX3 : Hid (X = (decide (r.s = (k : Int)) && decide (z0i H.nd H.em (z00 H (ye r.es)) = r.ts))) := ya (by
      rw [HX2.out, HH.out, List.drop_of_length_le (by rw [HHL.out]; exact Nat.le_refl _)]
      rfl)
     clear HX2 HH HKH HHE HDY HRT HRLt
     replace hbw := yb hbw hbw2
     have HR6 := ya (fun W (h : Below wr.heap.size wr W) => HR5.out _ (yb hbw2 h))
     have HB6 := ya (fun W (h : Below wr.heap.size wr W) => yb hb0 (yb hbw h))
     have HQ6 := ya (fun W (h : Below wr.heap.size wr W) => HQ0.out _ (yb hbw h))
     clear HR5 hbw hbw2 hla
     have HLK : Hid ((z00 H (ye r.es)).length = k) := ya (HLN.out.trans HLE.out)
     generalize z00 H (ye r.es) = LV at *
     go_wp2_with ((with_reducible show sl 9); refine z0t rfl rfl z8q ?_; intro w6 g9 hg9 b9 hb6 lt9; have HG9 : Hid (wr.heap.size ≤ g9 ∧ g9 < w6.heap.size) := ya ⟨by omega, lt9⟩; clear hg9 lt9)
     have HW6 := ya (fun W (h : Below g9 w6 W) => (hb6.trans (h.mono HG9.out.1)))
     have HT0 : Hid (∃ A m c, Blk w6 g9 39 (pkC ((0 : Nat) : Int) A m c) ∧ m = (z0i H.nd H.em (LV.take 0)).length ∧ yg w6 w6.heap.size (.slice A m c) (z0i H.nd H.em (LV.take 0)) ∧ Below g9 w6 w6) := ya ⟨none, 0, 0, b9, by rw [List.take_zero, z2w]; rfl, by rw [List.take_zero, z2w]; exact yg.nil _ _, Below.refl _ _⟩
     clear b9 hb6
     go_loopw [92] (fun v92 wr => ∃ j : Nat, v92 = .int .i64 (j : Int) ∧ j ≤ k ∧ Hid (∃ A m c, Blk wr g9 39 (pkC (j : Int) A m c) ∧ m = (z0i H.nd H.em (LV.take j)).length ∧ yg wr w6.heap.size (.slice A m c) (z0i H.nd H.em (LV.take j)) ∧ Below g9 w6 wr)) (fun v92 _ => k - (intOf v92).toNat)
     case atStart => exact ⟨0, rfl, by omega, HT0⟩
     case round =>
      obtain ⟨j, rfl, hj, HJ⟩ := hrel
      obtain ⟨A7, m7, c7, b7, hm7, o7, hbl⟩ := HJ.out
      clear HJ HT0
      have hbX := HW6.out _ hbl
      by_cases hjk : j < k
      ·have hjl : j < LV.length := by rw [HLK.out]; exact hjk
       have dj : decide ((j : Int) < (k : Int)) = true := by rw [decide_eq_true_eq]; omega
       obtain ⟨ad, rfl, hcd⟩ := (HR6.out _ hbX).elem hjl
       have hl2 : (LV.take j).length = j := by rw [List.length_take]; omega
       have hj40 : j < 1099511627776 := by omega
       have HPj := ya (HP.out (LV.take j) LV[j] (by rw [hl2]; exact hj40))
       have HM : Hid (m7 ≤ 1000) := ya (by have := HPF.out (LV.take j) (by rw [hl2]; exact hj40); omega)
       have HTJ : Hid (LV.take (j + 1) = LV.take j ++ [LV[j]]) := ya (List.take_succ_eq_append_getElem hjl)
       rw [hl2] at HPj
       have HRD : Hid (RdD wr A7 m7 (z0i H.nd H.em (LV.take j)) ∧ m7 ≤ c7 ∧ c7 ≤ maxLen) := ya (by
        obtain ⟨A', c', e, h1, h2, h3⟩ := yg.formN o7 hm7.symm
        injection e with e1 e2 e3
        subst e1; subst e3; exact ⟨h3, h1, h2⟩)
       have HAj := ya (fun W (h : Below wr.heap.size wr W) => HAP.out (j : Int) LV[j] A7 m7 c7 (z0i H.nd H.em (LV.take j)) W (HB6.out _ (yb hbX h)) HM.out (HRD.out.1.below h) HRD.out.2.1 HRD.out.2.2)
       rw [HPj.out] at HAj
       rw [← HTJ.out] at HAj
       have HLT7 : Hid (g9 < wr.heap.size ∧ w6.heap.size ≤ wr.heap.size) := ya ⟨b7.lt, hbl.size⟩
       generalize LV[j] = x at *
       generalize hTM : z0i H.nd H.em (LV.take (j + 1)) = TM at *
       have HTM := ya hTM
       clear o7 hm7 HPj HTJ HRD HM hjl hl2 hTM hj40
       unfold z83 at HAj
       have hcp : ∀ j' u, ([.int .i64 (j : Int), .slice A7 m7 c7] : List Value)[j']? = some u → wr.cell? ((⟨g9, 0, none⟩ : Addr).add j') = some u := yv (xs := [.int .i64 (j : Int), .slice A7 m7 c7]) b7
       go_wp2_with (first
        | ((with_reducible show sl 95); refine yj (us := bv (dg x)) rfl rfl rfl yn (by rw [yf, z03]) hcd ?_)
        | ((with_reducible show sl 11); refine zdv (n := x) rfl rfl rfl rfl (fun _ => rfl) (fun _ => rfl) ?_; intro w7 g11 hg11 b11 hb7; clear hg11; replace hcp := fun j' u h => cell_later hb7 (hcp j' u h); have hc11 := yv (xs := bv (dg x)) b11)
        | ((with_reducible show sl 97); refine yj (us := [.int .i64 (j : Int), .slice A7 m7 c7]) rfl rfl rfl z3s (by rw [z1o]; rfl) hcp ?_)
        | ((with_reducible show sl 98); refine yj (us := bv (dg x)) rfl rfl rfl yn (by rw [yf, z03]) hc11 ?_))
       refine (HAj.out _ hb7).mono ?_
       rintro e w8 ⟨A8, m8, c8, rfl, o8, hb8⟩
       have o9 : yg w8 w6.heap.size (.slice A8 m8 c8) TM := yg.lower o8 (by have := HLT7.out; have := hb7.size; omega)
       have hb78 := yb hb7 hb8
       have b8 := b7.below hb78
       clear hcp hcd hc11 b11 b7 o8 hb7 hb8
       go_wp2_with ((with_reducible show sn); refine z01 (vs := pkC ((j + 1 : Nat) : Int) A8 m8 c8) rfl rfl rfl rfl b8 rfl (by rw [z1o]; rfl) (z6x _ _ _ _) ?_; intro w10 ht10 b10)
       exact ⟨⟨j + 1, by go_num, by omega, ya ⟨A8, m8, c8, b10, by rw [HTM.out]; exact zk8 o9, by rw [HTM.out]; exact ht10.own o9 (fun e => by have := (World.ownsRow.lt o9 _ e).1; have := HG9.out; omega), (hbl.trans (hb78.mono (by have := HLT7.out; omega))).trans (ht10.below _ (Nat.le_refl _))⟩⟩, by simp [intOf]; omega⟩
      ·obtain rfl : j = k := by omega
       have HL : Hid (LV.take j = LV) := ya (List.take_of_length_le (by rw [HLK.out]; exact Nat.le_refl _))
       rw [HL.out] at hm7 o7
       have e0 : wr.cell? ⟨g9, 0, none⟩ = some (.int .i64 (j : Int)) := by rw [b7.cell 0]; rfl
       have e1 : wr.cell? ⟨g9, 1, none⟩ = some (.slice A7 m7 c7) := by rw [b7.cell 1]; rfl
       have x2 := zji (HQ6.out _ hbX)
       have x3 := zfh (HQ6.out _ hbX)
       have hbF := HB6.out _ hbX
       obtain ⟨A', c', he, k1, k2, k3⟩ := yg.formN o7 hm7.symm
       injection he with i1 i2 i3
       subst i1
       subst i3
       have hp40 := HPF.out LV (by rw [HLK.out]; omega)
       have HEQk := ya (HEQ.out (z0i H.nd H.em LV) A7 m7 c7 wr hbF k3 (by omega) (HPL.out LV HLL.out))
       clear HPF HPL HEQ HP HAP HW6 HR6 HB6 HQ6 o7 hm7 b7 hbl hbX k1 k2 k3 hp40
       generalize decide (z0i H.nd H.em LV = r.ts) = PB at *
       rcases z48 (j : Int) r.s with ⟨t1, q1, q2, q3⟩ | ⟨t1, q1, q2, q3⟩
       ·have hX : X = PB := by rw [HX3.out, show decide (r.s = (j : Int)) = true by rw [decide_eq_true_eq]; exact t1.symm, Bool.true_and]
        subst hX
        clear HX3 t1
        go_wp2_with fail
        refine HEQk.out.mono ?_
        rintro e w9 ⟨rfl, hb9⟩
        go_wp2_with fail
        go_ret
        exact ⟨rfl, yb hbF hb9⟩
       ·have hX : X = false := by rw [HX3.out, show decide (r.s = (j : Int)) = false by rw [decide_eq_false_iff_not]; exact fun e => t1 e.symm, Bool.false_and]
        subst hX
        clear HX3 t1
        go_wp2_with fail
        go_ret
        exact ⟨rfl, hbF⟩
def z0h : Key := ⟨1073741826, 1, ⟨#[99]⟩, 0, 1048577⟩
theorem znn (a b d : Int) (s : ByteArray) (W : World) : (Instr.build 44 #[(0, .int .i64 a), (1, .int .i64 b), (2, .string s), (4, .int .i64 d)]).run Tryz.prog W = .ok (z10 ⟨a, b, s, 0, d⟩) W := by kernel_rfl
theorem zxi (W : World) : (zeroValue 44).run Tryz.prog W = .ok (z10 z4e) W := by kernel_rfl
theorem zqt (w : World) : Calls Tryz.prog 49 #[.int .i64 2] w fun e w' => e = .returned (z10 z0h) ∧ Below w.heap.size w w' := by
 obtain ⟨wa, hwa, hb0, q1⟩ : ∃ wa : World, wa = w.alloc (.cells (z0f z4e) 44) ∧ Below w.heap.size w wa ∧ Blk wa w.heap.size 44 (z0f z4e) := ⟨_, rfl, (Below.refl w.heap.size w).alloc (Nat.le_refl _) _, Blk.new _ _ _⟩
 have HWA := ya hwa
 clear hwa
 go_enter Tryz.func49, Tryz.ntmps49
 go_upto_region 1 with (refine z2k rfl rfl (zxi _) ?_)
 change Code.wp _ _ _ _ (w.alloc (.cells (z0f z4e) 44))
 rw [← HWA.out]
 go_wp2_with (first
  | ((with_reducible show sl 10); refine zgr (l := [99]) rfl rfl yo (by kernel_rfl) rfl (Rd.new1 _ _ _) ?_)
  | ((with_reducible show sl 11); refine z8m rfl rfl rfl rfl rfl rfl (znn 1073741826 1 1048577 ⟨#[99]⟩) ?_)
  | ((with_reducible show sn); refine z01 (vs := z0f z0h) rfl rfl rfl rfl (q1.alloc _) rfl (by kernel_rfl) (by simp [Value.oneCell']) ?_; intro w9 ht9 b9))
 exact z02 rfl rfl rfl b9 z6o (by kernel_rfl) ⟨rfl, (hb0.alloc (by have := q1.lt; omega) _).trans (ht9.below _ (Nat.le_refl _))⟩
end
section
open Merk
def z2o (nd : Nat → Nat → Nat) (leaf i n : Nat) (l : List Nat) : Nat × Bool :=
 if h : 2 ≤ n then
  if hl : l = [] then (0, false)
  else if i < split n then (nd (z2o nd leaf i (split n) l.dropLast).1 (l.getLast hl), (z2o nd leaf i (split n) l.dropLast).2)
  else (nd (l.getLast hl) (z2o nd leaf (i - split n) (n - split n) l.dropLast).1, (z2o nd leaf (i - split n) (n - split n) l.dropLast).2)
 else (leaf, decide (l = []))
termination_by n
decreasing_by
 all_goals first | exact split_lt h | (have := split_pos n; omega)
theorem zeo (nd : Nat → Nat → Nat) (leaf i n : Nat) (l : List Nat) (h : ¬ 2 ≤ n) : z2o nd leaf i n l = (leaf, decide (l = [])) := by rw [z2o.eq_def, dif_neg h]
theorem zot (nd : Nat → Nat → Nat) (leaf i n : Nat) (h : 2 ≤ n) : z2o nd leaf i n [] = (0, false) := by rw [z2o.eq_def, dif_pos h, dif_pos rfl]
theorem zhw (nd : Nat → Nat → Nat) (leaf i n : Nat) (l : List Nat) (x : Nat) (h : 2 ≤ n) (hi : i < split n) : z2o nd leaf i n (l ++ [x]) = (nd (z2o nd leaf i (split n) l).1 x, (z2o nd leaf i (split n) l).2) := by
 rw [z2o.eq_def, dif_pos h, dif_neg (by simp), if_pos hi]; simp
theorem zou (nd : Nat → Nat → Nat) (leaf i n : Nat) (l : List Nat) (x : Nat) (h : 2 ≤ n) (hi : ¬ i < split n) : z2o nd leaf i n (l ++ [x]) = (nd x (z2o nd leaf (i - split n) (n - split n) l).1, (z2o nd leaf (i - split n) (n - split n) l).2) := by
 rw [z2o.eq_def, dif_pos h, dif_neg (by simp), if_neg hi]; simp
theorem zos (nd : Nat → Nat → Nat) (k : Nat) : ∀ (leaf i n : Nat) (l : List Nat), n ≤ k →
  (z2o nd leaf i n l).2 = (!(z0p nd leaf i n ⟨l, false⟩).2.short && decide ((z0p nd leaf i n ⟨l, false⟩).2.l = [])) ∧ ((z2o nd leaf i n l).2 = true → (z2o nd leaf i n l).1 = (z0p nd leaf i n ⟨l, false⟩).1) := by
 induction k with
 | zero => intro leaf i n l h; rw [zeo nd leaf i n l (by omega), z0p, dif_neg (by omega)]; simp
 | succ k ih =>
  intro leaf i n l h
  by_cases h2 : 2 ≤ n
  ·have k1 := split_lt h2
   have k2 := split_pos n
   rw [z0p, dif_pos h2]
   rcases List.eq_nil_or_concat l with rfl | ⟨l, x, rfl⟩
   ·rw [zot nd leaf i n h2, zfb]
    split
    ·rw [zhv nd k leaf i (split n) ⟨[], true⟩ (by omega) rfl]; simp
    ·rw [zhv nd k leaf (i - split n) (n - split n) ⟨[], true⟩ (by omega) rfl]; simp
   ·rw [List.concat_eq_append, z9e]
    by_cases hi : i < split n
    ·have := ih leaf i (split n) l (by omega)
     rw [zhw nd leaf i n l x h2 hi, if_pos hi]
     dsimp only at this ⊢
     exact ⟨this.1, fun h => by rw [this.2 h]⟩
    ·have := ih leaf (i - split n) (n - split n) l (by omega)
     rw [zou nd leaf i n l x h2 hi, if_neg hi]
     dsimp only at this ⊢
     exact ⟨this.1, fun h => by rw [this.2 h]⟩
  ·rw [zeo nd leaf i n l h2, z0p, dif_neg h2]; simp
theorem zoe (nd : Nat → Nat → Nat) (leaf i n root : Nat) (l : List Nat) (h1 : 1 ≤ n) (h2 : n ≤ 1099511627776) (hi : i < n) : z62 nd leaf (i : Int) (n : Int) l root = ((z2o nd leaf i n l).2 && decide ((z2o nd leaf i n l).1 = root)) := by
 unfold z62
 rw [if_pos (by omega), Int.toNat_natCast, Int.toNat_natCast]
 have h := zos nd n leaf i n l (Nat.le_refl _)
 unfold z5g
 rw [← h.1]
 cases hb : (z2o nd leaf i n l).2 with
 | false => simp
 | true => rw [h.2 hb]; simp
section
variable (nd : Nat → Nat → Nat) (old m n : Nat) (mark : Bool) (l : List Nat) (x : Nat)
end
end
section
open Go.RowKit Exch Merk Ring
def z9w : Nat := val (8 :: List.replicate 15 0)
def z1n : Ev := ⟨1, 1, 5, 7, 3, 9, 0, [1, 2], [], z9w⟩
def z3e : Ev := ⟨5, 2, 9, 0, 0, 0, 0, [], [], 0⟩
def z6g : Ev := ⟨5, 4, 9, 0, 0, 0, 0, [], [], 0⟩
def z6f : Ev := ⟨5, 3, 8, 0, 0, 0, 0, [], [], 0⟩
theorem zud : dg z9w = 8 :: List.replicate 15 0 := zao (by rfl)
theorem zue : z9w < 2 ^ 128 := by have := z7x (8 :: List.replicate 15 0); rwa [show (8 :: List.replicate 15 (0 : UInt8)).length = 16 by rfl, zb4] at this
theorem big1 : big 1 = 1 := by decide +kernel
theorem big2 : big 2 = 2 := by decide +kernel
theorem z6i : Merk.split 2 = 1 := by decide +kernel
theorem zqa : z1g 1 1 = true := by decide +kernel
theorem zku (nd : Nat → Nat → Nat) (em x : Nat) : z0i nd em [x] = [x] := by
 rw [z4z nd em (by simp), show big [x].length = 1 from big1]
 simp [root_one, z2w]
theorem zkv (nd : Nat → Nat → Nat) (em x y : Nat) : z0i nd em [x, y] = [nd x y] := by
 rw [z4z nd em (by simp), show big [x, y].length = 2 from big2]
 rw [show ([x, y] : List Nat).take 2 = [x, y] by rfl, show ([x, y] : List Nat).drop 2 = [] by rfl, z2w, root_two nd em (by simp), show Merk.split [x, y].length = 1 from z6i]
 simp [root_one]
theorem zle (nd : Nat → Nat → Nat) (em x y : Nat) : root nd em [x, y] = nd x y := by
 rw [root_two nd em (by simp), show Merk.split [x, y].length = 1 from z6i]
 simp [root_one]
theorem app0 (nd : Nat → Nat → Nat) (x : Nat) : z37 nd 0 [] x = (1, [x], 0) := by
 have := zc5 nd 0 [] x (by simp)
 rw [z2w, List.nil_append, zku] at this
 exact this
theorem app1 (nd : Nat → Nat → Nat) (x y : Nat) : z37 nd 1 [x] y = (2, [nd x y], 0) := by
 have := zc5 nd 0 [x] y (by simp)
 rw [zku, show ([x] : List Nat) ++ [y] = [x, y] by rfl, zkv] at this
 exact this
theorem top1 (nd : Nat → Nat → Nat) (em x : Nat) : z3w nd em 1 [x] = (x, 0) := by
 unfold z3w
 rw [if_pos (by show z1g 1 1 = true; exact zqa)]
 rfl
theorem zqb : z1g 2 1 = true := by decide +kernel
theorem top2 (nd : Nat → Nat → Nat) (em x : Nat) : z3w nd em 2 [x] = (x, 0) := by
 unfold z3w
 rw [if_pos (by show z1g 2 1 = true; exact zqb)]
 rfl
theorem zgd : z3l z0h 2 = true := by decide +kernel
section
variable (H : He)
def sA : Nat := H.lf (ym H z1n)
def sB : Nat := H.lf (ym H z3e)
def sHa : Hd := ⟨2, 1, 5, sA H, 1, H.sh ⟨#[99]⟩ 2 1 5 1 (sA H)⟩
def sHb : Hd := ⟨2, 2, 9, H.nd (sA H) (sB H), 1, H.sh ⟨#[99]⟩ 2 2 9 1 (H.nd (sA H) (sB H))⟩
def sRc : Rc := ⟨2, ym H z1n, 1, H.sr ⟨#[99]⟩ 2 1 (sA H)⟩
def sL0 : Lg := ⟨2, [], 0, [], []⟩
def sL1 : Lg := ⟨2, [z1n], 1, [sA H], []⟩
def sL2 : Lg := ⟨2, [z1n], 1, [sA H], [sHa H]⟩
def sL3 : Lg := ⟨2, [z1n, z3e], 2, [H.nd (sA H) (sB H)], [sHa H]⟩
def sL4 : Lg := ⟨2, [z1n, z3e], 2, [H.nd (sA H) (sB H)], [sHa H, sHb H]⟩
theorem zuf : z56 H sL0 z1n = (sL1 H, 0) := by
 unfold z56
 rw [if_pos (by decide)]
 rw [show (sL0).size = 0 from rfl, show sL0.tops = [] from rfl, app0]
 rfl
theorem zus : z51 H (sL1 H) z0h 1 = (sRc H, 0) := by
 unfold z51
 have hm : z3l z0h (sL1 H).office = true := zgd
 rw [if_pos hm, if_pos ⟨by decide, by show (1 : Int) ≤ 1; decide⟩]
 rfl
theorem zuv : z70 H (sL1 H) z0h = (sL2 H, sHa H, 0) := by
 unfold z70
 have hm : z3l z0h (sL1 H).office = true := zgd
 rw [if_pos hm, show (sL1 H).size = 1 from rfl, show (sL1 H).tops = [sA H] from rfl, top1]
 rfl
theorem zug : z56 H (sL2 H) z3e = (sL3 H, 0) := by
 unfold z56
 rw [if_pos (by show follows [z1n] z3e = 0; decide)]
 rw [show (sL2 H).size = 1 from rfl, show (sL2 H).tops = [sA H] from rfl, app1]
 rfl
theorem zuw : z70 H (sL3 H) z0h = (sL4 H, sHb H, 0) := by
 unfold z70
 have hm : z3l z0h (sL3 H).office = true := zgd
 rw [if_pos hm, show (sL3 H).size = 2 from rfl, show (sL3 H).tops = [H.nd (sA H) (sB H)] from rfl, top2]
 rfl
theorem zlq : z00 H [z1n, z3e] = [sA H, sB H] := rfl
theorem zuq : z21 H.nd H.em [sA H, sB H] 0 = ([sB H], 0) := by
 unfold z21
 rw [if_pos (by simp), show (0 : Int).toNat = 0 by rfl, Merk.incl_left H.nd H.em (by simp) (by rw [show Merk.split [sA H, sB H].length = 1 from z6i]; omega), show Merk.split [sA H, sB H].length = 1 from z6i, Merk.incl_one H.nd H.em (by simp)]
 simp [root_one]
theorem s_csy : z2s H.nd H.em [sA H, sB H] 1 = ([sB H], 0) := by
 unfold z2s
 rw [if_pos (by simp), if_neg (by simp), show (1 : Int).toNat = 1 by rfl, Merk.csy_left H.nd H.em true (by simp) (by simp) (by rw [show Merk.split [sA H, sB H].length = 1 from z6i]; omega), show Merk.split [sA H, sB H].length = 1 from z6i, Merk.csy_true H.nd H.em (by simp)]
 simp [root_one]
theorem s_inA : sHa H ∈ (sL4 H).heads := by simp [sL4]
theorem zlp : sHb H ∈ (sL4 H).heads := by simp [sL4]
def sSh : Sh := ⟨ym H z1n, [sB H], sHb H⟩
def z52 : Fc := { ym H z1n with til := 8 }
def z6y : Sh := ⟨z52 H, [sB H], sHb H⟩
theorem zur : z6c H (sL4 H) 1 (sHb H) = (sSh H, 0) := by
 unfold z6c
 rw [if_pos (zlp H), if_pos ⟨by decide, by show (1 : Int) ≤ 2; decide⟩]
 rw [show (z00 H (sL4 H).events).take (sHb H).commit.toNat = [sA H, sB H] from rfl, show (1 : Int) - 1 = 0 by decide, zuq]
 rfl
theorem zun : z4j H (sL4 H) (sHa H) (sHb H) = ([sB H], 0) := by
 unfold z4j
 rw [if_pos ⟨s_inA H, zlp H⟩, if_pos (by show (1 : Int) ≤ 2; decide), show (z00 H (sL4 H).events).take (sHb H).commit.toNat = [sA H, sB H] from rfl]
 exact s_csy H
theorem zui : z56 H (sL4 H) z6g = (sL4 H, 9) := by
 unfold z56
 have h : follows (sL4 H).events z6g = 9 := by show follows [z1n, z3e] z6g = 9; decide
 rw [if_neg (by rw [h]; decide), h]
theorem zuh : z56 H (sL4 H) z6f = (sL4 H, 9) := by
 unfold z56
 have h : follows (sL4 H).events z6f = 9 := by show follows [z1n, z3e] z6f = 9; decide
 rw [if_neg (by rw [h]; decide), h]
theorem zgc : z14 (z4r (z4l 2) 1) [z0h] = some z0h := by rfl
theorem zlo : z45 z0h 5 = true := by decide +kernel
theorem zum : z45 z0h 9 = true := by decide +kernel
theorem zuk : z2i H [z0h] (sHa H) = 0 := by
 show z3f [z0h] (z4l 2) 1 5 (fun s => H.sh s 2 1 5 1 (sA H)) (H.sh ⟨#[99]⟩ 2 1 5 1 (sA H)) = 0
 unfold z3f
 rw [zgc]
 show (if z45 z0h 5 = true then (if H.sh ⟨#[99]⟩ 2 1 5 1 (sA H) = H.sh ⟨#[99]⟩ 2 1 5 1 (sA H) then (0 : Int) else 8) else 9) = 0
 rw [if_pos zlo, if_pos rfl]
theorem zgb : z2i H [z0h] (sHb H) = 0 := by
 show z3f [z0h] (z4l 2) 1 9 (fun s => H.sh s 2 2 9 1 (H.nd (sA H) (sB H))) (H.sh ⟨#[99]⟩ 2 2 9 1 (H.nd (sA H) (sB H))) = 0
 unfold z3f
 rw [zgc]
 show (if z45 z0h 9 = true then (if H.sh ⟨#[99]⟩ 2 2 9 1 (H.nd (sA H) (sB H)) = H.sh ⟨#[99]⟩ 2 2 9 1 (H.nd (sA H) (sB H)) then (0 : Int) else 8) else 9) = 0
 rw [if_pos zum, if_pos rfl]
theorem zul : z93 H [z0h] (sRc H) = 0 := by
 show z3f [z0h] (z4l 2) 1 5 (fun s => H.sr s 2 1 (sA H)) (H.sr ⟨#[99]⟩ 2 1 (sA H)) = 0
 unfold z3f
 rw [zgc]
 show (if z45 z0h 5 = true then (if H.sr ⟨#[99]⟩ 2 1 (sA H) = H.sr ⟨#[99]⟩ 2 1 (sA H) then (0 : Int) else 8) else 9) = 0
 rw [if_pos zlo, if_pos rfl]
theorem zln (x : Nat) : z62 H.nd x 0 2 [sB H] (H.nd (sA H) (sB H)) = decide (H.nd x (sB H) = H.nd (sA H) (sB H)) := by
 have h := zoe H.nd x 0 2 (H.nd (sA H) (sB H)) [sB H] (by omega) (by omega) (by omega)
 have h2 := zhw H.nd x 0 2 [] (sB H) (by omega) (by rw [z6i]; omega)
 rw [List.nil_append] at h2
 rw [show ((0 : Nat) : Int) = 0 by rfl, show ((2 : Nat) : Int) = 2 by rfl] at h
 rw [h, h2, show Merk.split 2 = 1 from z6i, zeo H.nd x 0 1 [] (by omega)]
 simp
theorem zuj : z6s H.nd H.em 1 2 (sA H) (H.nd (sA H) (sB H)) [sB H] = true := by
 have h := zo7 H.nd H.em [sA H, sB H] 1 (by simp) (by simp) (by simp) (sA H) (.inr (.inr (.inl (by simp [root_one]))))
 have h2 : zcv H.nd H.em [sA H, sB H] 1 = [sB H] := by
  unfold zcv
  rw [if_neg (by simp), Merk.csy_left H.nd H.em true (by simp) (by simp) (by rw [show Merk.split [sA H, sB H].length = 1 from z6i]; omega), show Merk.split [sA H, sB H].length = 1 from z6i, Merk.csy_true H.nd H.em (by simp)]
  simp [root_one]
 rw [h2, zle, show ([sA H, sB H].take 1) = [sA H] by rfl, root_one, decide_eq_true rfl] at h
 exact h
theorem zux : z63 H [z0h] (sSh H) = 0 := by
 unfold z63
 rw [if_pos ⟨by show (1 : Int) ≤ 1; decide, by show (1 : Int) ≤ 2; decide⟩, show (sSh H).head = sHb H from rfl, if_pos (zgb H)]
 have h := zln H (sA H)
 rw [decide_eq_true rfl] at h
 rw [if_pos (show z62 H.nd (H.lf (sSh H).face) ((sSh H).face.commit - 1) (sHb H).commit (sSh H).path (sHb H).root = true from h)]
theorem zuy (hne : H.nd (H.lf (z52 H)) (sB H) ≠ H.nd (sA H) (sB H)) : z63 H [z0h] (z6y H) = 3 := by
 unfold z63
 rw [if_pos ⟨by show (1 : Int) ≤ 1; decide, by show (1 : Int) ≤ 2; decide⟩, show (z6y H).head = sHb H from rfl, if_pos (zgb H)]
 have h := zln H (H.lf (z52 H))
 rw [decide_eq_false hne] at h
 rw [if_neg (by rw [show z62 H.nd (H.lf (z6y H).face) ((z6y H).face.commit - 1) (sHb H).commit (z6y H).path (sHb H).root = false from h]; decide)]
theorem zup : zam H [z0h] (sHa H) (sHb H) [sB H] = 0 := by
 unfold zam
 rw [if_pos ⟨rfl, by show (1 : Int) ≤ 2; decide, by show (5 : Int) ≤ 9; decide⟩, if_pos (zuk H), if_pos (zgb H), if_pos (show z6s H.nd H.em (sHa H).commit (sHb H).commit (sHa H).root (sHb H).root [sB H] = true from zuj H)]
theorem zut : z8k H [z0h] (sRc H) (sSh H) = false := by
 unfold z8k
 rw [show decide ((sRc H).face = (sSh H).face) = true by rw [decide_eq_true_eq]; rfl]
 simp
theorem zuu (hne : H.nd (H.lf (z52 H)) (sB H) ≠ H.nd (sA H) (sB H)) : z8k H [z0h] (sRc H) (z6y H) = false := by
 unfold z8k
 rw [zuy H hne]
 simp
theorem zuz : z5i H (sL4 H) = true := by
 unfold z5i
 rw [show decide (0 ≤ (sL4 H).office ∧ (sL4 H).office < 32 ∧ (sL4 H).events.length ≤ 65536) = true by rw [decide_eq_true_eq]; exact ⟨by show (0 : Int) ≤ 2; omega, by show (2 : Int) < 32; omega, by show 2 ≤ 65536; omega⟩]
 rw [show z2p 0 0 (sL4 H).events = true by show z2p 0 0 [z1n, z3e] = true; decide]
 rw [show z00 H (sL4 H).events = [sA H, sB H] from rfl, zkv]
 rw [show decide ((sL4 H).size = ((sL4 H).events.length : Int)) = true from rfl, show decide ([H.nd (sA H) (sB H)] = (sL4 H).tops) = true by rw [decide_eq_true_eq]; rfl]
 have h : z1w H (sL4 H).office (sL4 H).events 0 (sL4 H).heads = true := by
  show z1w H 2 [z1n, z3e] 0 [sHa H, sHb H] = true
  unfold z1w
  rw [if_pos ⟨rfl, by show (0 : Int) ≤ 1; decide, by show (1 : Int) ≤ 2; decide, rfl, by rw [zlq]; show root H.nd H.em [sA H] = sA H; rw [root_one]⟩]
  unfold z1w
  rw [if_pos ⟨rfl, by show (1 : Int) ≤ 2; decide, by show (2 : Int) ≤ 2; decide, rfl, by rw [zlq]; exact zle H.nd H.em (sA H) (sB H)⟩]
  rfl
 rw [h]
 rfl
theorem zuo : zaw H [z0h] (sHa H) (sHb H) = false := by
 unfold zaw
 rw [show decide ((sHa H).commit = (sHb H).commit) = false from rfl]
 simp
end
theorem zo2 {w : World} {p : Addr} {v : Value} (h : w.cell? p = some v) : p.block < w.heap.size := by
 rcases Nat.lt_or_ge p.block w.heap.size with hl | hl
 ·exact hl
 ·exfalso
  have : w.cell? p = none := by
   have hn : w.heap[p.block]? = none := Array.getElem?_eq_none hl
   simp [World.cell?, World.cells?, hn]
  rw [this] at h; cases h
structure Kp (g : Nat) (w w' : World) : Prop where
 below : ∀ B, B ≤ g → B ≤ w.heap.size → Below B w w'
 size : w.heap.size ≤ w'.heap.size
 far : ∀ k, k < w.heap.size → k ≠ g → w'.heap[k]? = w.heap[k]?
section
variable {g : Nat} {w w1 w2 : World}
theorem Kp.of (h : Below w.heap.size w w1) : Kp g w w1 := ⟨fun B _ hB => h.mono hB, h.size, fun k hk _ => h.block k hk⟩
theorem Kp.turn (h : Kp g w w1) (ht : z0w g w1 w2) : Kp g w w2 := ⟨fun B h1 h2 => (h.below B h1 h2).trans (ht.below B h1), by rw [ht.size]; exact h.size, fun k hk hn => (ht.far k hn).trans (h.far k hk hn)⟩
theorem Kp.turnNew {k : Nat} (h : Kp g w w1) (ht : z0w k w1 w2) (hk : w.heap.size ≤ k) : Kp g w w2 := ⟨fun B h1 h2 => (h.below B h1 h2).trans (ht.below B (by omega)), by rw [ht.size]; exact h.size, fun j hj hn => (ht.far j (by omega)).trans (h.far j hj hn)⟩
theorem Kp.step (h : Kp g w w1) (hb : Below w1.heap.size w1 w2) : Kp g w w2 := ⟨fun B h1 h2 => (h.below B h1 h2).trans (hb.mono (by have := h.size; omega)), by have := h.size; have := hb.size; omega, fun k hk hn => (hb.block k (by have := h.size; omega)).trans (h.far k hk hn)⟩
theorem Kp.blk (h : Kp g w w1) {k : Nat} {T : TypeId} {cs : Array Value} (hb : Blk w k T cs) (hk : k ≠ g) : Blk w1 k T cs := (h.far k hb.lt hk).trans hb
theorem Kp.rd (h : Kp g w w1) {A : Option Addr} {n : Nat} {xs : List Value} (hr : Rd w A n xs) (ha : z2r A g) : Rd w1 A n xs :=
 ⟨hr.len, fun k u hk => by
  obtain ⟨ad, e, hc⟩ := hr.at_ k u hk
  refine ⟨ad, e, ?_⟩
  have hlt : (ad.add k).block < w.heap.size := by
   rcases Nat.lt_or_ge (ad.add k).block w.heap.size with hl | hl
   ·exact hl
   ·exfalso
    have : w.cell? (ad.add k) = none := by
     have hn : w.heap[(ad.add k).block]? = none := Array.getElem?_eq_none hl
     simp [World.cell?, World.cells?, hn]
    rw [this] at hc; cases hc
  rw [World.cell?_of_block (h.far _ hlt (by rw [z8y]; exact ha ad e))]
  exact hc⟩
theorem Kp.rdN (h : Kp g w w1) {A : Option Addr} {n : Nat} {xs : List Value} (hr : Rd w A n xs) (ha : n ≠ 0 → z2r A g) : Rd w1 A n xs := by
 by_cases h0 : n = 0
 ·exact zl4 hr h0 w1
 ·exact h.rd hr (ha h0)
theorem Kp.ev (h : Kp g w w1) {v : EvR} (hv : z1d w v) (ha : z85 g v) : z1d w1 v :=
 ⟨hv.vlen, h.rdN hv.vrd ha.1, hv.vcap, hv.vmax, ⟨hv.ard.len, h.rdN hv.ard.rd (fun h0 => ha.2 (fun e => h0 (by rw [e])))⟩, hv.acap, hv.amax, hv.non⟩
end
theorem zwl {P : Program} {w : World} {ops : Array Oper} {rest : List Oper} {o : Oper} {a : Act} {Q : Exit → Act → World → Prop} (hgd : o.guard = none) {T : TypeId} {i0 i1 i2 i3 i4 i5 i6 i7 : Nat} {x0 x1 x2 x3 x4 x5 x6 x7 : Operand} {v0 v1 v2 v3 v4 v5 v6 v7 v : Value} (ho : o.op = .build T #[(i0, x0), (i1, x1), (i2, x2), (i3, x3), (i4, x4), (i5, x5), (i6, x6), (i7, x7)]) (h0 : a.eval x0 = v0) (h1 : a.eval x1 = v1) (h2 : a.eval x2 = v2) (h3 : a.eval x3 = v3) (h4 : a.eval x4 = v4) (h5 : a.eval x5 = v5) (h6 : a.eval x6 = v6) (h7 : a.eval x7 = v7)
  (hr : ∀ W, (Instr.build T #[(i0, v0), (i1, v1), (i2, v2), (i3, v3), (i4, v4), (i5, v5), (i6, v6), (i7, v7)]).run P W = .ok v W) (h : wpList P ops Q rest (a.put o.dst v) w) : wpList P ops Q (o :: rest) a w := by
 refine wpList_plain hgd fun K hK => ?_
 unfold Oper.wp execOp
 simp only [ho, List.map_toArray, List.map_cons, List.map_nil, h0, h1, h2, h3, h4, h5, h6, h7, Sem.run_bind, hr, Result.andThen_ok, Sem.run_pure]
 exact hK _ _ h
theorem znv (A : Option Addr) (n : Nat) (W : World) : (Instr.build 27 #[(0, .int .i64 1), (1, .int .i64 1), (2, .int .i64 5), (3, .int .i64 7), (4, .int .i64 3), (5, .int .i64 9), (7, .slice A 2 2), (9, dgV n)]).run Tryz.prog W = .ok (evV ⟨⟨1, 1, 5, 7, 3, 9, 0, [1, 2], [], n⟩, A, 2, 2, none, 0, 0⟩) W := by kernel_rfl
theorem zef (k c d : Int) (W : World) : (Instr.build 27 #[(0, .int .i64 k), (1, .int .i64 c), (2, .int .i64 d)]).run Tryz.prog W = .ok (evV ⟨⟨k, c, d, 0, 0, 0, 0, [], [], 0⟩, none, 0, 0, none, 0, 0⟩) W := by kernel_rfl
theorem znu (W : World) : (Instr.build 25 #[(0, .int .u8 8)]).run Tryz.prog W = .ok (dgV z9w) W := by
 rw [show dgV z9w = .agg (bv (8 :: List.replicate 15 0)).toArray by rw [dg_bv, zud]]
 kernel_rfl
theorem znb (k : Key) (W : World) : (Instr.buildSlice 82 1 #[(0, z10 k)]).run Tryz.prog W = .ok (.slice (some ⟨W.heap.size, 0, none⟩) 1 1) (W.alloc (.cells (z0f k) 44)) := by kernel_rfl
theorem zws {w : World} {ops : Array Oper} {rest : List Oper} {o : Oper} {a : Act} {Q : Exit → Act → World → Prop} (hgd : o.guard = none) {x : Operand} {k : Key} (ho : o.op = .buildSlice 82 1 #[(0, x)]) (hx : a.eval x = z10 k)
  (h : ∀ w' g, RdK w' (some ⟨g, 0, none⟩) 1 [k] → Below w.heap.size w w' → wpList Tryz.prog ops Q rest (a.put o.dst (.slice (some ⟨g, 0, none⟩) 1 1)) w') : wpList Tryz.prog ops Q (o :: rest) a w := by
 have hr := z5u (xs := kv k) (Blk.new w 44 (kv k).toArray)
 have h2 := h _ _ ⟨rfl, by rw [zax] at hr; simpa [kvs] using hr⟩ ((Below.refl _ _).alloc (Nat.le_refl _) _)
 refine wpList_plain hgd fun K hK => ?_
 unfold Oper.wp execOp
 simp only [ho, List.map_toArray, List.map_cons, List.map_nil, hx, znb, Sem.run_bind, Result.andThen_ok, Sem.run_pure]
 exact hK _ _ h2
theorem zau {l : List EvR} {es : List Ev} (h : ye l = es) (hf : ∀ e ∈ es, z0x e ∧ z16 e) : z3x l := fun x hx => hf x.e (by rw [← h]; exact List.mem_map_of_mem hx)
theorem zf2 (k c d i o t f : Int) (n : Nat) (h : z1j [k, c, d, i, o, t, f]) : z0x ⟨k, c, d, i, o, t, f, [], [], n⟩ ∧ z16 ⟨k, c, d, i, o, t, f, [], [], n⟩ :=
 ⟨⟨fun x hx => absurd hx List.not_mem_nil, fun x hx => absurd hx List.not_mem_nil, h⟩, ⟨Nat.zero_le _, Nat.zero_le _, fun x hx => absurd hx List.not_mem_nil⟩⟩
theorem z65 {l : List Int} (h : l.all (fun x => decide (-9223372036854775808 ≤ x) && decide (x ≤ 9223372036854775807)) = true) : z1j l := by
 intro x hx
 have := List.all_eq_true.1 h x hx
 rw [Bool.and_eq_true, decide_eq_true_eq, decide_eq_true_eq] at this
 exact this
theorem zav : z0x z1n ∧ z16 z1n := ⟨⟨z65 (by decide), fun x hx => absurd hx List.not_mem_nil, z65 (by decide)⟩, ⟨by decide, by decide, fun x hx => absurd hx List.not_mem_nil⟩⟩
theorem zim : z0x z3e ∧ z16 z3e := zf2 _ _ _ _ _ _ _ _ (z65 (by decide))
theorem zq6 : z0x z6g ∧ z16 z6g := zf2 _ _ _ _ _ _ _ _ (z65 (by decide))
theorem zq5 : z0x z6f ∧ z16 z6f := zf2 _ _ _ _ _ _ _ _ (z65 (by decide))
abbrev z4i (e : Ev) : EvR := ⟨e, none, 0, 0, none, 0, 0⟩
theorem ze8 (W : World) (k c d : Int) : z1d W (z4i ⟨k, c, d, 0, 0, 0, 0, [], [], 0⟩) := ⟨rfl, Rd.none_ W, Nat.le_refl _, Nat.zero_le _, ⟨rfl, Rd.none_ W⟩, Nat.le_refl _, Nat.zero_le _, by show 0 < 2 ^ 128; decide⟩
theorem zhd (g : Nat) (e : Ev) : z85 g (z4i e) := ⟨fun _ => z2r.none g, fun _ => z2r.none g⟩
structure z5q (r : LgR) (L : Lg) : Prop where
 off : r.o = L.office
 en : r.en = L.events.length
 tn : r.tn = L.tops.length
 hn : r.hn = L.heads.length
 ev : ye r.es = L.events
 hs : r.hs = L.heads
theorem z5q.of {W : World} {r : LgR} {L : Lg} (h : z0l W r) (e : yx r = L) : z5q r L := by
 subst e
 exact ⟨rfl, by show r.en = (ye r.es).length; rw [z2u, h.ev.len], h.tp.len.symm, h.hd.len.symm, rfl, rfl⟩
theorem zrp (r : ShR) (v : Int) : (shC r).setIfInBounds 5 (.int .i64 v) = shC ⟨⟨{ r.s.face with til := v }, r.s.path, r.s.head⟩, r.A, r.n, r.c⟩ := by simp [shC, shL, fcL]
theorem zm8 : WfK z0h := ⟨by decide, by decide, by decide, by decide, by decide⟩
theorem z5e : z3h [z0h] ∧ (∀ k ∈ [z0h], z26 k = true) := ⟨by simp [z3h], fun k hk => by rw [List.mem_singleton.1 hk]; decide +kernel⟩

def z66 (hs : List Hd) (k : Nat) : Int := if k = 0 then 0 else (hs[k - 1]?.map Hd.commit).getD 0
theorem zqr (hs : List Hd) (k : Nat) (h : k < hs.length) : z66 hs (k + 1) = hs[k].commit := by
 unfold z66
 rw [if_neg (by omega), show k + 1 - 1 = k by omega, List.getElem?_eq_getElem h]
 rfl
theorem zrl (l : List EvR) (k : Nat) (hk : k < l.length) (hb : l.length ≤ 65536) : z2p k (z1b (ye l) k) ((ye l).drop k) = (if ¬ (l[k].e.kind < 1 ∨ 5 < l[k].e.kind) ∧ ¬ (l[k].e.commit ≠ (k : Int) + 1 ∨ l[k].e.day < z1b (ye l) k ∨ 1048576 < l[k].e.day) then z2p (k + 1) (z1b (ye l) (k + 1)) ((ye l).drop (k + 1)) else false) := by
 rw [zjt l k hk]
 unfold follows
 rw [zj5 l k (by omega), z2u, List.length_take, Nat.min_eq_left (by omega)]
 unfold fol
 by_cases h1 : l[k].e.kind < 1 ∨ 5 < l[k].e.kind
 ·rw [if_pos h1, if_neg (show ¬ ((1 : Int) = 0) by decide), if_neg (fun h => h.1 h1)]
 ·rw [if_neg h1]
  by_cases h2 : l[k].e.commit ≠ (k : Int) + 1 ∨ l[k].e.day < z1b (ye l) k ∨ 1048576 < l[k].e.day
  ·rw [if_pos h2, if_neg (show ¬ ((9 : Int) = 0) by decide), if_neg (fun h => h.2 h2)]
  ·rw [if_neg h2, if_neg (show ¬ 65536 ≤ k by omega), if_pos rfl, if_pos ⟨h1, h2⟩]
theorem ztr {H : He} (L : Les H) (r : LgR) (w : World) (h : z0l w r) (hn : r.en ≤ 1000000) (hhn : r.hn ≤ 1000000) (htn : r.tn ≤ 1000000) (hf : z3x r.es) (hg : RCon w) :
  Calls Tryz.prog 20 #[lgV r] w (BIs (z5i H (yx r)) w) := by
 obtain ⟨wa, hwa, hb0, q0⟩ := z8d w r
 have HWA := ya hwa
 have HQ0 := ya (fun W (h : Below wa.heap.size wa W) => q0.below h)
 have HEL := ya h.ev.len
 have HHL := ya h.hd.len
 have HE := ya (fun j (hj : j < r.es.length) W (hb : Below w.heap.size w W) => (h.ev.below hb).elem hj)
 have HHE := ya (fun j (hj : j < r.hs.length) W (hb : Below w.heap.size w W) => (h.hd.below hb).elem hj)
 have HDY := ya (fun k (hk : k ≤ r.en) W (hb : Below w.heap.size w W) => zt0 r k W (h.below hb) hk hn)
 have HLV := ya (fun k (hk : k ≤ r.en) W (hb : Below w.heap.size w W) => zg2 L r k W (h.below hb) hk hn hf (hg.below hb))
 have HLE := ya (fun k (hk : k ≤ r.en) => zbf H r.es k (by have := h.ev.len; omega))
 have HRT := ya (fun (l : List Nat) (A : Option Addr) (n c : Nat) W (hn' : n ≤ 1000000) (hr : RdD W A n l) (hnc : n ≤ c) (hcm : c ≤ maxLen) (hb : Below w.heap.size w W) => z9s L.nds n l A n c W (Nat.le_refl _) hn' hr hnc hcm (hg.below hb))
 have HRL := ya (fun (k : Nat) => z7u L.nds (z00 H ((ye r.es).take k)).length (z00 H ((ye r.es).take k)) (Nat.le_refl _) (zb0 L _))
 have HTE := ya (fun (l : List Nat) (A : Option Addr) (n c : Nat) W (hn' : n ≤ 1048576) (hr : RdD W A n l) (hb : Below w.heap.size w W) => ztq L.nds l A n c W hr hn' (hg.below hb))
 have HPF := ya (fun (l : List Nat) (hl : l.length < 1099511627776) => (zd2 H.nd H.em l hl).1)
 have HPL := ya (zft L.nds (z00 H (ye r.es)).length (z00 H (ye r.es)) (Nat.le_refl _) (zb0 L _))
 have HSM := ya (fun (l : List Nat) (A : Option Addr) (n c : Nat) W (hb : Below w.heap.size w W) (hr : RdD W A n l) (hn' : n ≤ 1000000) (hl : ∀ x ∈ l, x < 2 ^ 128) => zge l r.ts A n c r.tA r.tn r.tc W hr (h.below hb).tp hn' htn hl h.tl)
 have HK1 := ya (zrl r.es)
 have HK2 := ya (zjs r.es)
 have HKH := ya (fun la k hk => ziw H r.o (ye r.es) la r.hs k hk)
 have HKL := ya (zqr r.hs)
 have HHD := ya h.hl
 have HTK : Hid ((ye r.es).take r.en = ye r.es) := ya (List.take_of_length_le (by rw [z2u, h.ev.len]; exact Nat.le_refl _))
 have HTL := ya (fun k => zaz H r.es k)
 have HEN : Hid ((ye r.es).length = r.en) := ya (by rw [z2u, h.ev.len])
 have HV : Hid (z5i H (yx r) = (decide (0 ≤ r.o ∧ r.o < 32 ∧ r.en ≤ 65536) && (z2p 0 0 (ye r.es) && (z1w H r.o (ye r.es) 0 r.hs && (decide (r.s = (r.en : Int)) && decide (z0i H.nd H.em (z00 H (ye r.es)) = r.ts)))))) := ya (by
  unfold z5i
  rw [show (yx r).events = ye r.es from rfl, z2u, h.ev.len]
  rfl)
 have h5 := z5b r
 have h25 := z2t
 have h36 := z1v
 have hsh : ∀ h' : Hd, (hdC h').size = 36 := z4v
 have c0 := z67 q0
 have c1 := z3v q0
 have hlt0 := q0.lt
 clear hwa q0 h hf hg L
 generalize z5i H (yx r) = X at *
 unfold BIs at *
 obtain ⟨N, hN⟩ : ∃ N, r.en = N := ⟨_, rfl⟩
 rw [hN] at c1 hn HEL HDY HLV HLE HTK HEN HV
 have HNN := ya hN
 obtain ⟨EA, hEA⟩ : ∃ x, r.eA = x := ⟨_, rfl⟩
 rw [hEA] at c1 HE
 have HEA := ya hEA
 obtain ⟨HA, hHA⟩ : ∃ x, r.hA = x := ⟨_, rfl⟩
 rw [hHA] at HHE
 have HHA := ya hHA
 obtain ⟨OF, hOF⟩ : ∃ x, r.o = x := ⟨_, rfl⟩
 rw [hOF] at c0 HV HKH
 have HOF := ya hOF
 clear hN hEA hHA hOF
 rcases z6w OF 0 with ⟨k1, e1⟩ | ⟨k1, e1⟩
 ·have hX : X = false := by rw [HV.out, decide_eq_false (by omega), Bool.false_and]
  subst hX
  clear HV HE HHE HDY HLV HLE HRT HRL HTE HPF HPL HSM HK1 HK2 HKH HKL HTK HTL HEN k1
  go_enter Tryz.func20, Tryz.ntmps20
  go_upto_region 1 with fail
  change Code.wp _ _ _ _ (w.alloc (.cells (lgC r) 42))
  rw [← HWA.out]
  go_wp2_with fail
  go_ret
  exact ⟨rfl, hb0⟩
 rcases z6w 31 OF with ⟨k2, e2⟩ | ⟨k2, e2⟩
 ·have hX : X = false := by rw [HV.out, decide_eq_false (by omega), Bool.false_and]
  subst hX
  clear HV HE HHE HDY HLV HLE HRT HRL HTE HPF HPL HSM HK1 HK2 HKH HKL HTK HTL HEN k1 k2
  go_enter Tryz.func20, Tryz.ntmps20
  go_upto_region 1 with fail
  change Code.wp _ _ _ _ (w.alloc (.cells (lgC r) 42))
  rw [← HWA.out]
  go_wp2_with fail
  go_ret
  exact ⟨rfl, hb0⟩
 by_cases k3 : 65536 < N
 ·have hX : X = false := by rw [HV.out, decide_eq_false (by omega), Bool.false_and]
  subst hX
  have dn : decide ((65536 : Int) < (N : Int)) = true := by rw [decide_eq_true_eq]; omega
  have dn2 : decide (65536 < N) = true := by rw [decide_eq_true_eq]; omega
  clear HV HE HHE HDY HLV HLE HRT HRL HTE HPF HPL HSM HK1 HK2 HKH HKL HTK HTL HEN k1 k2 k3
  go_enter Tryz.func20, Tryz.ntmps20
  go_upto_region 1 with fail
  change Code.wp _ _ _ _ (w.alloc (.cells (lgC r) 42))
  rw [← HWA.out]
  go_wp2_with fail
  go_ret
  exact ⟨rfl, hb0⟩
 have HX : Hid (X = (z2p 0 0 (ye r.es) && (z1w H OF (ye r.es) 0 r.hs && (decide (r.s = (N : Int)) && decide (z0i H.nd H.em (z00 H (ye r.es)) = r.ts))))) := ya (by
  rw [HV.out, decide_eq_true (show 0 ≤ OF ∧ OF < 32 ∧ N ≤ 65536 from ⟨by omega, by omega, by omega⟩), Bool.true_and])
 have hbig : N ≤ 65536 := by omega
 have dn : decide ((65536 : Int) < (N : Int)) = false := by rw [decide_eq_false_iff_not]; omega
 have dn2 : decide (65536 < N) = false := by rw [decide_eq_false_iff_not]; omega
 clear HV k1 k2 k3
 go_enter Tryz.func20, Tryz.ntmps20
 go_upto_region 1 with fail
 change Code.wp _ _ _ _ (w.alloc (.cells (lgC r) 42))
 rw [← HWA.out]
 go_wp2_with fail
 clear dn dn2
 go_loopw [3] (fun v3 wr => ∃ k : Nat, v3 = .int .i64 (k : Int) ∧ k ≤ N ∧ Below wa.heap.size wa wr ∧ Hid (z2p 0 0 (ye r.es) = z2p k (z1b (ye r.es) k) ((ye r.es).drop k))) (fun v3 _ => N - (intOf v3).toNat)
 case atStart => exact ⟨0, rfl, by omega, Below.refl _ _, ya rfl⟩
 case round =>
  obtain ⟨k, rfl, hk, hbw, HG⟩ := hrel
  have y1 := z3v (HQ0.out _ hbw)
  rw [HNN.out, HEA.out] at y1
  by_cases hlt : k < N
  ·have hke : k < r.es.length := by rw [HEL.out]; exact hlt
   have dj : decide ((k : Int) < (N : Int)) = true := by rw [decide_eq_true_eq]; omega
   have djn : decide (k < N) = true := by rw [decide_eq_true_eq]; omega
   obtain ⟨ad, rfl, hce⟩ := HE.out k hke wr (yb hb0 hbw)
   have HSk := ya (HK1.out k hke (by rw [HEL.out]; exact hbig))
   have HDYk := ya (HDY.out k (by omega))
   generalize r.es[k] = ev at *
   generalize z1b (ye r.es) k = DK at *
   have h25v := h25 ev
   clear HLV HDY HRT HRL HTE HPF HPL HSM HKH HKL HHE HE hke HK1 HK2 HTL HLE
   go_upto_region 7 with (first
    | ((with_reducible show sl 33); refine yj (us := evL ev) rfl rfl rfl z29 (by rw [z1z, h25v]) hce ?_)
    | ((with_reducible show sl 4); refine z0t rfl rfl ze2 ?_; intro w3 g3 hg3 b3 hb3 lt3; have hg3' : wr.heap.size ≤ g3 := (by omega); clear hg3 lt3)
    | ((with_reducible show sn); refine z01 (vs := evC ev) rfl rfl rfl rfl b3 (by rw [z47, z47]) (by rw [z1z, z47]) (zcw _) ?_; intro w4 ht4 b4))
   have hb4 : Below wr.heap.size wr w4 := hb3.trans (ht4.below _ hg3')
   obtain ⟨kd, ek⟩ : ∃ x, ev.e.kind = x := ⟨_, rfl⟩
   obtain ⟨cm, ec⟩ : ∃ x, ev.e.commit = x := ⟨_, rfl⟩
   obtain ⟨dy, ey⟩ : ∃ x, ev.e.day = x := ⟨_, rfl⟩
   have v0 : w4.cell? ⟨g3, 0, none⟩ = some (.int .i64 ev.e.kind) := z30 b4 0
   have v1 : w4.cell? ⟨g3, 1, none⟩ = some (.int .i64 ev.e.commit) := z30 b4 1
   have v2 : w4.cell? ⟨g3, 2, none⟩ = some (.int .i64 ev.e.day) := z30 b4 2
   rw [ek] at v0 HSk
   rw [ec] at v1 HSk
   rw [ey] at v2 HSk
   replace hbw := yb hbw hb4
   have yr := z11 (HQ0.out _ hbw)
   have hbx := yb hb0 hbw
   clear ek ec ey y1 b3 hb3 ht4 b4 hg3' hce hb4
   have hS : Below w4.heap.size w4 w4.drew := (Below.refl _ _).drew
   rcases z6w kd 1 with ⟨t1, e1⟩ | ⟨t1, e1⟩
   ·have hX : X = false := by rw [HX.out, HG.out, HSk.out, if_neg (fun h => h.1 (.inl t1)), Bool.false_and]
    subst hX
    clear HG HSk HX t1
    go_quiet (fail)
    go_wp2_with fail
    go_ret
    exact ⟨rfl, yb hbx ⟨rfl, rfl, rfl, Nat.le_refl _, fun _ _ => rfl⟩⟩
   rcases z6w 5 kd with ⟨t2, e2⟩ | ⟨t2, e2⟩
   ·have hX : X = false := by rw [HX.out, HG.out, HSk.out, if_neg (fun h => h.1 (.inr t2)), Bool.false_and]
    subst hX
    clear HG HSk HX t1 t2
    go_quiet (fail)
    go_wp2_with fail
    go_ret
    exact ⟨rfl, yb hbx ⟨rfl, rfl, rfl, Nat.le_refl _, fun _ _ => rfl⟩⟩
   rcases z48 cm ((k : Int) + 1) with ⟨t3, e3, f3, d3⟩ | ⟨t3, e3, f3, d3⟩
   rotate_left
   ·have hX : X = false := by rw [HX.out, HG.out, HSk.out, if_neg (fun h => h.2 (.inl t3)), Bool.false_and]
    subst hX
    clear HG HSk HX t1 t2 t3
    refine yq 28 (by kernel_rfl) ?_
    refine WpT.tk 0 hS ?_
    simp only [nrm]
    refine WpT.tl 1 rfl (yh rfl rfl rfl (by kernel_rfl) v0) hS ?_
    simp only [nrm]
    refine WpT.tk 2 hS ?_
    simp only [nrm]
    refine WpT.tk 3 hS ?_
    simp only [nrm]
    refine WpT.tk 4 hS ?_
    simp only [nrm]
    refine WpT.tl 5 rfl (z13 (by rfl) rfl rfl (by kernel_rfl) v0) hS ?_
    simp only [nrm]
    refine WpT.tk 6 hS ?_
    simp only [nrm]
    refine WpT.tk 7 hS ?_
    simp only [nrm]
    refine WpT.tk 8 hS ?_
    simp only [nrm]
    refine WpT.tk 9 hS ?_
    simp only [nrm]
    refine WpT.tl 10 rfl (z13 (by rfl) rfl rfl (by kernel_rfl) v1) hS ?_
    simp only [nrm]
    refine WpT.tk 11 hS ?_
    simp only [nrm]
    refine WpT.tk 12 hS ?_
    simp only [nrm]
    refine WpT.tk 13 hS ?_
    simp only [nrm]
    refine WpT.tk 14 hS ?_
    simp only [nrm]
    refine WpT.tk 15 hS ?_
    simp only [nrm]
    refine WpT.of [(16, 50), (17, 51), (18, 52)] (hS) ?_
    simp only [nrm]
    refine WpT.of [(19, 53), (20, 54), (21, 55)] (hS) ?_
    simp only [nrm]
    refine WpT.tk 22 hS ?_
    simp only [nrm]
    refine WpT.tk 23 hS ?_
    simp only [nrm]
    refine WpT.of [(24, 58), (25, 59), (26, 60)] (hS) ?_
    simp only [nrm]
    refine WpT.tk 27 hS ?_
    simp only [nrm]
    refine WpT.done (by kernel_rfl) ?_ _
    skip
    go_wp2_with fail
    go_ret
    exact ⟨rfl, yb hbx hS⟩
   rcases z6w dy DK with ⟨t4, e4⟩ | ⟨t4, e4⟩
   ·have hX : X = false := by rw [HX.out, HG.out, HSk.out, if_neg (fun h => h.2 (.inr (.inl t4))), Bool.false_and]
    subst hX
    clear HG HSk HX t1 t2 t3 t4
    refine yq 28 (by kernel_rfl) ?_
    refine WpT.tk 0 hS ?_
    simp only [nrm]
    refine WpT.tl 1 rfl (yh rfl rfl rfl (by kernel_rfl) v0) hS ?_
    simp only [nrm]
    refine WpT.tk 2 hS ?_
    simp only [nrm]
    refine WpT.tk 3 hS ?_
    simp only [nrm]
    refine WpT.tk 4 hS ?_
    simp only [nrm]
    refine WpT.tl 5 rfl (z13 (by rfl) rfl rfl (by kernel_rfl) v0) hS ?_
    simp only [nrm]
    refine WpT.tk 6 hS ?_
    simp only [nrm]
    refine WpT.tk 7 hS ?_
    simp only [nrm]
    refine WpT.tk 8 hS ?_
    simp only [nrm]
    refine WpT.tk 9 hS ?_
    simp only [nrm]
    refine WpT.tl 10 rfl (z13 (by rfl) rfl rfl (by kernel_rfl) v1) hS ?_
    simp only [nrm]
    refine WpT.tk 11 hS ?_
    simp only [nrm]
    refine WpT.tk 12 hS ?_
    simp only [nrm]
    refine WpT.tk 13 hS ?_
    simp only [nrm]
    refine WpT.tk 14 hS ?_
    simp only [nrm]
    refine WpT.tk 15 hS ?_
    simp only [nrm]
    refine WpT.tk 16 hS ?_
    simp only [nrm]
    refine WpT.tl 17 rfl (z13 (by rfl) rfl rfl (by kernel_rfl) v2) hS ?_
    simp only [nrm]
    refine WpT.tl 18 rfl (z54 (us := lgL r) (by rfl) rfl rfl z04 (by rw [yy, h5]) yr) hS ?_
    simp only [nrm]
    refine WpT.tk 19 hS ?_
    simp only [nrm]
    refine WpT.on 20 rfl (fun K hK => ?_)
    go_simp; refine (HDYk.out _ (yb hbx hS)).mono ?_; rintro e w5 ⟨rfl, hb5⟩; replace hS := yb hS hb5
    refine hK _ _ hS ?_; clear hK K; try simp only [nrm]
    refine WpT.tk 21 hS ?_
    simp only [nrm]
    refine WpT.tk 22 hS ?_
    simp only [nrm]
    refine WpT.tk 23 hS ?_
    simp only [nrm]
    refine WpT.of [(24, 58), (25, 59), (26, 60)] (hS) ?_
    simp only [nrm]
    refine WpT.tk 27 hS ?_
    simp only [nrm]
    refine WpT.done (by kernel_rfl) ?_ _
    skip
    go_wp2_with fail
    go_ret
    exact ⟨rfl, yb hbx hS⟩
   rcases z6w 1048576 dy with ⟨t5, e5⟩ | ⟨t5, e5⟩
   ·have hX : X = false := by rw [HX.out, HG.out, HSk.out, if_neg (fun h => h.2 (.inr (.inr t5))), Bool.false_and]
    subst hX
    clear HG HSk HX t1 t2 t3 t4 t5
    refine yq 28 (by kernel_rfl) ?_
    refine WpT.tk 0 hS ?_
    simp only [nrm]
    refine WpT.tl 1 rfl (yh rfl rfl rfl (by kernel_rfl) v0) hS ?_
    simp only [nrm]
    refine WpT.tk 2 hS ?_
    simp only [nrm]
    refine WpT.tk 3 hS ?_
    simp only [nrm]
    refine WpT.tk 4 hS ?_
    simp only [nrm]
    refine WpT.tl 5 rfl (z13 (by rfl) rfl rfl (by kernel_rfl) v0) hS ?_
    simp only [nrm]
    refine WpT.tk 6 hS ?_
    simp only [nrm]
    refine WpT.tk 7 hS ?_
    simp only [nrm]
    refine WpT.tk 8 hS ?_
    simp only [nrm]
    refine WpT.tk 9 hS ?_
    simp only [nrm]
    refine WpT.tl 10 rfl (z13 (by rfl) rfl rfl (by kernel_rfl) v1) hS ?_
    simp only [nrm]
    refine WpT.tk 11 hS ?_
    simp only [nrm]
    refine WpT.tk 12 hS ?_
    simp only [nrm]
    refine WpT.tk 13 hS ?_
    simp only [nrm]
    refine WpT.tk 14 hS ?_
    simp only [nrm]
    refine WpT.tk 15 hS ?_
    simp only [nrm]
    refine WpT.tk 16 hS ?_
    simp only [nrm]
    refine WpT.tl 17 rfl (z13 (by rfl) rfl rfl (by kernel_rfl) v2) hS ?_
    simp only [nrm]
    refine WpT.tl 18 rfl (z54 (us := lgL r) (by rfl) rfl rfl z04 (by rw [yy, h5]) yr) hS ?_
    simp only [nrm]
    refine WpT.tk 19 hS ?_
    simp only [nrm]
    refine WpT.on 20 rfl (fun K hK => ?_)
    go_simp; refine (HDYk.out _ (yb hbx hS)).mono ?_; rintro e w5 ⟨rfl, hb5⟩; replace hS := yb hS hb5
    refine hK _ _ hS ?_; clear hK K; try simp only [nrm]
    refine WpT.tk 21 hS ?_
    simp only [nrm]
    refine WpT.tk 22 hS ?_
    simp only [nrm]
    refine WpT.tk 23 hS ?_
    simp only [nrm]
    refine WpT.tk 24 hS ?_
    simp only [nrm]
    refine WpT.tl 25 rfl (z13 (by rfl) rfl rfl (by kernel_rfl) v2) hS ?_
    simp only [nrm]
    refine WpT.tk 26 hS ?_
    simp only [nrm]
    refine WpT.tk 27 hS ?_
    simp only [nrm]
    refine WpT.done (by kernel_rfl) ?_ _
    skip
    go_wp2_with fail
    go_ret
    exact ⟨rfl, yb hbx hS⟩
   have HG2 : Hid (z2p 0 0 (ye r.es) = z2p (k + 1) (z1b (ye r.es) (k + 1)) ((ye r.es).drop (k + 1))) := ya (by rw [HG.out, HSk.out, if_pos ⟨by omega, by omega⟩])
   clear HG HSk HX t1 t2 t3 t4 t5
   refine yq 28 (by kernel_rfl) ?_
   refine WpT.tk 0 hS ?_
   simp only [nrm]
   refine WpT.tl 1 rfl (yh rfl rfl rfl (by kernel_rfl) v0) hS ?_
   simp only [nrm]
   refine WpT.tk 2 hS ?_
   simp only [nrm]
   refine WpT.tk 3 hS ?_
   simp only [nrm]
   refine WpT.tk 4 hS ?_
   simp only [nrm]
   refine WpT.tl 5 rfl (z13 (by rfl) rfl rfl (by kernel_rfl) v0) hS ?_
   simp only [nrm]
   refine WpT.tk 6 hS ?_
   simp only [nrm]
   refine WpT.tk 7 hS ?_
   simp only [nrm]
   refine WpT.tk 8 hS ?_
   simp only [nrm]
   refine WpT.tk 9 hS ?_
   simp only [nrm]
   refine WpT.tl 10 rfl (z13 (by rfl) rfl rfl (by kernel_rfl) v1) hS ?_
   simp only [nrm]
   refine WpT.tk 11 hS ?_
   simp only [nrm]
   refine WpT.tk 12 hS ?_
   simp only [nrm]
   refine WpT.tk 13 hS ?_
   simp only [nrm]
   refine WpT.tk 14 hS ?_
   simp only [nrm]
   refine WpT.tk 15 hS ?_
   simp only [nrm]
   refine WpT.tk 16 hS ?_
   simp only [nrm]
   refine WpT.tl 17 rfl (z13 (by rfl) rfl rfl (by kernel_rfl) v2) hS ?_
   simp only [nrm]
   refine WpT.tl 18 rfl (z54 (us := lgL r) (by rfl) rfl rfl z04 (by rw [yy, h5]) yr) hS ?_
   simp only [nrm]
   refine WpT.tk 19 hS ?_
   simp only [nrm]
   refine WpT.on 20 rfl (fun K hK => ?_)
   go_simp; refine (HDYk.out _ (yb hbx hS)).mono ?_; rintro e w5 ⟨rfl, hb5⟩; replace hS := yb hS hb5
   refine hK _ _ hS ?_; clear hK K; try simp only [nrm]
   refine WpT.tk 21 hS ?_
   simp only [nrm]
   refine WpT.tk 22 hS ?_
   simp only [nrm]
   refine WpT.tk 23 hS ?_
   simp only [nrm]
   refine WpT.tk 24 hS ?_
   simp only [nrm]
   refine WpT.tl 25 rfl (z13 (by rfl) rfl rfl (by kernel_rfl) v2) hS ?_
   simp only [nrm]
   refine WpT.tk 26 hS ?_
   simp only [nrm]
   refine WpT.tk 27 hS ?_
   simp only [nrm]
   refine WpT.done (by kernel_rfl) ?_ _
   skip
   go_wp2_with fail
   exact ⟨⟨k + 1, by go_num, by omega, yb hbw hS, HG2⟩, by simp [intOf]; omega⟩
  ·obtain rfl : k = N := by omega
   have dj : decide ((k : Int) < (k : Int)) = false := by rw [decide_eq_false_iff_not]; omega
   have djn : decide (k < k) = false := by rw [decide_eq_false_iff_not]; omega
   have HX2 : Hid (X = (z1w H OF (ye r.es) 0 r.hs && (decide (r.s = (k : Int)) && decide (z0i H.nd H.em (z00 H (ye r.es)) = r.ts)))) := ya (by
    have := HK2.out
    rw [HEL.out] at this
    rw [HX.out, HG.out, this, Bool.true_and])
   clear HX HG HK1 HK2 HE
   go_wp2_with fail
   clear dj djn y1
   obtain ⟨w2, hw2⟩ : ∃ w2, w2 = wr := ⟨_, rfl⟩
   subst hw2
   go_loopw [5] (fun v5 wx => ∃ q : Nat, v5 = .int .i64 (q : Int) ∧ q ≤ r.hn ∧ 0 ≤ z66 r.hs q ∧ Below w2.heap.size w2 wx ∧ Hid (z1w H OF (ye r.es) 0 r.hs = z1w H OF (ye r.es) (z66 r.hs q) (r.hs.drop q))) (fun v5 _ => r.hn - (intOf v5).toNat)
   case atStart => exact ⟨0, rfl, by omega, by unfold z66; rw [if_pos rfl]; exact Int.le_refl _, Below.refl _ _, ya rfl⟩
   case round =>
    obtain ⟨q, rfl, hq, hla, hbw2, HH⟩ := hrel
    have hbx := yb hb0 (yb hbw hbw2)
    have z4 := z68 (HQ0.out _ (yb hbw hbw2))
    rw [HHA.out] at z4
    by_cases hqn : q < r.hn
    ·have hqe : q < r.hs.length := by rw [HHL.out]; exact hqn
     have dq : decide ((q : Int) < (r.hn : Int)) = true := by rw [decide_eq_true_eq]; omega
     have dqn : decide (q < r.hn) = true := by rw [decide_eq_true_eq]; omega
     obtain ⟨ad, rfl, hce⟩ := HHE.out q hqe wr hbx
     have HPV : Hid (∀ m, q = m + 1 → wr.cell? ⟨(ad.add (m * 36)).block, (ad.add (m * 36)).off + 1, none⟩ = some (.int .i64 (z66 r.hs q))) := ya (fun m hm => by
      subst hm
      have hm1 : m < r.hs.length := by omega
      obtain ⟨ad', e', hc'⟩ := HHE.out m hm1 wr hbx
      injection e' with e'
      subst e'
      have := hc' 1 _ (show (hdL r.hs[m])[1]? = some (.int .i64 r.hs[m].commit) from rfl)
      rw [HKL.out m hm1]
      exact this)
     have HSq := ya (HKH.out (z66 r.hs q) q hqe)
     have HL1 := ya (HKL.out q hqe)
     have hlt := HHD.out r.hs[q] (List.getElem_mem hqe)
     generalize r.hs[q] = hd at *
     obtain ⟨LA, hLA⟩ : ∃ x, z66 r.hs q = x := ⟨_, rfl⟩
     have HLA0 : Hid (q = 0 → LA = 0) := ya (fun h => by rw [← hLA, h]; rfl)
     rw [hLA] at HPV HSq HH hla
     clear hLA HHE HHD HKH HKL hqe
     have h36v := h36 hd
     go_upto_region 13 with (first
      | ((with_reducible show sl 73); refine yj (us := hdL hd) rfl rfl rfl yz (by rw [yt, h36v]) hce ?_)
      | ((with_reducible show sl 6); refine z0t rfl rfl z4p ?_; intro w3 g3 hg3 b3 hb3 lt3; have hg3' : wr.heap.size ≤ g3 := (by omega); clear hg3 lt3)
      | ((with_reducible show sn); refine z01 (vs := hdC hd) rfl rfl rfl rfl b3 (by rw [hsh, hsh]) (by rw [yt, hsh]) (z4m _) ?_; intro w4 ht4 b4))
     have hb4 : Below wr.heap.size wr w4 := hb3.trans (ht4.below _ hg3')
     have HPV4 := ya (fun m hm => cell_later hb4 (HPV.out m hm))
     have hbw4 := yb hbw2 hb4
     have u0 := z67 (HQ0.out _ (yb hbw hbw4))
     rw [HOF.out] at u0
     have u1 := z3v (HQ0.out _ (yb hbw hbw4))
     rw [HNN.out] at u1
     have u4 := z68 (HQ0.out _ (yb hbw hbw4))
     rw [HHA.out] at u4
     have ur := z11 (HQ0.out _ (yb hbw hbw4))
     have x0 := z31 b4
     have x1 := z1k b4
     have x2 := z32 b4
     have HX3 := z3a b4
     obtain ⟨ho, eo⟩ : ∃ x, hd.office = x := ⟨_, rfl⟩
     obtain ⟨hcm, ecm⟩ : ∃ x, hd.commit = x := ⟨_, rfl⟩
     obtain ⟨hdy, edy⟩ : ∃ x, hd.day = x := ⟨_, rfl⟩
     rw [eo] at x0 HSq
     rw [ecm] at x1 HSq HL1
     rw [edy] at x2 HSq
     have hbx4 := yb hbx hb4
     clear eo ecm edy z4 b3 hb3 ht4 b4 hg3' hce hb4 HPV hbx
     have HEN2 := HEN.out
     rw [HEN2] at HSq
     clear HEN2
     simp only [nrm]
     go_cut [107] from 62 to 124 (fun v107 wx => ∃ b : Bool, v107 = .bool b ∧ (b = true → Hid (X = false)) ∧ (b = false → ho = OF ∧ LA ≤ hcm ∧ hcm ≤ (k : Int)) ∧ Below w4.heap.size w4 wx)
     case first =>
      rcases z48 ho OF with ⟨t1, e1, f1, d1⟩ | ⟨t1, e1, f1, d1⟩
      rotate_left
      ·have HF : Hid (X = false) := ya (by rw [HX2.out, HH.out, HSq.out, if_neg (fun h => t1 h.1), Bool.false_and])
       clear HX2 HH HSq t1
       go_quiet (fail)
       go_wp2_with fail
       go_meet
       exact ⟨true, rfl, fun _ => HF, (fun h => by cases h), ⟨rfl, rfl, rfl, Nat.le_refl _, fun _ _ => rfl⟩⟩
      rcases z6w hcm 0 with ⟨t2, e2⟩ | ⟨t2, e2⟩
      ·have HF : Hid (X = false) := ya (by rw [HX2.out, HH.out, HSq.out, if_neg (fun h => by have := h.2.1; omega), Bool.false_and])
       clear HX2 HH HSq t1 t2
       go_quiet (fail)
       go_wp2_with fail
       go_meet
       exact ⟨true, rfl, fun _ => HF, (fun h => by cases h), ⟨rfl, rfl, rfl, Nat.le_refl _, fun _ _ => rfl⟩⟩
      rcases z6w (k : Int) hcm with ⟨t3, e3⟩ | ⟨t3, e3⟩
      ·have HF : Hid (X = false) := ya (by rw [HX2.out, HH.out, HSq.out, if_neg (fun h => by have := h.2.2.1; omega), Bool.false_and])
       clear HX2 HH HSq t1 t2 t3
       go_quiet (fail)
       go_wp2_with fail
       go_meet
       exact ⟨true, rfl, fun _ => HF, (fun h => by cases h), ⟨rfl, rfl, rfl, Nat.le_refl _, fun _ _ => rfl⟩⟩
      rcases q with _ | m
      ·have hl0 : LA ≤ hcm := by have := HLA0.out rfl; omega
       have hr : ho = OF ∧ LA ≤ hcm ∧ hcm ≤ (k : Int) := ⟨t1, hl0, by omega⟩
       clear HX2 HH HSq t1 t2 t3 hl0
       go_quiet (fail)
       go_wp2_with fail
       go_meet
       exact ⟨false, rfl, (fun h => by cases h), fun _ => hr, ⟨rfl, rfl, rfl, Nat.le_refl _, fun _ _ => rfl⟩⟩
      have xp := HPV4.out m rfl
      have hm : 0 ≤ ((m + 1 : Nat) : Int) - 1 ∧ ((m + 1 : Nat) : Int) - 1 < (r.hn : Int) := by omega
      have hm0 : m < r.hn := by omega
      have hj1 : ((m + 1 : Nat) : Int) - 1 = (m : Int) := by omega
      have hwr : Go.IntKind.i64.wrap (((m + 1 : Nat) : Int) - 1) = (m : Int) := by rw [IntKind.wrap_i64]; omega
      have dm : decide ((0 : Int) < ((m + 1 : Nat) : Int)) = true := by rw [decide_eq_true_eq]; omega
      rcases z6w hcm LA with ⟨t4, e4⟩ | ⟨t4, e4⟩
      ·have HF : Hid (X = false) := ya (by rw [HX2.out, HH.out, HSq.out, if_neg (fun h => by have := h.2.1; omega), Bool.false_and])
       clear HX2 HH HSq t1 t2 t3 t4
       go_quiet (fail)
       go_wp2_with fail
       go_meet
       exact ⟨true, rfl, fun _ => HF, (fun h => by cases h), ⟨rfl, rfl, rfl, Nat.le_refl _, fun _ _ => rfl⟩⟩
      have hr : ho = OF ∧ LA ≤ hcm ∧ hcm ≤ (k : Int) := ⟨t1, by omega, by omega⟩
      clear HX2 HH HSq t1 t2 t3 t4
      go_quiet (fail)
      go_wp2_with fail
      go_meet
      exact ⟨false, rfl, (fun h => by cases h), fun _ => hr, ⟨rfl, rfl, rfl, Nat.le_refl _, fun _ _ => rfl⟩⟩
     case rest =>
      obtain ⟨b, rfl, hbt, hbf, hbw5⟩ := hcut
      have hbxc := yb hbx4 hbw5
      cases b with
      | true =>
       have hX : X = false := (hbt rfl).out
       subst hX
       clear HX2 HH HSq hbt hbf
       go_wp2_with fail
       go_ret
       exact ⟨rfl, hbxc⟩
      | false =>
       obtain ⟨t1, t2, t3⟩ := hbf rfl
       obtain ⟨kc, rfl⟩ : ∃ kc : Nat, hcm = kc := ⟨hcm.toNat, by omega⟩
       have hkc : kc ≤ k := by omega
       have HDYk := ya (HDY.out kc hkc)
       have HLVk := ya (HLV.out kc hkc)
       have HLEk := ya (HLE.out kc hkc)
       have HRLk := HRL.out kc
       have HSq2 : Hid (z1w H OF (ye r.es) LA (r.hs.drop q) = if hdy = z1b (ye r.es) kc ∧ root H.nd H.em (z00 H ((ye r.es).take kc)) = hd.root then z1w H OF (ye r.es) (kc : Int) (r.hs.drop (q + 1)) else false) := ya (by
        rw [HSq.out, HTL.out kc]
        by_cases hh : hdy = z1b (ye r.es) kc ∧ root H.nd H.em ((z00 H (ye r.es)).take kc) = hd.root
        ·rw [if_pos hh, if_pos ⟨t1, t2, t3, by rw [Int.toNat_natCast]; exact hh.1, by rw [Int.toNat_natCast]; exact hh.2⟩]
        ·rw [if_neg hh, if_neg (fun h => hh ⟨by have := h.2.2.2.1; rwa [Int.toNat_natCast] at this, by have := h.2.2.2.2; rwa [Int.toNat_natCast] at this⟩)])
       replace x1 := cell_later hbw5 x1
       replace x2 := cell_later hbw5 x2
       replace ur := fun j u h => cell_later hbw5 (ur j u h)
       have xr := fun j u h => cell_later hbw5 (HX3 j u h)
       have HRTk := ya (fun A c W => HRT.out (z00 H ((ye r.es).take kc)) A kc c W (by omega))
       unfold z61 at HLVk
       unfold z2z at HRTk
       generalize z1b (ye r.es) kc = DK at *
       generalize z00 H ((ye r.es).take kc) = LV at *
       generalize root H.nd H.em LV = RK at *
       clear HSq hbt hbf t1 t2 HX3 HDY HLV HLE HRL HRT HTE HPF HPL HSM HTL HTK HPV4 x0 u0 u1 u4 HLA0
       go_upto_region 15 with fail
       have hS : Below wc.heap.size wc wc.drew := (Below.refl _ _).drew
       rcases z48 hdy DK with ⟨t4, e4, f4, d4⟩ | ⟨t4, e4, f4, d4⟩
       rotate_left
       ·have hX : X = false := by rw [HX2.out, HH.out, HSq2.out, if_neg (fun h => t4 h.1), Bool.false_and]
        subst hX
        clear HX2 HH HSq2 t4
        refine yq 17 (by kernel_rfl) ?_
        refine WpT.tk 0 hS ?_
        simp only [nrm]
        refine WpT.tl 1 rfl (yh rfl rfl rfl (by kernel_rfl) x2) hS ?_
        simp only [nrm]
        refine WpT.tl 2 rfl (z07 (us := lgL r) rfl rfl rfl z04 (by rw [yy, h5]) ur) hS ?_
        simp only [nrm]
        refine WpT.tk 3 hS ?_
        simp only [nrm]
        refine WpT.tl 4 rfl (yh rfl rfl rfl (by kernel_rfl) x1) hS ?_
        simp only [nrm]
        refine WpT.on 5 rfl (fun K hK => ?_)
        go_simp; refine (HDYk.out _ (yb hbxc hS)).mono ?_; rintro e w4 ⟨rfl, hb4⟩; replace hS := yb hS hb4
        refine hK _ _ hS ?_; clear hK K; try simp only [nrm]
        refine WpT.tk 6 hS ?_
        simp only [nrm]
        refine WpT.tk 7 hS ?_
        simp only [nrm]
        refine WpT.of [(8, 116), (9, 117), (10, 118)] (hS) ?_
        simp only [nrm]
        refine WpT.of [(11, 119), (12, 120), (13, 121)] (hS) ?_
        simp only [nrm]
        refine WpT.of [(14, 122), (15, 123)] (hS) ?_
        simp only [nrm]
        refine WpT.tk 16 hS ?_
        simp only [nrm]
        refine WpT.done (by kernel_rfl) ?_ _
        skip
        go_wp2_with fail
        go_ret
        exact ⟨rfl, yb hbxc hS⟩
       by_cases hrk : RK = hd.root
       rotate_left
       ·have hX : X = false := by rw [HX2.out, HH.out, HSq2.out, if_neg (fun h => hrk h.2), Bool.false_and]
        subst hX
        have hrt : (!decide (RK = hd.root)) = true := by simp [hrk]
        clear HX2 HH HSq2 t4 hrk
        refine yq 17 (by kernel_rfl) ?_
        refine WpT.tk 0 hS ?_
        simp only [nrm]
        refine WpT.tl 1 rfl (yh rfl rfl rfl (by kernel_rfl) x2) hS ?_
        simp only [nrm]
        refine WpT.tl 2 rfl (z07 (us := lgL r) rfl rfl rfl z04 (by rw [yy, h5]) ur) hS ?_
        simp only [nrm]
        refine WpT.tk 3 hS ?_
        simp only [nrm]
        refine WpT.tl 4 rfl (yh rfl rfl rfl (by kernel_rfl) x1) hS ?_
        simp only [nrm]
        refine WpT.on 5 rfl (fun K hK => ?_)
        go_simp; refine (HDYk.out _ (yb hbxc hS)).mono ?_; rintro e w4 ⟨rfl, hb4⟩; replace hS := yb hS hb4
        refine hK _ _ hS ?_; clear hK K; try simp only [nrm]
        refine WpT.tk 6 hS ?_
        simp only [nrm]
        refine WpT.tk 7 hS ?_
        simp only [nrm]
        refine WpT.tl 8 rfl (z54 (us := lgL r) (by rfl) rfl rfl z04 (by rw [yy, h5]) ur) hS ?_
        simp only [nrm]
        refine WpT.tk 9 hS ?_
        simp only [nrm]
        refine WpT.tl 10 rfl (z13 (by rfl) rfl rfl (by kernel_rfl) x1) hS ?_
        simp only [nrm]
        refine WpT.tk 13 hS ?_
        simp only [nrm]
        refine WpT.tl 14 rfl (z54 (us := bv (dg hd.root)) (by rfl) rfl rfl yn (by rw [yf, z03]) xr) hS ?_
        simp only [nrm]
        refine WpT.on 11 rfl (fun K hK => ?_)
        go_simp; refine (HLVk.out _ (yb hbxc hS)).mono ?_; rintro e w5 ⟨v5, rfl, o5, hb5⟩; obtain ⟨A5, c5, rfl, n5, m5, r5⟩ := yg.formN o5 HLEk.out; clear o5; replace hS := yb hS hb5
        refine hK _ _ hS ?_; clear hK K; try simp only [nrm]
        refine WpT.on 12 rfl (fun K hK => ?_)
        go_simp; refine (HRTk.out _ _ _ r5 n5 m5 (yb hbxc hS)).mono ?_; rintro e w6 ⟨rfl, hb6⟩; replace hS := yb hS hb6
        refine hK _ _ hS ?_; clear hK K; try simp only [nrm]
        refine WpT.tl 15 rfl (zbw (by rfl) rfl (by rfl) (by rfl) HRLk hlt.root hrt (fun W => by kernel_rfl)) hS ?_
        simp only [nrm]
        refine WpT.tk 16 hS ?_
        simp only [nrm]
        refine WpT.done (by kernel_rfl) ?_ _
        skip
        go_wp2_with fail
        go_ret
        exact ⟨rfl, yb hbxc hS⟩
       have hrt : (!decide (RK = hd.root)) = false := by simp [hrk]
       have HN2 : Hid (z1w H OF (ye r.es) 0 r.hs = z1w H OF (ye r.es) (z66 r.hs (q + 1)) (r.hs.drop (q + 1))) := ya (by rw [HL1.out, HH.out, HSq2.out, if_pos ⟨t4, hrk⟩])
       have hl2 : 0 ≤ z66 r.hs (q + 1) := by rw [HL1.out]; omega
       clear HX2 HH HSq2 t4 hrk HL1
       refine yq 17 (by kernel_rfl) ?_
       refine WpT.tk 0 hS ?_
       simp only [nrm]
       refine WpT.tl 1 rfl (yh rfl rfl rfl (by kernel_rfl) x2) hS ?_
       simp only [nrm]
       refine WpT.tl 2 rfl (z07 (us := lgL r) rfl rfl rfl z04 (by rw [yy, h5]) ur) hS ?_
       simp only [nrm]
       refine WpT.tk 3 hS ?_
       simp only [nrm]
       refine WpT.tl 4 rfl (yh rfl rfl rfl (by kernel_rfl) x1) hS ?_
       simp only [nrm]
       refine WpT.on 5 rfl (fun K hK => ?_)
       go_simp; refine (HDYk.out _ (yb hbxc hS)).mono ?_; rintro e w4 ⟨rfl, hb4⟩; replace hS := yb hS hb4
       refine hK _ _ hS ?_; clear hK K; try simp only [nrm]
       refine WpT.tk 6 hS ?_
       simp only [nrm]
       refine WpT.tk 7 hS ?_
       simp only [nrm]
       refine WpT.tl 8 rfl (z54 (us := lgL r) (by rfl) rfl rfl z04 (by rw [yy, h5]) ur) hS ?_
       simp only [nrm]
       refine WpT.tk 9 hS ?_
       simp only [nrm]
       refine WpT.tl 10 rfl (z13 (by rfl) rfl rfl (by kernel_rfl) x1) hS ?_
       simp only [nrm]
       refine WpT.tk 13 hS ?_
       simp only [nrm]
       refine WpT.tl 14 rfl (z54 (us := bv (dg hd.root)) (by rfl) rfl rfl yn (by rw [yf, z03]) xr) hS ?_
       simp only [nrm]
       refine WpT.on 11 rfl (fun K hK => ?_)
       go_simp; refine (HLVk.out _ (yb hbxc hS)).mono ?_; rintro e w5 ⟨v5, rfl, o5, hb5⟩; obtain ⟨A5, c5, rfl, n5, m5, r5⟩ := yg.formN o5 HLEk.out; clear o5; replace hS := yb hS hb5
       refine hK _ _ hS ?_; clear hK K; try simp only [nrm]
       refine WpT.on 12 rfl (fun K hK => ?_)
       go_simp; refine (HRTk.out _ _ _ r5 n5 m5 (yb hbxc hS)).mono ?_; rintro e w6 ⟨rfl, hb6⟩; replace hS := yb hS hb6
       refine hK _ _ hS ?_; clear hK K; try simp only [nrm]
       refine WpT.tl 15 rfl (zbw (by rfl) rfl (by rfl) (by rfl) HRLk hlt.root hrt (fun W => by kernel_rfl)) hS ?_
       simp only [nrm]
       refine WpT.tk 16 hS ?_
       simp only [nrm]
       refine WpT.done (by kernel_rfl) ?_ _
       skip
       go_wp2_with fail
       exact ⟨⟨q + 1, by go_num, by omega, hl2, yb hbw4 (yb hbw5 hS), HN2⟩, by simp [intOf]; omega⟩
    ·obtain rfl : q = r.hn := by omega
     have dq : decide ((r.hn : Int) < (r.hn : Int)) = false := by rw [decide_eq_false_iff_not]; omega
     have dqn : decide (r.hn < r.hn) = false := by rw [decide_eq_false_iff_not]; omega
     have HX3 : Hid (X = (decide (r.s = (k : Int)) && decide (z0i H.nd H.em (z00 H (ye r.es)) = r.ts))) := ya (by
      rw [HX2.out, HH.out, List.drop_of_length_le (by rw [HHL.out]; exact Nat.le_refl _)]
      rfl)
     have HLVk := ya (HLV.out k (Nat.le_refl _))
     have HLEk := ya (HLE.out k (Nat.le_refl _))
     unfold z61 at HLVk
     rw [HTK.out] at HLVk HLEk
     have HP40 := ya (HPF.out (z00 H (ye r.es)) (by rw [HLEk.out]; omega))
     generalize z00 H (ye r.es) = LV at *
     have HTEk := ya (fun A c W (hr : RdD W A k LV) (hb : Below w.heap.size w W) => HTE.out LV A k c W (by omega) hr hb)
     unfold ze4 at HTEk
     rw [HLEk.out] at HTEk
     generalize z0i H.nd H.em LV = TL at *
     have hb2 := yb hbw hbw2
     have zr := z11 (HQ0.out _ hb2)
     have z1 := z3v (HQ0.out _ hb2)
     rw [HNN.out] at z1
     clear HX2 HH HKH HKL HHE HDY HRT HRL HTL HLV HLE HTE HPF hla HTK
     go_wp2_with ((with_reducible show sl 125); refine yj (us := lgL r) rfl rfl rfl z04 (by rw [yy, h5]) zr ?_)
     refine (HLVk.out _ hbx).mono ?_
     rintro e w5 ⟨v5, rfl, o5, hb5⟩
     obtain ⟨A5, c5, rfl, n5, m5, r5⟩ := yg.formN o5 HLEk.out
     go_wp2_with fail
     refine (HTEk.out _ _ _ r5 (yb hbx hb5)).mono ?_
     rintro e w6 ⟨A6, n6, c6, rfl, hn6, o6, hb6⟩
     obtain ⟨A7, c7, he7, k1, k2, k3⟩ := yg.formN o6 hn6.symm
     injection he7 with i1 i2 i3
     subst i1
     subst i3
     have HN6 : Hid (n6 ≤ 1000000) := ya (by have := HP40.out; omega)
     replace hb2 := yb hb2 (yb hb5 hb6)
     replace hbx := yb hbx (yb hb5 hb6)
     clear o5 r5 hb5 hb6 zr z1 HLVk HTEk o6 hn6
     go_upto_region 18 with ((with_reducible show sl 7); refine z17 (z := pkC 0 none 0 0) (vs := pkC (k : Int) A6 n6 c6) rfl rfl rfl rfl (z8q _) (fun _ => rfl) (fun _ => rfl) rfl (by rw [z1o]; rfl) (zcy _ _ _ _) ?_; intro w7 g7 hg7 b7 hb7 lt7; have e0 : w7.cell? ⟨g7, 0, none⟩ = some (.int .i64 (k : Int)) := (by rw [b7.cell 0]; rfl); have e1 : w7.cell? ⟨g7, 1, none⟩ = some (.slice A6 n6 c6) := (by rw [b7.cell 1]; rfl); have y2 := zji (HQ0.out _ (yb hb2 hb7)); have y3 := zfh (HQ0.out _ (yb hb2 hb7)); clear hg7 lt7)
     have HSMk := ya (HSM.out TL A6 n6 c6 w7 (yb hbx hb7) (k3.below hb7) HN6.out HPL.out)
     replace hbx := yb hbx hb7
     clear HSM HPL HN6 k1 k2 k3 b7 hb7 HP40
     generalize decide (TL = r.ts) = PB at *
     rcases z48 (k : Int) r.s with ⟨t1, q1, q2, q3⟩ | ⟨t1, q1, q2, q3⟩
     ·have hX : X = PB := by rw [HX3.out, show decide (r.s = (k : Int)) = true by rw [decide_eq_true_eq]; exact t1.symm, Bool.true_and]
      subst hX
      clear HX3 t1
      go_wp2_with fail
      refine HSMk.out.mono ?_
      rintro e w8 ⟨rfl, hb8⟩
      go_wp2_with fail
      go_ret
      exact ⟨rfl, yb hbx hb8⟩
     ·have hX : X = false := by rw [HX3.out, show decide (r.s = (k : Int)) = false by rw [decide_eq_false_iff_not]; exact fun e => t1 e.symm, Bool.false_and]
      subst hX
      clear HX3 t1
      go_wp2_with fail
      go_ret
      exact ⟨rfl, hbx⟩

end
end Go.Proofs.YtcapckngikekpaaGreatDoor
