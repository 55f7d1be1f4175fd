/-
  What is known of the functions that the laws of this seat reach, joined. Conditions: each theorem's own.
-/
import Derived.Test.YtcapckngikekpaaGreatDoorD9
namespace Go.Proofs.YtcapckngikekpaaGreatDoor
set_option linter.unusedSimpArgs false
set_option linter.unusedVariables false
open Go.RowKit Exch Merk Ring
/-- A ledger's rows lie in another block. -/
def EvAway (g : Nat) (v : EvR) : Prop := Away v.vA g ∧ Away v.aA g
structure LgAway (g : Nat) (r : LgR) : Prop where
  ev : Away r.eA g
  tp : Away r.tA g
  hd : Away r.hA g
  es : ∀ v ∈ r.es, EvAway g v
theorem EvOk.turned {W W' : World} {g : Nat} {v : EvR} (h : EvOk W v) (ht : Turned g W W') (ha : EvAway g v) : EvOk W' v :=
  ⟨h.vlen, h.vrd.turned ht ha.1, h.vcap, h.vmax, ⟨h.ard.len, h.ard.rd.turned ht ha.2⟩, h.acap, h.amax, h.non⟩
theorem LgOk.turned {W W' : World} {g : Nat} {r : LgR} (h : LgOk W r) (ht : Turned g W W') (ha : LgAway g r) : LgOk W' r :=
  ⟨⟨h.ev.len, h.ev.rd.turned ht ha.ev, fun v hv => (h.ev.ok v hv).turned ht (ha.es v hv)⟩, h.ec, h.em, ⟨h.tp.len, h.tp.rd.turned ht ha.tp⟩, h.tc, h.tm, h.tl, ⟨h.hd.len, h.hd.rd.turned ht ha.hd⟩, h.hc, h.hm, h.hl⟩
theorem LgAway.new (g : Nat) (o : Int) : LgAway g (newLg o) := ⟨Away.none g, Away.none g, Away.none g, fun v hv => absurd hv List.not_mem_nil⟩
/-- What the closure of Append leaves. -/
def ApPost (r : LgR) (v : EvR) (s : Int) (tA : Option Addr) (tn tc : Nat) (ts : List Nat) (r' : LgR) (B : Nat) (W : World) : Prop :=
  ∃ A c, r' = { r with eA := A, en := r.en + 1, ec := c, es := r.es ++ [v], s := s, tA := tA, tn := tn, tc := tc, ts := ts } ∧ W.ownsRow B 27 25 (.slice A (r.en + 1) c) (r.en + 1) (r.es.flatMap evL ++ evL v) ∧ r.en + 1 ≤ c ∧ c ≤ maxLen
/-- What the closure of Seal leaves. -/
def SePost (r : LgR) (h : Hd) (r' : LgR) (B : Nat) (W : World) : Prop :=
  ∃ A c, r' = { r with hA := A, hn := r.hn + 1, hc := c, hs := r.hs ++ [h] } ∧ W.ownsRow B 51 36 (.slice A (r.hn + 1) c) (r.hn + 1) (r.hs.flatMap hdL ++ hdL h) ∧ r.hn + 1 ≤ c ∧ c ≤ maxLen
theorem ApPost.turned {r : LgR} {v : EvR} {s : Int} {tA : Option Addr} {tn tc : Nat} {ts : List Nat} {r' : LgR} {B : Nat} {W W' : World} {g : Nat} (h : ApPost r v s tA tn tc ts r' B W) (hg : g < B) (ht : Turned g W W') : ApPost r v s tA tn tc ts r' B W' := by
  obtain ⟨A, c, rfl, o, h1, h2⟩ := h
  exact ⟨A, c, rfl, ht.own o (fun e => by have := (World.ownsRow.lt o _ e).1; omega), h1, h2⟩
theorem SePost.turned {r : LgR} {h : Hd} {r' : LgR} {B : Nat} {W W' : World} {g : Nat} (hp : SePost r h r' B W) (hg : g < B) (ht : Turned g W W') : SePost r h r' B W' := by
  obtain ⟨A, c, rfl, o, h1, h2⟩ := hp
  exact ⟨A, c, rfl, ht.own o (fun e => by have := (World.ownsRow.lt o _ e).1; omega), h1, h2⟩
/-- A change of the ledger that lies at g. -/
def ChIs (Post : LgR → Nat → World → Prop) (g : Nat) (W : World) (e : Ending) (w' : World) : Prop := ∃ v r' w1, e = .returned v ∧ Below W.heap.size W w1 ∧ Turned g w1 w' ∧ Blk w' g 42 (lgC r') ∧ Post r' W.heap.size w'
theorem lg_set1 (r : LgR) (A : Option Addr) (n c : Nat) (es : List EvR) : (lgC r).setIfInBounds 1 (.slice A n c) = lgC { r with eA := A, en := n, ec := c, es := es } := by simp [lgC, lgL]
theorem lg_set3 (r : LgR) (A : Option Addr) (n c : Nat) (hs : List Hd) : (lgC r).setIfInBounds 4 (.slice A n c) = lgC { r with hA := A, hn := n, hc := c, hs := hs } := by simp [lgC, lgL]
theorem lg_setT (r : LgR) (s : Int) (A : Option Addr) (n c : Nat) (ts : List Nat) : ((lgC r).toList.take 2 ++ ([.int .i64 s, .slice A n c] : List Value) ++ (lgC r).toList.drop (2 + ([.int .i64 s, .slice A n c] : List Value).length)).toArray = lgC { r with s := s, tA := A, tn := n, tc := c, ts := ts } := by simp [lgC, lgL]
set_option maxRecDepth 100000 in
set_option maxHeartbeats 4000000 in
theorem apClo_any (r : LgR) (v : EvR) (s : Int) (tA : Option Addr) (tn tc : Nat) (ts : List Nat) (g ge gt : Nat) (w : World) (hg : Blk w g 42 (lgC r)) (hge : Blk w ge 27 (evC v)) (hgt : Blk w gt 39 (pkC s tA tn tc))
    (h1 : ge ≠ g) (h2 : gt ≠ g) (hr : Rd w r.eA (r.en * 25) (r.es.flatMap evL)) (hn : r.en ≤ 1000000) :
    Calls Tryz.prog 71 #[.pointer (some ⟨g, 0, none⟩), .pointer (some ⟨ge, 0, none⟩), .pointer (some ⟨gt, 0, none⟩)] w (ChIs (ApPost r v s tA tn tc ts) g w) := by
  have c1 := lg_c1 hg
  have HM := Lib.hid (fun W (h : Below w.heap.size w W) => moreEv_any r.eA r.en r.ec _ v W (hr.below h) (one_flat one_evL r.es) hn)
  have HG := Lib.hid (fun W (h : Below w.heap.size w W) => hg.below h)
  have h25 := evL_len v
  have HGE := Lib.hid (fun W (h : Tk g w W) => blk_row (xs := evL v) (h.blk hge h1))
  have HGT := Lib.hid (fun W (h : Tk g w W) => blk_row (xs := [.int .i64 s, .slice tA tn tc]) (h.blk hgt h2))
  have hglt := hg.lt
  clear hg hge hgt h1 h2 hr
  unfold ChIs
  go_enter Tryz.func71, Tryz.ntmps71
  go_upto_region 0 with fail
  have hS : Below w.heap.size w w.drew := (Below.refl _ _).drew
  refine wp_region_TS (S := (Tk g w)) 14 (by kernel_rfl) ?_
  refine WpT.tk 0 (Tk.of hS) ?_
  try simp only [nrm]
  refine WpT.tk 1 (Tk.of hS) ?_
  try simp only [nrm]
  refine WpT.tk 2 (Tk.of hS) ?_
  try simp only [nrm]
  refine WpT.tk 3 (Tk.of hS) ?_
  try simp only [nrm]
  refine WpT.tk 4 (Tk.of hS) ?_
  try simp only [nrm]
  refine WpT.tl 6 rfl (yields_loadKQ (us := evL v) rfl rfl rfl aggEv (by rw [sizeEv, h25]) HGE.out) (Tk.of hS) ?_
  try simp only [nrm]
  refine WpT.tl 8 rfl (yields_loadKQ (us := [.int .i64 s, .slice tA tn tc]) rfl rfl rfl aggPk (by rw [sizePk]; rfl) HGT.out) (Tk.of hS) ?_
  try simp only [nrm]
  refine WpT.on 5 rfl (fun K hK => ?_)
  refine wp_load1 rfl (by rfl) (by kernel_rfl) (cell_later hS c1) ?_
  refine hK _ _ (Tk.of hS) ?_; clear hK K; try simp only [nrm]
  refine WpT.on 7 rfl (fun K hK => ?_)
  go_simp; refine (HM.out _ hS).mono ?_; rintro e w4 ⟨A4, c4, rfl, o4, n4, m4, hb4⟩; have o5 := ownsRow_lower o4 hS.size; clear o4; replace hS := bstep hS hb4
  refine hK _ _ (Tk.of hS) ?_; clear hK K; try simp only [nrm]
  refine WpT.tk 9 (Tk.of hS) ?_
  try simp only [nrm]
  refine WpT.tk 10 (Tk.of hS) ?_
  try simp only [nrm]
  refine WpT.on 11 rfl (fun K hK => ?_)
  refine wp_set rfl (by kernel_rfl) (by rfl) (by rfl) (by rfl) (HG.out _ hS) (by rw [lgC_size]; omega) (lg_set1 r A4 (r.en + 1) c4 (r.es ++ [v])) ?_; intro w8 ht8 b8
  refine hK _ _ (Tk.turn hS ht8) ?_; clear hK K; try simp only [nrm]
  refine WpT.takeP (i := 12) rfl (by kernel_rfl) (fun _ _ _ h => h) (.inl ⟨by rfl, fun w hSw => by clear hSw; go_simp; (try go_bits); (try rw [if_pos (by omega)]); (try with_reducible rfl)⟩) (Tk.turn hS ht8) ?_
  try simp only [nrm]
  refine WpT.tk 13 (Tk.turn hS ht8) ?_
  try simp only [nrm]
  refine WpT.ta 14 rfl (fun K hK => ?_)
  refine wp_putAt (vs := [.int .i64 s, .slice tA tn tc]) rfl (by rfl) (by rfl) b8 (by rw [lgC_size]; simp) (by rw [sizePk]; rfl) (by intro u hu; simp only [List.mem_cons, List.not_mem_nil, or_false] at hu; rcases hu with rfl | rfl <;> rfl) (lg_setT _ s tA tn tc ts) ?_; intro w9 ht9 b9
  refine hK _ _ ?_; clear hK K; try simp only [nrm]
  refine WpT.done (by kernel_rfl) ?_ _
  skip
  refine bodyPost_end (results_none rfl _ _ _) rfl ?_
  have hne : (Value.slice A4 (r.en + 1) c4).ownBlock ≠ some g := fun e => by have := (World.ownsRow.lt o5 _ e).1; omega
  exact ⟨_, _, w4, rfl, hS, ht8.step ht9, b9, A4, c4, rfl, ht9.own (ht8.own o5 hne) hne, n4, m4⟩
set_option maxRecDepth 100000 in
set_option maxHeartbeats 4000000 in
theorem seClo_any (r : LgR) (h : Hd) (g gh : Nat) (w : World) (hg : Blk w g 42 (lgC r)) (hgh : Blk w gh 51 (hdC h))
    (hr : Rd w r.hA (r.hn * 36) (r.hs.flatMap hdL)) (hn : r.hn ≤ 1000000) :
    Calls Tryz.prog 77 #[.pointer (some ⟨g, 0, none⟩), .pointer (some ⟨gh, 0, none⟩)] w (ChIs (SePost r h) g w) := by
  have c3 := lg_c3 hg
  have HM := Lib.hid (fun W (h' : Below w.heap.size w W) => moreHd_any r.hA r.hn r.hc _ h W (hr.below h') (one_flat one_hdL r.hs) hn)
  have HG := Lib.hid (fun W (h : Below w.heap.size w W) => hg.below h)
  have h36 := hdL_len h
  have hch := blk_row (xs := hdL h) hgh
  have hglt := hg.lt
  clear hg hgh hr
  unfold ChIs
  go_enter Tryz.func77, Tryz.ntmps77
  go_upto_region 0 with fail
  have hS : Below w.heap.size w w.drew := (Below.refl _ _).drew
  refine wp_region_T 9 (by kernel_rfl) ?_
  refine WpT.tk 0 (hS) ?_
  try simp only [nrm]
  refine WpT.tk 1 (hS) ?_
  try simp only [nrm]
  refine WpT.tk 2 (hS) ?_
  try simp only [nrm]
  refine WpT.tk 3 (hS) ?_
  try simp only [nrm]
  refine WpT.tl 4 rfl (yields_load rfl rfl rfl (by kernel_rfl) c3) (hS) ?_
  try simp only [nrm]
  refine WpT.tl 5 rfl (yields_loadK (us := hdL h) rfl rfl rfl aggHd (by rw [sizeHd, h36]) hch) (hS) ?_
  try simp only [nrm]
  refine WpT.on 6 rfl (fun K hK => ?_)
  go_simp; refine (HM.out _ hS).mono ?_; rintro e w4 ⟨A4, c4, rfl, o4, n4, m4, hb4⟩; have o5 := ownsRow_lower o4 hS.size; clear o4; replace hS := bstep hS hb4
  refine hK _ _ (hS) ?_; clear hK K; try simp only [nrm]
  refine WpT.takeP (i := 7) rfl (by kernel_rfl) (fun _ _ _ h => h) (.inl ⟨by rfl, fun w hSw => by clear hSw; go_simp; (try go_bits); (try rw [if_pos (by omega)]); (try with_reducible rfl)⟩) (hS) ?_
  try simp only [nrm]
  refine WpT.tk 8 (hS) ?_
  try simp only [nrm]
  refine WpT.ta 9 rfl (fun K hK => ?_)
  refine wp_set rfl (by kernel_rfl) (by rfl) (by rfl) (by rfl) (HG.out _ hS) (by rw [lgC_size]; omega) (lg_set3 r A4 (r.hn + 1) c4 (r.hs ++ [h])) ?_; intro w8 ht8 b8
  refine hK _ _ ?_; clear hK K; try simp only [nrm]
  refine WpT.done (by kernel_rfl) ?_ _
  skip
  refine bodyPost_end (results_none rfl _ _ _) rfl ?_
  have hne : (Value.slice A4 (r.hn + 1) c4).ownBlock ≠ some g := fun e => by have := (World.ownsRow.lt o5 _ e).1; omega
  exact ⟨_, _, w4, rfl, hS, ht8, b8, A4, c4, rfl, ht8.own o5 hne, n4, m4⟩
set_option maxRecDepth 100000 in
set_option maxHeartbeats 4000000 in
theorem changed2_any (F : Nat) (p q : Nat) (r : LgR) (A : Option Addr) (w : World) (Post : LgR → Nat → World → Prop) (hfn : Rd w A 1 [.func (.func F) #[] #[.pointer (some ⟨p, 0, none⟩), .pointer (some ⟨q, 0, none⟩)]])
    (hent : ∀ args W, (callFunc F args).run Tryz.prog W = .ok (.enter F args) W)
    (hcall : ∀ W g, Below w.heap.size w W → w.heap.size ≤ g → Blk W g 42 (lgC r) → Calls Tryz.prog F #[.pointer (some ⟨g, 0, none⟩), .pointer (some ⟨p, 0, none⟩), .pointer (some ⟨q, 0, none⟩)] W (ChIs Post g W))
    (hpost : ∀ r' B W g W', Post r' B W → g < B → Turned g W W' → Post r' B W') :
    Calls Tryz.prog 70 #[lgV r, .slice A 1 1] w fun e w' => ∃ r' B, e = .returned (lgV r') ∧ w.heap.size ≤ B ∧ Post r' B w' ∧ Below w.heap.size w w' := by
  obtain ⟨wa, hwa, hb0, q1, q2⟩ := box2 w (lgC r) (lgC (newLg 0)) 42 42
  have HWA := Lib.hid hwa
  have hlt2 := q2.lt
  obtain ⟨ad, rfl, hcf⟩ := (hfn.below hb0).get (k := 0) (by omega)
  replace hcf : wa.cell? ad = some (.func (.func F) #[] #[.pointer (some ⟨p, 0, none⟩), .pointer (some ⟨q, 0, none⟩)]) := hcf
  have HC := Lib.hid (fun W (hb : Below w.heap.size w W) => hcall W w.heap.size hb (Nat.le_refl _))
  have HP := Lib.hid hpost
  have ho5 := one_lgC r
  clear hwa hfn hcall hpost
  obtain ⟨g1, hg1⟩ : ∃ g, g = w.heap.size := ⟨_, rfl⟩
  obtain ⟨g2, hg2⟩ : ∃ g, g = w.heap.size + 1 := ⟨_, rfl⟩
  rw [← hg1] at q1 HC
  rw [← hg2] at q2 hlt2
  have HG := Lib.hid (And.intro hg1 hg2)
  clear hg1 hg2
  have H0 : Hid (∃ r' B, ((0 : Nat) = 0 → r' = r) ∧ Blk wa g1 42 (lgC r') ∧ Blk wa g2 42 (lgC (newLg 0)) ∧ ((0 : Nat) = 1 → g2 < B ∧ Post r' B wa) ∧ Below g1 wa wa) := Lib.hid ⟨r, 0, fun _ => rfl, q1, q2, fun h => by omega, Below.refl _ _⟩
  clear q1 q2
  go_enter Tryz.func70, Tryz.ntmps70
  go_upto_region 1 with (refine wpList_alloc rfl rfl (zeroLg_v _) ?_)
  change Code.wp _ _ _ _ ((w.alloc (.cells (lgC r) 42)).alloc (.cells (lgC (newLg 0)) 42))
  rw [← HWA.out, show (w.alloc (.cells (lgC r) 42)).heap.size = w.heap.size + 1 by simp, ← HG.out.2, ← HG.out.1]
  go_wp2_with fail
  go_loopw [6, 9] (fun v6 v9 wr => ∃ i : Nat, v9 = .int .i64 (i : Int) ∧ i ≤ 1 ∧ Hid (∃ r' B, (i = 0 → r' = r ∧ wr = wa) ∧ Blk wr g1 42 (lgC r') ∧ Blk wr g2 42 (lgC (newLg 0)) ∧ (i = 1 → g2 < B ∧ Post r' B wr) ∧ Below g1 wa wr)) (fun v6 v9 _ => 1 - (intOf v9).toNat)
  case atStart =>
    obtain ⟨r', B, h1, h2, h3, h4, h5⟩ := H0.out
    exact ⟨0, rfl, by omega, Lib.hid ⟨r', B, fun _ => ⟨h1 (by trivial), rfl⟩, h2, h3, fun h => by omega, h5⟩⟩
  case round =>
    obtain ⟨i, rfl, hi, HI⟩ := hrel
    rcases (show i = 0 ∨ i = 1 by omega) with rfl | rfl
    · obtain ⟨r', B, h1, h2, h3, -, h5⟩ := HI.out
      obtain ⟨rfl, rfl⟩ := h1 rfl
      clear HI H0
      have HB2 := Lib.hid h2
      have HB3 := Lib.hid h3
      have hlt3 := h3.lt
      clear h1 h2 h3 h5
      simp only [Int.cast_ofNat_Int] at *
      go_wp2_with fail
      refine (HC.out _ (by rw [HG.out.1]; exact hb0) HB2.out).mono ?_
      rintro e w4 ⟨v, r', w3, rfl, hb3, ht3, b4, hp⟩
      have hg := HG.out
      have HS : Hid (∃ r'' B, ((1 : Nat) = 0 → r'' = r' ∧ w4 = wr) ∧ Blk w4 g1 42 (lgC r'') ∧ Blk w4 g2 42 (lgC (newLg 0)) ∧ ((1 : Nat) = 1 → g2 < B ∧ Post r'' B w4) ∧ Below g1 wr w4) :=
        Lib.hid ⟨r', wr.heap.size, fun h => by omega, b4, ht3.blk (HB3.out.below hb3) (by omega), fun _ => ⟨hlt3, hp⟩, (hb3.mono (by omega)).trans (ht3.below _ (Nat.le_refl _))⟩
      clear hb3 ht3 b4 hp HB2 HB3 hg
      go_wp2_with fail
      obtain ⟨r2, B2, -, k2, k3, k4, k5⟩ := HS.out
      exact ⟨⟨1, by go_num, by omega, Lib.hid ⟨r2, B2, fun h => by omega, k2, k3, fun _ => k4 trivial, k5⟩⟩, by simp [intOf]⟩
    · obtain ⟨r', B, -, h2, h3, h4, h5⟩ := HI.out
      obtain ⟨hB, hp⟩ := h4 rfl
      have hz := lg_row h2
      have h5' := lgL_len r'
      have HP1 := Lib.hid hp
      have hg := HG.out
      have HGG := Lib.hid hg
      clear HI H0 h2 h4 hp hg
      simp only [Int.cast_ofNat_Int] at *
      go_wp2_with (first
        | ((with_reducible show wpList _ _ _ (⟨some 16, _, _, _, _, _⟩ :: _) _ _); refine wpList_loadK (us := lgL r') rfl rfl rfl aggLg (by rw [sizeLg, h5']) hz ?_)
        | ((with_reducible show wpList _ _ _ (⟨none, _, _, _, _, _⟩ :: _) _ _); refine wpList_put (vs := lgC r') rfl rfl rfl rfl h3 rfl (by rw [sizeLg, lgC_size]) (one_lgC r') ?_; intro w9 ht9 b9))
      exact ret_blk rfl rfl rfl b9 aggLg (by rw [sizeLg, lgC_size]) ⟨r', B, rfl, by have := HGG.out; omega, HP.out _ _ _ _ _ HP1.out hB ht9, (hb0.trans (h5.mono (by have := HGG.out; omega))).trans (ht9.below _ (by have := HGG.out; omega))⟩
set_option maxRecDepth 100000 in
set_option maxHeartbeats 4000000 in
theorem changed1_any (F : Nat) (p : Nat) (r : LgR) (A : Option Addr) (w : World) (Post : LgR → Nat → World → Prop) (hfn : Rd w A 1 [.func (.func F) #[] #[.pointer (some ⟨p, 0, none⟩)]])
    (hent : ∀ args W, (callFunc F args).run Tryz.prog W = .ok (.enter F args) W)
    (hcall : ∀ W g, Below w.heap.size w W → w.heap.size ≤ g → Blk W g 42 (lgC r) → Calls Tryz.prog F #[.pointer (some ⟨g, 0, none⟩), .pointer (some ⟨p, 0, none⟩)] W (ChIs Post g W))
    (hpost : ∀ r' B W g W', Post r' B W → g < B → Turned g W W' → Post r' B W') :
    Calls Tryz.prog 70 #[lgV r, .slice A 1 1] w fun e w' => ∃ r' B, e = .returned (lgV r') ∧ w.heap.size ≤ B ∧ Post r' B w' ∧ Below w.heap.size w w' := by
  obtain ⟨wa, hwa, hb0, q1, q2⟩ := box2 w (lgC r) (lgC (newLg 0)) 42 42
  have HWA := Lib.hid hwa
  have hlt2 := q2.lt
  obtain ⟨ad, rfl, hcf⟩ := (hfn.below hb0).get (k := 0) (by omega)
  replace hcf : wa.cell? ad = some (.func (.func F) #[] #[.pointer (some ⟨p, 0, none⟩)]) := hcf
  have HC := Lib.hid (fun W (hb : Below w.heap.size w W) => hcall W w.heap.size hb (Nat.le_refl _))
  have HP := Lib.hid hpost
  have ho5 := one_lgC r
  clear hwa hfn hcall hpost
  obtain ⟨g1, hg1⟩ : ∃ g, g = w.heap.size := ⟨_, rfl⟩
  obtain ⟨g2, hg2⟩ : ∃ g, g = w.heap.size + 1 := ⟨_, rfl⟩
  rw [← hg1] at q1 HC
  rw [← hg2] at q2 hlt2
  have HG := Lib.hid (And.intro hg1 hg2)
  clear hg1 hg2
  have H0 : Hid (∃ r' B, ((0 : Nat) = 0 → r' = r) ∧ Blk wa g1 42 (lgC r') ∧ Blk wa g2 42 (lgC (newLg 0)) ∧ ((0 : Nat) = 1 → g2 < B ∧ Post r' B wa) ∧ Below g1 wa wa) := Lib.hid ⟨r, 0, fun _ => rfl, q1, q2, fun h => by omega, Below.refl _ _⟩
  clear q1 q2
  go_enter Tryz.func70, Tryz.ntmps70
  go_upto_region 1 with (refine wpList_alloc rfl rfl (zeroLg_v _) ?_)
  change Code.wp _ _ _ _ ((w.alloc (.cells (lgC r) 42)).alloc (.cells (lgC (newLg 0)) 42))
  rw [← HWA.out, show (w.alloc (.cells (lgC r) 42)).heap.size = w.heap.size + 1 by simp, ← HG.out.2, ← HG.out.1]
  go_wp2_with fail
  go_loopw [6, 9] (fun v6 v9 wr => ∃ i : Nat, v9 = .int .i64 (i : Int) ∧ i ≤ 1 ∧ Hid (∃ r' B, (i = 0 → r' = r ∧ wr = wa) ∧ Blk wr g1 42 (lgC r') ∧ Blk wr g2 42 (lgC (newLg 0)) ∧ (i = 1 → g2 < B ∧ Post r' B wr) ∧ Below g1 wa wr)) (fun v6 v9 _ => 1 - (intOf v9).toNat)
  case atStart =>
    obtain ⟨r', B, h1, h2, h3, h4, h5⟩ := H0.out
    exact ⟨0, rfl, by omega, Lib.hid ⟨r', B, fun _ => ⟨h1 (by trivial), rfl⟩, h2, h3, fun h => by omega, h5⟩⟩
  case round =>
    obtain ⟨i, rfl, hi, HI⟩ := hrel
    rcases (show i = 0 ∨ i = 1 by omega) with rfl | rfl
    · obtain ⟨r', B, h1, h2, h3, -, h5⟩ := HI.out
      obtain ⟨rfl, rfl⟩ := h1 rfl
      clear HI H0
      have HB2 := Lib.hid h2
      have HB3 := Lib.hid h3
      have hlt3 := h3.lt
      clear h1 h2 h3 h5
      simp only [Int.cast_ofNat_Int] at *
      go_wp2_with fail
      refine (HC.out _ (by rw [HG.out.1]; exact hb0) HB2.out).mono ?_
      rintro e w4 ⟨v, r', w3, rfl, hb3, ht3, b4, hp⟩
      have hg := HG.out
      have HS : Hid (∃ r'' B, ((1 : Nat) = 0 → r'' = r' ∧ w4 = wr) ∧ Blk w4 g1 42 (lgC r'') ∧ Blk w4 g2 42 (lgC (newLg 0)) ∧ ((1 : Nat) = 1 → g2 < B ∧ Post r'' B w4) ∧ Below g1 wr w4) :=
        Lib.hid ⟨r', wr.heap.size, fun h => by omega, b4, ht3.blk (HB3.out.below hb3) (by omega), fun _ => ⟨hlt3, hp⟩, (hb3.mono (by omega)).trans (ht3.below _ (Nat.le_refl _))⟩
      clear hb3 ht3 b4 hp HB2 HB3 hg
      go_wp2_with fail
      obtain ⟨r2, B2, -, k2, k3, k4, k5⟩ := HS.out
      exact ⟨⟨1, by go_num, by omega, Lib.hid ⟨r2, B2, fun h => by omega, k2, k3, fun _ => k4 trivial, k5⟩⟩, by simp [intOf]⟩
    · obtain ⟨r', B, -, h2, h3, h4, h5⟩ := HI.out
      obtain ⟨hB, hp⟩ := h4 rfl
      have hz := lg_row h2
      have h5' := lgL_len r'
      have HP1 := Lib.hid hp
      have hg := HG.out
      have HGG := Lib.hid hg
      clear HI H0 h2 h4 hp hg
      simp only [Int.cast_ofNat_Int] at *
      go_wp2_with (first
        | ((with_reducible show wpList _ _ _ (⟨some 16, _, _, _, _, _⟩ :: _) _ _); refine wpList_loadK (us := lgL r') rfl rfl rfl aggLg (by rw [sizeLg, h5']) hz ?_)
        | ((with_reducible show wpList _ _ _ (⟨none, _, _, _, _, _⟩ :: _) _ _); refine wpList_put (vs := lgC r') rfl rfl rfl rfl h3 rfl (by rw [sizeLg, lgC_size]) (one_lgC r') ?_; intro w9 ht9 b9))
      exact ret_blk rfl rfl rfl b9 aggLg (by rw [sizeLg, lgC_size]) ⟨r', B, rfl, by have := HGG.out; omega, HP.out _ _ _ _ _ HP1.out hB ht9, (hb0.trans (h5.mono (by have := HGG.out; omega))).trans (ht9.below _ (by have := HGG.out; omega))⟩
end Go.Proofs.YtcapckngikekpaaGreatDoor
namespace Go.Proofs.YtcapckngikekpaaGreatDoor
set_option linter.unusedSimpArgs false
set_option linter.unusedVariables false
open Go.RowKit Exch Merk Ring
/-- A ledger that reads as l, and what was wrong. -/
def LgIs (r0 : LgR) (v : EvR) (p : Lg × Int) (w : World) (e : Ending) (w' : World) : Prop := ∃ r : LgR, e = .returned (.tuple #[lgV r, .int .i64 p.2]) ∧ lgOf r = p.1 ∧ LgOk w' r ∧ Below w.heap.size w w' ∧ (∀ g, (g < w.heap.size ∨ w'.heap.size ≤ g) → LgAway g r0 → EvAway g v → LgAway g r)
theorem build1_fn2 (p q : Nat) (W : World) : (Instr.buildSlice 159 1 #[(0, .func (.func 71) #[] #[.pointer (some ⟨p, 0, none⟩), .pointer (some ⟨q, 0, none⟩)])]).run Tryz.prog W = .ok (.slice (some ⟨W.heap.size, 0, none⟩) 1 1) (W.alloc (.cells #[.func (.func 71) #[] #[.pointer (some ⟨p, 0, none⟩), .pointer (some ⟨q, 0, none⟩)]] 160)) := by kernel_rfl
theorem wpList_lit1F {w : World} {ops : Array Oper} {rest : List Oper} {o : Oper} {a : Act} {Q : Exit → Act → World → Prop} (hgd : o.guard = none) {T e : TypeId} {y : Operand} {v : Value} (ho : o.op = .buildSlice T 1 #[(0, y)]) (hy : a.eval y = v)
    (hb : (Instr.buildSlice T 1 #[(0, v)]).run Tryz.prog w = .ok (.slice (some ⟨w.heap.size, 0, none⟩) 1 1) (w.alloc (.cells #[v] e)))
    (h : ∀ w' g, Rd w' (some ⟨g, 0, none⟩) 1 [v] → Below w.heap.size w w' → wpList Tryz.prog ops Q rest (a.put o.dst (.slice (some ⟨g, 0, none⟩) 1 1)) w') : wpList Tryz.prog ops Q (o :: rest) a w := by
  have h2 := h _ _ (Rd.new1 w v e) ((Below.refl _ _).alloc (Nat.le_refl _) _)
  refine wpList_plain hgd fun K hK => ?_
  unfold Oper.wp execOp
  simp only [ho, List.map_toArray, List.map_cons, List.map_nil, hy, hb, Sem.run_bind, Result.andThen_ok, Sem.run_pure]
  exact hK _ _ h2
theorem ent_ap (args : Array Value) (W : World) : (callFunc 71 args).run Tryz.prog W = .ok (.enter 71 args) W := by kernel_rfl
theorem lg_ofAp (r : LgR) (v : EvR) (s : Int) (A B : Option Addr) (n c m d : Nat) (ts : List Nat) : lgOf { r with eA := A, en := n, ec := c, es := r.es ++ [v], s := s, tA := B, tn := m, tc := d, ts := ts } = { lgOf r with events := (lgOf r).events ++ [v.e], size := s, tops := ts } := by simp [lgOf, evsOf]
theorem own_rdK {w : World} {B : Nat} {e : TypeId} {k n c : Nat} {A : Option Addr} {xs : List Value} (h : w.ownsRow B e k (.slice A n c) n xs) : Rd w A (n * k) xs := by
  obtain ⟨A', c', he, -, -, hr⟩ := ownsRow_form h
  injection he with h1 h2 h3
  subst h1; exact hr
theorem fold_lt {nd : Nat → Nat → Nat} (h : ∀ a b, nd a b < 2 ^ 128) (x : Nat) (hx : x < 2 ^ 128) : ∀ l : List Nat, l.foldr nd x < 2 ^ 128
  | [] => hx
  | _ :: _ => h _ _
theorem appendR_lt {nd : Nat → Nat → Nat} {em : Nat} (N : Nds nd em) (s : Int) (tl : List Nat) (x : Nat) (hl : ∀ y ∈ tl, y < 2 ^ 128) (hx : x < 2 ^ 128) : ∀ y ∈ (appendR nd s tl x).2.1, y < 2 ^ 128 := by
  unfold appendR
  split
  · split
    · intro y hy; exact absurd hy List.not_mem_nil
    · intro y hy
      dsimp only at hy
      unfold grow at hy
      rcases List.mem_append.1 hy with hy | hy
      · exact hl y (List.mem_of_mem_take hy)
      · rw [List.mem_singleton.1 hy]; exact fold_lt N.lt x hx _
  · intro y hy; exact absurd hy List.not_mem_nil
set_option maxRecDepth 100000 in
set_option maxHeartbeats 8000000 in
theorem appendF_any {H : He} (L : Les H) (r : LgR) (v : EvR) (w : World) (h : LgOk w r) (hv : EvOk w v) (hn : r.en ≤ 1000000) (htn : r.tn ≤ 1000) (hw : EvWf v.e) (hf : EvFew v.e) (hg : GCon w) (hgb : GBru w) :
    Calls Tryz.prog 23 #[lgV r, evV v] w (LgIs r v (appG H (lgOf r) v.e) w) := by
  obtain ⟨wa, hwa, hb0, q0, q1, q2⟩ := bx3 w (lgC r) (evC v) (lgC (newLg 0)) 42 27 42
  have HWA := Lib.hid hwa
  have HQ0 := Lib.hid (fun W (h : Below wa.heap.size wa W) => q0.below h)
  have HQ1 := Lib.hid (fun W (h : Below wa.heap.size wa W) => q1.below h)
  have HQ2 := Lib.hid (fun W (h : Below wa.heap.size wa W) => q2.below h)
  have HLT : Hid (w.heap.size + 1 + 1 < wa.heap.size) := Lib.hid q2.lt
  have HOK := Lib.hid (fun W (hb : Below w.heap.size w W) => h.below hb)
  have HVK := Lib.hid (fun W (hb : Below w.heap.size w W) => hv.below hb)
  have HFW := Lib.hid (fun W (hb : Below w.heap.size w W) => follows_any r.es r.eA r.en r.ec v W (h.below hb).ev hn)
  have HFC := Lib.hid (fun W (hb : Below w.heap.size w W) => faceOf_any L v W (hv.below hb) hw hf (hg.below hb))
  have HLF := Lib.hid (fun W (hb : Below w.heap.size w W) => leafF_any L (faceOf H v.e) W (face_fits H _ hw) (hg.below hb))
  have HAP := Lib.hid (fun W (hb : Below w.heap.size w W) => append_any L.nds r.s (H.lf (faceOf H v.e)) r.tA r.tn r.tc r.ts W htn (h.below hb).tp h.tc h.tm (hg.below hb) (hgb.below hb))
  have HLL := Lib.hid (appendR_lt L.nds r.s r.ts (H.lf (faceOf H v.e)) h.tl (L.llt _))
  have HV : Hid (appG H (lgOf r) v.e = if follows (evsOf r.es) v.e = 0 then (if (appendR H.nd r.s r.ts (H.lf (faceOf H v.e))).2.2 = 0 then ({ lgOf r with events := (lgOf r).events ++ [v.e], size := (appendR H.nd r.s r.ts (H.lf (faceOf H v.e))).1, tops := (appendR H.nd r.s r.ts (H.lf (faceOf H v.e))).2.1 }, 0) else (lgOf r, (appendR H.nd r.s r.ts (H.lf (faceOf H v.e))).2.2)) else (lgOf r, follows (evsOf r.es) v.e)) := Lib.hid rfl
  have h5 := lgL_len r
  have h25 := evL_len v
  have hsz : ∀ r' : LgR, (lgC r').size = 5 := lgC_size
  have c1 := lg_c1 q0
  have hcv := blk_row (xs := evL v) q1
  have hel := Lib.hid h.ev.len
  clear hwa q0 q1 q2 h hv hw hf hg hgb L
  unfold FcIs at HFC
  unfold isD at HLF
  unfold ApIs at HAP
  generalize appG H (lgOf r) v.e = X at *
  generalize follows (evsOf r.es) v.e = FO at *
  generalize H.lf (faceOf H v.e) = LF at *
  generalize faceOf H v.e = F at *
  generalize appendR H.nd r.s r.ts LF = AP at *
  obtain ⟨S, T, E⟩ := AP
  dsimp only at HAP HV HLL
  rcases zero_tests FO with ⟨hfo, e1, f1, d1⟩ | ⟨hfo, e1, f1, d1⟩
  rotate_left
  · have hX : X = (lgOf r, FO) := by rw [HV.out, if_neg hfo]
    subst hX
    clear HV HAP HLF HFC HLL
    unfold LgIs
    go_enter Tryz.func23, Tryz.ntmps23
    go_upto_region 1 with (refine wpList_alloc rfl rfl (zeroLg_v _) ?_)
    change Code.wp _ _ _ _ (((w.alloc (.cells (lgC r) 42)).alloc (.cells (evC v) 27)).alloc (.cells (lgC (newLg 0)) 42))
    rw [← HWA.out]
    go_wp2_with ((with_reducible show wpList _ _ _ (⟨some 11, _, _, _, _, _⟩ :: _) _ _); refine wpList_loadK (us := evL v) rfl rfl rfl aggEv (by rw [sizeEv, h25]) hcv ?_)
    refine (HFW.out _ hb0).mono ?_
    rintro e w1 ⟨rfl, hb1⟩
    have b2 := HQ2.out _ hb1
    have zr := lg_row (HQ0.out _ hb1)
    go_wp2_with (first
      | ((with_reducible show wpList _ _ _ (⟨some 15, _, _, _, _, _⟩ :: _) _ _); refine wpList_loadK (us := lgL r) rfl rfl rfl aggLg (by rw [sizeLg, h5]) zr ?_)
      | ((with_reducible show wpList _ _ _ (⟨none, _, _, _, _, _⟩ :: _) _ _); refine wpList_put (vs := lgC r) rfl rfl rfl rfl b2 rfl (by rw [sizeLg, hsz]) (one_lgC r) ?_; intro w9 ht9 b9))
    have hbF : Below w.heap.size w w9 := (bstep hb0 hb1).trans (ht9.below _ (by omega))
    exact ret_blk2 rfl rfl rfl b9 aggLg (by rw [sizeLg, hsz]) ⟨r, rfl, rfl, HOK.out _ hbF, hbF, fun _ _ ha _ => ha⟩
  have HV2 : Hid (X = if E = 0 then ({ lgOf r with events := (lgOf r).events ++ [v.e], size := S, tops := T }, 0) else (lgOf r, E)) := Lib.hid (by rw [HV.out, if_pos hfo])
  clear HV hfo
  go_enter Tryz.func23, Tryz.ntmps23
  go_upto_region 1 with (refine wpList_alloc rfl rfl (zeroLg_v _) ?_)
  change Code.wp _ _ _ _ (((w.alloc (.cells (lgC r) 42)).alloc (.cells (evC v) 27)).alloc (.cells (lgC (newLg 0)) 42))
  rw [← HWA.out]
  go_wp2_with ((with_reducible show wpList _ _ _ (⟨some 11, _, _, _, _, _⟩ :: _) _ _); refine wpList_loadK (us := evL v) rfl rfl rfl aggEv (by rw [sizeEv, h25]) hcv ?_)
  refine (HFW.out _ hb0).mono ?_
  rintro e w1 ⟨rfl, hb1⟩
  go_upto_region 4 with fail
  have HB1 := Lib.hid hb1
  have x2 : ∀ j u, ([.int .i64 r.s, .slice r.tA r.tn r.tc] : List Value)[j]? = some u → w1.cell? ((⟨w.heap.size, 2, none⟩ : Addr).add j) = some u := mid_at (xs := lgL r) (HQ0.out _ hb1) 2 _ (fun j u hj => by
    match j, hj with
    | 0, hj => exact hj
    | 1, hj => exact hj
    | j + 2, hj => simp at hj)
  have xv := blk_row (xs := evL v) (HQ1.out _ hb1)
  replace hb0 := bstep hb0 hb1
  clear c1 hcv hb1
  go_cut [7, 8] (fun v7 v8 wx => ∃ (g7 : Nat) (A : Option Addr) (m c : Nat), v7 = .pointer (some ⟨g7, 0, none⟩) ∧ v8 = .int .i64 E ∧ w1.heap.size ≤ g7 ∧ Blk wx g7 39 (pkC S A m c) ∧ OwnDs wx w1.heap.size (.slice A m c) T ∧ (Value.slice A m c).ownBlock ≠ some g7 ∧ Below w1.heap.size w1 wx)
  case first =>
    have hS : Below w1.heap.size w1 w1.drew := (Below.refl _ _).drew
    refine wp_region_T 10 (by kernel_rfl) ?_
    refine WpT.tk 0 (hS) ?_
    try simp only [nrm]
    refine WpT.tl 1 rfl (yields_loadK (us := [.int .i64 r.s, .slice r.tA r.tn r.tc]) rfl rfl rfl aggPk (by rw [sizePk]; rfl) x2) (hS) ?_
    try simp only [nrm]
    refine WpT.tl 2 rfl (yields_loadK (us := evL v) rfl rfl rfl aggEv (by rw [sizeEv, h25]) xv) (hS) ?_
    try simp only [nrm]
    refine WpT.fork (i := 3) (j := 9) rfl rfl (by kernel_rfl) (fun K hK => ?_) (fun K hK => ?_)
    · go_simp; refine (HFC.out _ (bstep hb0 hS)).mono ?_; rintro e w4 ⟨rfl, hb4⟩; (try replace bV := bV.below hb4); replace hS := bstep hS hb4
      refine hK _ _ (hS) ?_; clear hK K; try simp only [nrm]
      refine WpT.fork (i := 4) (j := 9) rfl rfl (by kernel_rfl) (fun K hK => ?_) (fun K hK => ?_)
      · go_simp; refine (HLF.out _ (bstep hb0 hS)).mono ?_; rintro e w5 ⟨rfl, hb5⟩; (try replace bV := bV.below hb5); replace hS := bstep hS hb5
        refine hK _ _ (hS) ?_; clear hK K; try simp only [nrm]
        refine WpT.fork (i := 5) (j := 9) rfl rfl (by kernel_rfl) (fun K hK => ?_) (fun K hK => ?_)
        · go_simp; refine (HAP.out _ (bstep hb0 hS)).mono ?_; rintro e w6 ⟨A6, m6, c6, rfl, o6, hb6⟩; (try have hne : (Value.slice A6 m6 c6).ownBlock ≠ some gV := fun e => by have := (World.ownsRow.lt o6 _ e).1; have := bV.lt; omega); (try replace bV := bV.below hb6); replace o6 := OwnDs.lower o6 hS.size; replace hS := bstep hS hb6
          refine hK _ _ (hS) ?_; clear hK K; try simp only [nrm]
          refine WpT.tk 6 (hS) ?_
          try simp only [nrm]
          refine WpT.tk 7 (hS) ?_
          try simp only [nrm]
          refine WpT.takeP (i := 8) rfl (by kernel_rfl) (fun _ _ _ h => h) (.inl ⟨by rfl, fun w hSw => by clear hSw; go_simp; (try go_bits); (try rw [if_pos (by omega)]); (try with_reducible rfl)⟩) (hS) ?_
          try simp only [nrm]
          refine WpT.on 9 rfl (fun K hK => ?_)
          refine wp_newBlk rfl zeroPk ?_; intro wV gV hgV bV hbV; have hgB : w1.heap.size ≤ gV := (by have := hS.size; omega); (try have hne : (Value.slice A6 m6 c6).ownBlock ≠ some gV := fun e => by have := (World.ownsRow.lt o6 _ e).2; omega); (try replace o6 := o6.below hbV); clear hgV; replace hS := bstep hS hbV
          refine hK _ _ (hS) ?_; clear hK K; try simp only [nrm]
          refine WpT.ta 10 rfl (fun K hK => ?_)
          refine wp_put (vs := pkC S A6 m6 c6) rfl (by rfl) (by rfl) bV rfl (by rw [sizePk]; rfl) (one_pkC _ _ _ _) ?_; intro w13 ht13 b13
          refine hK _ _ ?_; clear hK K; try simp only [nrm]
          refine WpT.ta 11 rfl (fun K hK => ?_)
          go_simp; (try go_bits)
          refine hK _ _ ?_; clear hK K; try simp only [nrm]
          refine WpT.done (by kernel_rfl) ?_ _
          go_wp2_with fail; go_meet; exact ⟨gV, A6, m6, c6, rfl, rfl, hgB, b13, ht13.own o6 hne, hne, hS.trans (ht13.below _ hgB)⟩
        · refine wp_newBlk rfl zeroPk ?_; intro wV gV hgV bV hbV; have hgB : w1.heap.size ≤ gV := (by have := hS.size; omega); (try have hne : (Value.slice A6 m6 c6).ownBlock ≠ some gV := fun e => by have := (World.ownsRow.lt o6 _ e).2; omega); (try replace o6 := o6.below hbV); clear hgV; replace hS := bstep hS hbV
          refine hK _ _ (hS) ?_; clear hK K; try simp only [nrm]
          refine WpT.on 5 rfl (fun K hK => ?_)
          go_simp; refine (HAP.out _ (bstep hb0 hS)).mono ?_; rintro e w6 ⟨A6, m6, c6, rfl, o6, hb6⟩; (try have hne : (Value.slice A6 m6 c6).ownBlock ≠ some gV := fun e => by have := (World.ownsRow.lt o6 _ e).1; have := bV.lt; omega); (try replace bV := bV.below hb6); replace o6 := OwnDs.lower o6 hS.size; replace hS := bstep hS hb6
          refine hK _ _ (hS) ?_; clear hK K; try simp only [nrm]
          refine WpT.tk 6 (hS) ?_
          try simp only [nrm]
          refine WpT.tk 7 (hS) ?_
          try simp only [nrm]
          refine WpT.takeP (i := 8) rfl (by kernel_rfl) (fun _ _ _ h => h) (.inl ⟨by rfl, fun w hSw => by clear hSw; go_simp; (try go_bits); (try rw [if_pos (by omega)]); (try with_reducible rfl)⟩) (hS) ?_
          try simp only [nrm]
          refine WpT.ta 10 rfl (fun K hK => ?_)
          refine wp_put (vs := pkC S A6 m6 c6) rfl (by rfl) (by rfl) bV rfl (by rw [sizePk]; rfl) (one_pkC _ _ _ _) ?_; intro w13 ht13 b13
          refine hK _ _ ?_; clear hK K; try simp only [nrm]
          refine WpT.ta 11 rfl (fun K hK => ?_)
          go_simp; (try go_bits)
          refine hK _ _ ?_; clear hK K; try simp only [nrm]
          refine WpT.done (by kernel_rfl) ?_ _
          go_wp2_with fail; go_meet; exact ⟨gV, A6, m6, c6, rfl, rfl, hgB, b13, ht13.own o6 hne, hne, hS.trans (ht13.below _ hgB)⟩
      · refine wp_newBlk rfl zeroPk ?_; intro wV gV hgV bV hbV; have hgB : w1.heap.size ≤ gV := (by have := hS.size; omega); (try have hne : (Value.slice A6 m6 c6).ownBlock ≠ some gV := fun e => by have := (World.ownsRow.lt o6 _ e).2; omega); (try replace o6 := o6.below hbV); clear hgV; replace hS := bstep hS hbV
        refine hK _ _ (hS) ?_; clear hK K; try simp only [nrm]
        refine WpT.on 4 rfl (fun K hK => ?_)
        go_simp; refine (HLF.out _ (bstep hb0 hS)).mono ?_; rintro e w5 ⟨rfl, hb5⟩; (try replace bV := bV.below hb5); replace hS := bstep hS hb5
        refine hK _ _ (hS) ?_; clear hK K; try simp only [nrm]
        refine WpT.on 5 rfl (fun K hK => ?_)
        go_simp; refine (HAP.out _ (bstep hb0 hS)).mono ?_; rintro e w6 ⟨A6, m6, c6, rfl, o6, hb6⟩; (try have hne : (Value.slice A6 m6 c6).ownBlock ≠ some gV := fun e => by have := (World.ownsRow.lt o6 _ e).1; have := bV.lt; omega); (try replace bV := bV.below hb6); replace o6 := OwnDs.lower o6 hS.size; replace hS := bstep hS hb6
        refine hK _ _ (hS) ?_; clear hK K; try simp only [nrm]
        refine WpT.tk 6 (hS) ?_
        try simp only [nrm]
        refine WpT.tk 7 (hS) ?_
        try simp only [nrm]
        refine WpT.takeP (i := 8) rfl (by kernel_rfl) (fun _ _ _ h => h) (.inl ⟨by rfl, fun w hSw => by clear hSw; go_simp; (try go_bits); (try rw [if_pos (by omega)]); (try with_reducible rfl)⟩) (hS) ?_
        try simp only [nrm]
        refine WpT.ta 10 rfl (fun K hK => ?_)
        refine wp_put (vs := pkC S A6 m6 c6) rfl (by rfl) (by rfl) bV rfl (by rw [sizePk]; rfl) (one_pkC _ _ _ _) ?_; intro w13 ht13 b13
        refine hK _ _ ?_; clear hK K; try simp only [nrm]
        refine WpT.ta 11 rfl (fun K hK => ?_)
        go_simp; (try go_bits)
        refine hK _ _ ?_; clear hK K; try simp only [nrm]
        refine WpT.done (by kernel_rfl) ?_ _
        go_wp2_with fail; go_meet; exact ⟨gV, A6, m6, c6, rfl, rfl, hgB, b13, ht13.own o6 hne, hne, hS.trans (ht13.below _ hgB)⟩
    · refine wp_newBlk rfl zeroPk ?_; intro wV gV hgV bV hbV; have hgB : w1.heap.size ≤ gV := (by have := hS.size; omega); (try have hne : (Value.slice A6 m6 c6).ownBlock ≠ some gV := fun e => by have := (World.ownsRow.lt o6 _ e).2; omega); (try replace o6 := o6.below hbV); clear hgV; replace hS := bstep hS hbV
      refine hK _ _ (hS) ?_; clear hK K; try simp only [nrm]
      refine WpT.on 3 rfl (fun K hK => ?_)
      go_simp; refine (HFC.out _ (bstep hb0 hS)).mono ?_; rintro e w4 ⟨rfl, hb4⟩; (try replace bV := bV.below hb4); replace hS := bstep hS hb4
      refine hK _ _ (hS) ?_; clear hK K; try simp only [nrm]
      refine WpT.on 4 rfl (fun K hK => ?_)
      go_simp; refine (HLF.out _ (bstep hb0 hS)).mono ?_; rintro e w5 ⟨rfl, hb5⟩; (try replace bV := bV.below hb5); replace hS := bstep hS hb5
      refine hK _ _ (hS) ?_; clear hK K; try simp only [nrm]
      refine WpT.on 5 rfl (fun K hK => ?_)
      go_simp; refine (HAP.out _ (bstep hb0 hS)).mono ?_; rintro e w6 ⟨A6, m6, c6, rfl, o6, hb6⟩; (try have hne : (Value.slice A6 m6 c6).ownBlock ≠ some gV := fun e => by have := (World.ownsRow.lt o6 _ e).1; have := bV.lt; omega); (try replace bV := bV.below hb6); replace o6 := OwnDs.lower o6 hS.size; replace hS := bstep hS hb6
      refine hK _ _ (hS) ?_; clear hK K; try simp only [nrm]
      refine WpT.tk 6 (hS) ?_
      try simp only [nrm]
      refine WpT.tk 7 (hS) ?_
      try simp only [nrm]
      refine WpT.takeP (i := 8) rfl (by kernel_rfl) (fun _ _ _ h => h) (.inl ⟨by rfl, fun w hSw => by clear hSw; go_simp; (try go_bits); (try rw [if_pos (by omega)]); (try with_reducible rfl)⟩) (hS) ?_
      try simp only [nrm]
      refine WpT.ta 10 rfl (fun K hK => ?_)
      refine wp_put (vs := pkC S A6 m6 c6) rfl (by rfl) (by rfl) bV rfl (by rw [sizePk]; rfl) (one_pkC _ _ _ _) ?_; intro w13 ht13 b13
      refine hK _ _ ?_; clear hK K; try simp only [nrm]
      refine WpT.ta 11 rfl (fun K hK => ?_)
      go_simp; (try go_bits)
      refine hK _ _ ?_; clear hK K; try simp only [nrm]
      refine WpT.done (by kernel_rfl) ?_ _
      go_wp2_with fail; go_meet; exact ⟨gV, A6, m6, c6, rfl, rfl, hgB, b13, ht13.own o6 hne, hne, hS.trans (ht13.below _ hgB)⟩
  case rest =>
    obtain ⟨g7, A7, m7, c7, rfl, rfl, hg7, b7, o7, hne7, hbw⟩ := hcut
    have zr := lg_row ((HQ0.out _ HB1.out).below hbw)
    have b2 := (HQ2.out _ HB1.out).below hbw
    rcases zero_tests E with ⟨hE, e2, f2, d2⟩ | ⟨hE, e2, f2, d2⟩
    rotate_left
    · have hX : X = (lgOf r, E) := by rw [HV2.out, if_neg hE]
      subst hX
      clear HV2 HFC HLF HAP HFW
      go_wp2_with (first
        | ((with_reducible show wpList _ _ _ (⟨some 28, _, _, _, _, _⟩ :: _) _ _); refine wpList_loadK (us := lgL r) rfl rfl rfl aggLg (by rw [sizeLg, h5]) zr ?_)
        | ((with_reducible show wpList _ _ _ (⟨none, _, _, _, _, _⟩ :: _) _ _); refine wpList_put (vs := lgC r) rfl rfl rfl rfl b2 rfl (by rw [sizeLg, hsz]) (one_lgC r) ?_; intro w9 ht9 b9))
      have hbF : Below w.heap.size w w9 := (bstep hb0 hbw).trans (ht9.below _ (by omega))
      exact ret_blk2 rfl rfl rfl b9 aggLg (by rw [sizeLg, hsz]) ⟨r, rfl, rfl, HOK.out _ hbF, hbF, fun _ _ ha _ => ha⟩
    · have HX : Hid (X = ({ lgOf r with events := (lgOf r).events ++ [v.e], size := S, tops := T }, 0)) := Lib.hid (by rw [HV2.out, if_pos hE])
      subst hE
      have HB7 := Lib.hid b7
      have HO7 := Lib.hid o7
      have HW7 := Lib.hid hbw
      have HG7 : Hid (w1.heap.size ≤ g7 ∧ wa.heap.size ≤ g7) := Lib.hid ⟨hg7, by have := HB1.out.size; omega⟩
      have HM7 := Lib.hid (own_len o7)
      clear HV2 HFC HLF HAP HFW b7 o7 hne7 hg7 x2 xv
      replace hb0 := bstep hb0 hbw
      have HEV := Lib.hid ((HQ1.out _ HB1.out).below hbw)
      have HCH := Lib.hid (fun A W (hbW : Below wc.heap.size wc W) (hfn : Rd W A 1 [.func (.func 71) #[] #[.pointer (some ⟨w.heap.size + 1, 0, none⟩), .pointer (some ⟨g7, 0, none⟩)]]) =>
        changed2_any 71 (w.heap.size + 1) g7 r A W (ApPost r v S A7 m7 c7 T) hfn ent_ap
          (fun W2 g hb2 hgB hblk => apClo_any r v S A7 m7 c7 T g (w.heap.size + 1) g7 W2 hblk (HEV.out.below (bstep hbW hb2)) (HB7.out.below (bstep hbW hb2))
            (by have := HEV.out.lt; have := hbW.size; omega) (by have := HB7.out.lt; have := hbW.size; omega) (HOK.out _ (bstep hb0 (bstep hbW hb2))).ev.rd hn)
          (fun r' B W g W' hp hgB ht => hp.turned hgB ht))
      clear hbw
      go_wp2_with (first
        | ((with_reducible show wpList _ _ _ (⟨some 30, _, _, _, _, _⟩ :: _) _ _); refine wpList_loadK (us := lgL r) rfl rfl rfl aggLg (by rw [sizeLg, h5]) zr ?_)
        | ((with_reducible show wpList _ _ _ (⟨some 32, _, _, _, _, _⟩ :: _) _ _); refine wpList_lit1F rfl rfl rfl (build1_fn2 _ _ _) ?_; intro w2 gf rf hb2))
      refine (HCH.out _ _ hb2 rf).mono ?_
      rintro e w3 ⟨r', B, rfl, hB, hpost, hb3⟩
      have hb23 := bstep hb2 hb3
      replace b2 := b2.below hb23
      clear zr rf
      obtain ⟨A9, c9, rfl, o9, n9, m9⟩ := hpost
      have HO9 := Lib.hid o9
      have HBB : Hid (wc.heap.size ≤ B ∧ w.heap.size + 1 + 1 < wc.heap.size) := Lib.hid ⟨by have := hb2.size; omega, by have := HW7.out.size; have := HB1.out.size; have := HLT.out; omega⟩
      have HN9 : Hid (r.en + 1 ≤ c9 ∧ c9 ≤ maxLen) := Lib.hid ⟨n9, m9⟩
      clear o9 hB n9 m9 hb2 hb3
      have hbF0 := bstep hb0 hb23
      have HO7' := Lib.hid (HO7.out.below hb23)
      clear hb23
      go_wp2_with ((with_reducible show wpList _ _ _ (⟨none, _, _, _, _, _⟩ :: _) _ _); refine wpList_put (vs := lgC { r with eA := A9, en := r.en + 1, ec := c9, es := r.es ++ [v], s := S, tA := A7, tn := m7, tc := c7, ts := T }) rfl rfl rfl rfl b2 rfl (by rw [sizeLg, hsz]) (one_lgC _) ?_; intro w9 ht9 b9)
      have hbF : Below w.heap.size w w9 := hbF0.trans (ht9.below _ (by omega))
      have hO9 := ht9.own HO9.out (fun e => by have := (World.ownsRow.lt HO9.out _ e).1; have := HBB.out; omega)
      have hO7 : OwnDs w9 w1.heap.size (.slice A7 m7 c7) T := ht9.own HO7'.out (fun e => by have := (World.ownsRow.lt HO7'.out _ e).1; have := HB1.out.size; have := HLT.out; omega)
      refine ret_blk2 rfl rfl rfl b9 aggLg (by rw [sizeLg, hsz]) ?_
      rw [HX.out]
      refine ⟨_, rfl, lg_ofAp r v S A9 A7 (r.en + 1) c9 m7 c7 T, ?_, hbF, fun g hg ha hv => ⟨by
        rcases hg with hg | hg
        · exact own_away hO9 (by have := HBB.out; omega)
        · exact (own_under hO9).away hg, by
        rcases hg with hg | hg
        · exact own_away hO7 (by have := HB1.out.size; have := HLT.out; omega)
        · exact (own_under hO7).away hg, ha.hd, fun x hx => by
        rcases List.mem_append.1 hx with hx | hx
        · exact ha.es x hx
        · rw [List.mem_singleton.1 hx]; exact hv⟩⟩
      have hk := HOK.out _ hbF
      obtain ⟨A7', c7', he7, k1, k2, k3⟩ := OwnDs.formN hO7 HM7.out.symm
      injection he7 with i1 i2 i3
      subst i1
      subst i3
      exact ⟨⟨by simp [hel.out], by rw [List.flatMap_append]; simpa using own_rdK hO9, fun x hx => by
        rcases List.mem_append.1 hx with hx | hx
        · exact hk.ev.ok x hx
        · rw [List.mem_singleton.1 hx]; exact HVK.out _ hbF⟩, HN9.out.1, HN9.out.2, k3, k1, k2, HLL.out, hk.hd, hk.hc, hk.hm, hk.hl⟩
end Go.Proofs.YtcapckngikekpaaGreatDoor
namespace Go.Proofs.YtcapckngikekpaaGreatDoor
set_option linter.unusedSimpArgs false
set_option linter.unusedVariables false
open Go.RowKit Exch Merk Ring
theorem ret_cc2 {P : Program} {fn : Func} {R : Ending → World → Prop} {a : Act} {w : World} {g g2 : Nat} {t t2 : TypeId} {cs cs2 : Array Value} {p p2 q : Tmp} {ty ty2 : TypeId}
    (h : fn.results = #[.cell p ty, .cell p2 ty2, .tmp q]) (hd : a.defers = []) (hp : a.tmps.getD p undef = .pointer (some ⟨g, 0, none⟩)) (hp2 : a.tmps.getD p2 undef = .pointer (some ⟨g2, 0, none⟩)) (hb : Blk w g t cs) (hb2 : Blk w g2 t2 cs2)
    (hu : (P.underlying ty).map isAggDesc = some true) (hi : (P.info? ty).map (·.size) = some cs.size) (hu2 : (P.underlying ty2).map isAggDesc = some true) (hi2 : (P.info? ty2).map (·.size) = some cs2.size) (hR : R (.returned (.tuple #[.agg cs, .agg cs2, a.tmps.getD q undef])) w) : bodyPost P fn R .ret a w := by
  refine bodyPost_ret ?_ hd hR
  have hp' : a.tmps[p]?.getD undef = .pointer (some ⟨g, 0, none⟩) := by simpa using hp
  have hp2' : a.tmps[p2]?.getD undef = .pointer (some ⟨g2, 0, none⟩) := by simpa using hp2
  simp [results, h, hp', hp2', asAddr, run_loadVar_blk w g t ty cs hb hu hi, run_loadVar_blk w g2 t2 ty2 cs2 hb2 hu2 hi2]
theorem topN_lt {nd : Nat → Nat → Nat} {em : Nat} (N : Nds nd em) (tl : List Nat) (hl : ∀ y ∈ tl, y < 2 ^ 128) : topN nd em tl < 2 ^ 128 := by
  rcases List.eq_nil_or_concat tl with rfl | ⟨l, x, rfl⟩
  · exact N.lt0
  · rw [List.concat_eq_append, topN_snoc]
    exact fold_lt N.lt x (hl x (by simp)) l
theorem topR_lt {nd : Nat → Nat → Nat} {em : Nat} (N : Nds nd em) (s : Int) (tl : List Nat) (hl : ∀ y ∈ tl, y < 2 ^ 128) : (topR nd em s tl).1 < 2 ^ 128 := by
  unfold topR
  split
  · exact topN_lt N tl hl
  · decide
theorem lastDay_fits (l : List EvR) (hf : EvFine l) : -9223372036854775808 ≤ lastDay (evsOf l) ∧ lastDay (evsOf l) ≤ 9223372036854775807 := by
  rcases Nat.eq_zero_or_pos l.length with h | h
  · have : l = [] := List.eq_nil_of_length_eq_zero h
    subst this
    exact ⟨by decide, by decide⟩
  · rw [lastDay_evs l h]
    have := (hf _ (List.getElem_mem (show l.length - 1 < l.length by omega))).1.nums
    exact this _ (by simp)
theorem build5_Hd (o c d : Int) (rt : Nat) (s : Int) (W : World) : (Instr.build 51 #[(0, .int .i64 o), (1, .int .i64 c), (2, .int .i64 d), (3, dgV rt), (4, .int .i64 s)]).run Tryz.prog W = .ok (hdV ⟨o, c, d, rt, s, 0⟩) W := by kernel_rfl
theorem build0_Hd (W : World) : (Instr.build 51 #[]).run Tryz.prog W = .ok (hdV zeroHd) W := by kernel_rfl
theorem yields_build5 {P : Program} {ops : Array Oper} {S : World → Prop} {o : Oper} {a : Act} {T : TypeId} {i j k l m : Nat} {x y z u t : Operand} {vx vy vz vu vt v : Value} (ho : o.op = .build T #[(i, x), (j, y), (k, z), (l, u), (m, t)]) (hgd : o.guard = none) (hx : a.eval x = vx) (hy : a.eval y = vy) (hz : a.eval z = vz) (hu : a.eval u = vu) (ht : a.eval t = vt) (h : ∀ W, (Instr.build T #[(i, vx), (j, vy), (k, vz), (l, vu), (m, vt)]).run P W = .ok v W) : YieldsIf P ops S o v a := by
  refine .inl ⟨by simp [Region.wanted, hgd], fun w hS => ?_⟩
  unfold execOp
  simp only [ho, List.map_toArray, List.map_cons, List.map_nil, hx, hy, hz, hu, ht, Sem.run_bind, h, Result.andThen_ok, Sem.run_pure]
theorem hd_setSig (h : Hd) (b : Nat) : ((hdC h).toList.take 20 ++ bv (dg b) ++ (hdC h).toList.drop (20 + (bv (dg b)).length)).toArray = hdC { h with sig := b } := by
  have e : (hdC h).toList.drop (20 + (bv (dg b)).length) = [] := List.drop_eq_nil_of_le (by rw [bv_dg_len]; show (hdL h).length ≤ 36; rw [hdL_len]; omega)
  rw [e, List.append_nil]
  have h2 : (hdC h).toList.take 20 = [.int .i64 h.office, .int .i64 h.commit, .int .i64 h.day] ++ bv (dg h.root) ++ [.int .i64 h.serial] := by
    show (hdL h).take 20 = _
    unfold hdL
    rw [List.take_append_of_le_length (by simp only [List.length_append, bv_dg_len]; simp), List.take_of_length_le (by simp only [List.length_append, bv_dg_len]; simp)]
  rw [h2]
  rfl
theorem build1_fn1 (p : Nat) (W : World) : (Instr.buildSlice 159 1 #[(0, .func (.func 77) #[] #[.pointer (some ⟨p, 0, none⟩)])]).run Tryz.prog W = .ok (.slice (some ⟨W.heap.size, 0, none⟩) 1 1) (W.alloc (.cells #[.func (.func 77) #[] #[.pointer (some ⟨p, 0, none⟩)]] 160)) := by kernel_rfl
theorem wp_lit1F {w : World} {o : Oper} {a : Act} {K : Act → World → Prop} {Q : Exit → Act → World → Prop} {T e : TypeId} {y : Operand} {v : Value} (ho : o.op = .buildSlice T 1 #[(0, y)]) (hy : a.eval y = v)
    (hb : ∀ W : World, (Instr.buildSlice T 1 #[(0, v)]).run Tryz.prog W = .ok (.slice (some ⟨W.heap.size, 0, none⟩) 1 1) (W.alloc (.cells #[v] e)))
    (h : ∀ w' g, Rd w' (some ⟨g, 0, none⟩) 1 [v] → Below w.heap.size w w' → K (a.put o.dst (.slice (some ⟨g, 0, none⟩) 1 1)) w') : o.wp Tryz.prog a w K Q := by
  have h2 := h _ _ (Rd.new1 w v e) ((Below.refl _ _).alloc (Nat.le_refl _) _)
  unfold Oper.wp execOp
  simp only [ho, List.map_toArray, List.map_cons, List.map_nil, hy, hb, Sem.run_bind, Result.andThen_ok, Sem.run_pure]
  exact h2
theorem ent_se (args : Array Value) (W : World) : (callFunc 77 args).run Tryz.prog W = .ok (.enter 77 args) W := by kernel_rfl
theorem lg_ofSe (r : LgR) (h : Hd) (A : Option Addr) (n c : Nat) : lgOf { r with hA := A, hn := n, hc := c, hs := r.hs ++ [h] } = { lgOf r with heads := (lgOf r).heads ++ [h] } := by simp [lgOf]
/-- A ledger that reads as l, a head, and what was wrong. -/
def SlIs (r0 : LgR) (p : Lg × Hd × Int) (w : World) (e : Ending) (w' : World) : Prop := ∃ r : LgR, e = .returned (.tuple #[lgV r, hdV p.2.1, .int .i64 p.2.2]) ∧ lgOf r = p.1 ∧ LgOk w' r ∧ HdLt p.2.1 ∧ Below w.heap.size w w' ∧ (∀ g, (g < w.heap.size ∨ w'.heap.size ≤ g) → LgAway g r0 → LgAway g r)
theorem bx4 (w : World) (c1 c2 c3 c4 : Array Value) (t1 t2 t3 t4 : TypeId) : ∃ wa : World, wa = (((w.alloc (.cells c1 t1)).alloc (.cells c2 t2)).alloc (.cells c3 t3)).alloc (.cells c4 t4) ∧ Below w.heap.size w wa ∧ Blk wa w.heap.size t1 c1 ∧ Blk wa (w.heap.size + 1) t2 c2 ∧ Blk wa (w.heap.size + 1 + 1) t3 c3 ∧ Blk wa (w.heap.size + 1 + 1 + 1) t4 c4 := by
  obtain ⟨wx, hwx, hb, q1, q2, q3⟩ := bx3 w c1 c2 c3 t1 t2 t3
  subst hwx
  exact ⟨_, rfl, hb.alloc hb.size _, q1.alloc _, q2.alloc _, q3.alloc _, by
    have := Blk.new (((w.alloc (.cells c1 t1)).alloc (.cells c2 t2)).alloc (.cells c3 t3)) t4 c4
    simpa using this⟩
set_option maxRecDepth 100000 in
set_option maxHeartbeats 8000000 in
theorem sealF_any {H : He} (L : Les H) (r : LgR) (k : Key) (w : World) (h : LgOk w r) (hn : r.en ≤ 1000000) (hhn : r.hn ≤ 1000000) (htn : r.tn ≤ 1000) (hf : EvFine r.es) (hk : WfK k) (hks : k.secret.size ≤ 65536) (ho : 0 ≤ r.o ∧ r.o < 32) (hg : GCon w) :
    Calls Tryz.prog 24 #[lgV r, keyV k] w (SlIs r (sealG H (lgOf r) k) w) := by
  obtain ⟨wa, hwa, hb0, q0, q1, q2, q3⟩ := bx4 w (lgC r) (keyC k) (lgC (newLg 0)) (hdC zeroHd) 42 44 42 51
  have HWA := Lib.hid hwa
  have HQ0 := Lib.hid (fun W (h : Below wa.heap.size wa W) => q0.below h)
  have HQ1 := Lib.hid (fun W (h : Below wa.heap.size wa W) => q1.below h)
  have HQ2 := Lib.hid (fun W (h : Below wa.heap.size wa W) => q2.below h)
  have HQ3 := Lib.hid (fun W (h : Below wa.heap.size wa W) => q3.below h)
  have HLT : Hid (w.heap.size + 1 + 1 + 1 < wa.heap.size) := Lib.hid q3.lt
  have HOK := Lib.hid (fun W (hb : Below w.heap.size w W) => h.below hb)
  have HM := Lib.hid (fun W => mine_any k r.o W hk ho.1 ho.2)
  have HTP := Lib.hid (fun W (hb : Below w.heap.size w W) => top_any L.nds r.s r.tA r.tn r.tc r.ts W htn (h.below hb).tp h.tc h.tm (hg.below hb))
  have HDY := Lib.hid (fun W (hb : Below w.heap.size w W) => day_any r r.en W (h.below hb) (Nat.le_refl _) hn)
  have hdf := lastDay_fits r.es hf
  have HLD : Hid (dayAt (evsOf r.es) r.en = lastDay (evsOf r.es)) := Lib.hid (by unfold lastDay; rw [evsOf_len, h.ev.len])
  have htl := topR_lt L.nds r.s r.ts h.tl
  have hsgl := L.hlt k.secret r.o (r.en : Int) (lastDay (evsOf r.es)) k.serial (topR H.nd H.em r.s r.ts).1
  have HV : Hid (sealG H (lgOf r) k = if mineG k r.o = true then ({ lgOf r with heads := (lgOf r).heads ++ [⟨r.o, (r.en : Int), lastDay (evsOf r.es), (topR H.nd H.em r.s r.ts).1, k.serial, H.sh k.secret r.o (r.en : Int) (lastDay (evsOf r.es)) k.serial (topR H.nd H.em r.s r.ts).1⟩] }, ⟨r.o, (r.en : Int), lastDay (evsOf r.es), (topR H.nd H.em r.s r.ts).1, k.serial, H.sh k.secret r.o (r.en : Int) (lastDay (evsOf r.es)) k.serial (topR H.nd H.em r.s r.ts).1⟩, 0) else (lgOf r, zeroHd, 1)) := Lib.hid (by
    unfold sealG headG
    rw [show (lgOf r).events = evsOf r.es from rfl, evsOf_len, h.ev.len]
    rfl)
  rw [HLD.out] at HDY
  generalize lastDay (evsOf r.es) = LD at *
  generalize hTR : topR H.nd H.em r.s r.ts = TR at *
  have HSR : Hid (fits64 [r.o, (r.en : Int), LD, k.serial]) := Lib.hid (by
    have := wf64 hk.serial
    intro x hx
    simp only [List.mem_cons, List.not_mem_nil, or_false] at hx
    rcases hx with rfl | rfl | rfl | rfl <;> omega)
  have HPT := Lib.hid (fun W => headParts_any ⟨r.o, (r.en : Int), LD, TR.1, k.serial, 0⟩ W HSR.out)
  have HMK := Lib.hid (fun A W (hb : Below w.heap.size w W) (hr : Rd W A 2 (sv (headP r.o (r.en : Int) LD k.serial TR.1))) => L.makeH k r.o (r.en : Int) LD k.serial TR.1 A 2 2 W (by omega) hks hr (hg.below hb))
  have h5 := lgL_len r
  have hsz : ∀ r' : LgR, (lgC r').size = 5 := lgC_size
  have hsh : ∀ h' : Hd, (hdC h').size = 36 := hdC_size
  have h36 := hdL_len
  have c0 := lg_c0 q0
  have hck := blk_row (xs := kv k) q1
  have hel := Lib.hid h.hd.len
  clear hwa q0 q1 q2 q3 h hf hk hg L hTR
  generalize sealG H (lgOf r) k = X at *
  unfold BIs at HM
  unfold PtsIs at HPT
  unfold isD at HMK
  generalize mineG k r.o = M at *
  obtain ⟨RT, TE⟩ := TR
  dsimp only at HTP htl hsgl HV HPT HMK
  generalize H.sh k.secret r.o (r.en : Int) LD k.serial RT = SG at *
  generalize headP r.o (r.en : Int) LD k.serial RT = PT at *
  cases M with
  | false =>
    have hX : X = (lgOf r, zeroHd, 1) := by rw [HV.out]; rfl
    subst hX
    clear HV HTP HDY HPT HMK
    go_enter Tryz.func24, Tryz.ntmps24
    go_upto_region 1 with (first
      | ((with_reducible show wpList _ _ _ (⟨some 4, _, _, _, _, _⟩ :: _) _ _); refine wpList_alloc rfl rfl (zeroLg_v _) ?_)
      | ((with_reducible show wpList _ _ _ (⟨some 5, _, _, _, _, _⟩ :: _) _ _); refine wpList_alloc rfl rfl (zeroHd_v _) ?_))
    change Code.wp _ _ _ _ ((((w.alloc (.cells (lgC r) 42)).alloc (.cells (keyC k) 44)).alloc (.cells (lgC (newLg 0)) 42)).alloc (.cells (hdC zeroHd) 51))
    rw [← HWA.out]
    go_wp2_with ((with_reducible show wpList _ _ _ (⟨some 11, _, _, _, _, _⟩ :: _) _ _); refine wpList_loadKy rfl rfl rfl hck ?_)
    refine (HM.out _).mono ?_
    rintro e w1 ⟨rfl, hb1⟩
    have b2 := HQ2.out _ hb1
    have b3 := HQ3.out _ hb1
    have zr := lg_row (HQ0.out _ hb1)
    go_wp2_with (first
      | ((with_reducible show wpList _ _ _ (⟨some 16, _, _, _, _, _⟩ :: _) _ _); refine wpList_loadK (us := lgL r) rfl rfl rfl aggLg (by rw [sizeLg, h5]) zr ?_)
      | ((with_reducible show wpList _ _ _ (⟨some 17, _, _, _, _, _⟩ :: _) _ _); refine wpList_build0 rfl rfl build0_Hd ?_)
      | ((with_reducible show wpList _ _ _ (⟨none, _, _, _, _, _⟩ :: _) _ _); refine wpList_put (vs := lgC r) rfl rfl rfl rfl b2 rfl (by rw [sizeLg, hsz]) (one_lgC r) ?_; intro w8 ht8 b8; replace b3 := ht8.blk b3 (by omega))
      | ((with_reducible show wpList _ _ _ (⟨none, _, _, _, _, _⟩ :: _) _ _); refine wpList_put (vs := hdC zeroHd) rfl rfl rfl rfl b3 rfl (by rw [sizeHd, hsh]) (one_hdC _) ?_; intro w9 ht9 b9; replace b8 := ht9.blk b8 (by omega)))
    have hbF : Below w.heap.size w w9 := ((bstep hb0 hb1).trans (ht8.below _ (by omega))).trans (ht9.below _ (by omega))
    exact ret_cc2 rfl rfl rfl rfl b8 b9 aggLg (by rw [sizeLg, hsz]) aggHd (by rw [sizeHd, hsh]) ⟨r, rfl, rfl, HOK.out _ hbF, HdLt.zero, hbF, fun _ _ ha => ha⟩
  | true =>
    have HX : Hid (X = ({ lgOf r with heads := (lgOf r).heads ++ [⟨r.o, (r.en : Int), LD, RT, k.serial, SG⟩] }, ⟨r.o, (r.en : Int), LD, RT, k.serial, SG⟩, 0)) := Lib.hid (by rw [HV.out, if_pos rfl])
    clear HV
    go_enter Tryz.func24, Tryz.ntmps24
    go_upto_region 1 with (first
      | ((with_reducible show wpList _ _ _ (⟨some 4, _, _, _, _, _⟩ :: _) _ _); refine wpList_alloc rfl rfl (zeroLg_v _) ?_)
      | ((with_reducible show wpList _ _ _ (⟨some 5, _, _, _, _, _⟩ :: _) _ _); refine wpList_alloc rfl rfl (zeroHd_v _) ?_))
    change Code.wp _ _ _ _ ((((w.alloc (.cells (lgC r) 42)).alloc (.cells (keyC k) 44)).alloc (.cells (lgC (newLg 0)) 42)).alloc (.cells (hdC zeroHd) 51))
    rw [← HWA.out]
    go_wp2_with ((with_reducible show wpList _ _ _ (⟨some 11, _, _, _, _, _⟩ :: _) _ _); refine wpList_loadKy rfl rfl rfl hck ?_)
    refine (HM.out _).mono ?_
    rintro e w1 ⟨rfl, hb1⟩
    have x1 := lg_c1 (HQ0.out _ hb1)
    have x2 : ∀ j u, ([.int .i64 r.s, .slice r.tA r.tn r.tc] : List Value)[j]? = some u → w1.cell? ((⟨w.heap.size, 2, none⟩ : Addr).add j) = some u := mid_at (xs := lgL r) (HQ0.out _ hb1) 2 _ (fun j u hj => by
      match j, hj with
      | 0, hj => exact hj
      | 1, hj => exact hj
      | j + 2, hj => simp at hj)
    go_wp2_with ((with_reducible show wpList _ _ _ (⟨some 23, _, _, _, _, _⟩ :: _) _ _); refine wpList_loadK (us := [.int .i64 r.s, .slice r.tA r.tn r.tc]) rfl rfl rfl aggPk (by rw [sizePk]; rfl) x2 ?_)
    refine (HTP.out _ (bstep hb0 hb1)).mono ?_
    rintro e w2 ⟨rfl, hb2⟩
    go_upto_region 5 with ((with_reducible show wpList _ _ _ (⟨some 8, _, _, _, _, _⟩ :: _) _ _); refine wpList_newDg (n := RT) rfl rfl rfl rfl (fun _ => rfl) (fun _ => rfl) ?_; intro w3 g8 hg8 b8 hb3; clear hg8)
    have HB3 := Lib.hid (bstep hb1 (bstep hb2 hb3))
    have y0 := lg_c0 (HQ0.out _ HB3.out)
    have yr := lg_row (HQ0.out _ HB3.out)
    have ys := kv_c1 (HQ1.out _ HB3.out)
    have hc8 := blk_row (xs := bv (dg RT)) b8
    replace hb0 := bstep hb0 HB3.out
    clear c0 hck x1 x2 hb1 hb2 hb3 b8 HTP HM
    go_cut [10] (fun v10 wx => ∃ g, v10 = .pointer (some ⟨g, 0, none⟩) ∧ w3.heap.size ≤ g ∧ Blk wx g 51 (hdC ⟨r.o, (r.en : Int), LD, RT, k.serial, 0⟩) ∧ Below w3.heap.size w3 wx)
    case first =>
      have hS : Below w3.heap.size w3 w3.drew := (Below.refl _ _).drew
      refine wp_region_T 11 (by kernel_rfl) ?_
      refine WpT.tk 0 (hS) ?_
      try simp only [nrm]
      refine WpT.tl 1 rfl (yields_load rfl rfl rfl (by kernel_rfl) y0) (hS) ?_
      try simp only [nrm]
      refine WpT.tk 2 (hS) ?_
      try simp only [nrm]
      refine WpT.tl 3 rfl (yields_loadK (us := lgL r) rfl rfl rfl aggLg (by rw [sizeLg, h5]) yr) (hS) ?_
      try simp only [nrm]
      refine WpT.tk 4 (hS) ?_
      try simp only [nrm]
      refine WpT.tl 6 rfl (yields_loadK (us := bv (dg RT)) rfl rfl rfl aggDg (by rw [sizeDg, bv_dg_len]) hc8) (hS) ?_
      try simp only [nrm]
      refine WpT.tk 7 (hS) ?_
      try simp only [nrm]
      refine WpT.tl 8 rfl (yields_load rfl rfl rfl (by kernel_rfl) ys) (hS) ?_
      try simp only [nrm]
      refine WpT.fork (i := 5) (j := 10) rfl rfl (by kernel_rfl) (fun K hK => ?_) (fun K hK => ?_)
      · go_simp; refine (HDY.out _ (bstep hb0 hS)).mono ?_; rintro e w4 ⟨rfl, hb4⟩; (try replace bV := bV.below hb4); replace hS := bstep hS hb4
        refine hK _ _ (hS) ?_; clear hK K; try simp only [nrm]
        refine WpT.tl 9 rfl (yields_build5 rfl rfl (by rfl) (by rfl) (by rfl) (by rfl) (by rfl) (build5_Hd r.o (r.en : Int) LD RT k.serial)) (hS) ?_
        try simp only [nrm]
        refine WpT.on 10 rfl (fun K hK => ?_)
        refine wp_newBlk rfl zeroHd_v ?_; intro wV gV hgV bV hbV; have hgB : w3.heap.size ≤ gV := (by have := hS.size; omega); clear hgV; replace hS := bstep hS hbV
        refine hK _ _ (hS) ?_; clear hK K; try simp only [nrm]
        refine WpT.ta 11 rfl (fun K hK => ?_)
        refine wp_put (vs := hdC ⟨r.o, (r.en : Int), LD, RT, k.serial, 0⟩) rfl (by rfl) (by rfl) bV (by rw [hsh, hsh]) (by rw [sizeHd, hsh]) (one_hdC _) ?_; intro w13 ht13 b13
        refine hK _ _ ?_; clear hK K; try simp only [nrm]
        refine WpT.done (by kernel_rfl) ?_ _
        go_wp2_with fail; go_meet; exact ⟨gV, rfl, hgB, b13, hS.trans (ht13.below _ hgB)⟩
      · refine wp_newBlk rfl zeroHd_v ?_; intro wV gV hgV bV hbV; have hgB : w3.heap.size ≤ gV := (by have := hS.size; omega); clear hgV; replace hS := bstep hS hbV
        refine hK _ _ (hS) ?_; clear hK K; try simp only [nrm]
        refine WpT.on 5 rfl (fun K hK => ?_)
        go_simp; refine (HDY.out _ (bstep hb0 hS)).mono ?_; rintro e w4 ⟨rfl, hb4⟩; (try replace bV := bV.below hb4); replace hS := bstep hS hb4
        refine hK _ _ (hS) ?_; clear hK K; try simp only [nrm]
        refine WpT.tl 9 rfl (yields_build5 rfl rfl (by rfl) (by rfl) (by rfl) (by rfl) (by rfl) (build5_Hd r.o (r.en : Int) LD RT k.serial)) (hS) ?_
        try simp only [nrm]
        refine WpT.ta 11 rfl (fun K hK => ?_)
        refine wp_put (vs := hdC ⟨r.o, (r.en : Int), LD, RT, k.serial, 0⟩) rfl (by rfl) (by rfl) bV (by rw [hsh, hsh]) (by rw [sizeHd, hsh]) (one_hdC _) ?_; intro w13 ht13 b13
        refine hK _ _ ?_; clear hK K; try simp only [nrm]
        refine WpT.done (by kernel_rfl) ?_ _
        go_wp2_with fail; go_meet; exact ⟨gV, rfl, hgB, b13, hS.trans (ht13.below _ hgB)⟩
    case rest =>
      obtain ⟨g10, rfl, hg10, b10, hbw⟩ := hcut
      have hck2 := blk_row (xs := kv k) ((HQ1.out _ HB3.out).below hbw)
      have hch := blk_row (xs := hdL ⟨r.o, (r.en : Int), LD, RT, k.serial, 0⟩) b10
      have HB4 := Lib.hid (bstep HB3.out hbw)
      have HG10 : Hid (wa.heap.size ≤ g10 ∧ w3.heap.size ≤ g10) := Lib.hid ⟨by have := HB3.out.size; omega, hg10⟩
      replace hb0 := bstep hb0 hbw
      have hsk : (kv k).length = 5 := rfl
      have h36' := h36 ⟨r.o, (r.en : Int), LD, RT, k.serial, 0⟩
      have HBW := Lib.hid hbw
      clear y0 yr ys hc8 hg10 hbw
      go_upto_region 6 with fail
      have hS : Below wc.heap.size wc wc.drew := (Below.refl _ _).drew
      refine wp_region_T 5 (by kernel_rfl) ?_
      refine WpT.tl 0 rfl (yields_loadK (us := kv k) rfl rfl rfl aggKy (by rw [sizeKy, hsk]) hck2) (hS) ?_
      try simp only [nrm]
      refine WpT.tl 1 rfl (yields_loadK (us := hdL ⟨r.o, (r.en : Int), LD, RT, k.serial, 0⟩) rfl rfl rfl aggHd (by rw [sizeHd, h36']) hch) (hS) ?_
      try simp only [nrm]
      refine WpT.on 2 rfl (fun K hK => ?_)
      go_simp; refine (HPT.out _).mono ?_; rintro e w4 ⟨B4, rfl, r4, hb4⟩; replace hS := bstep hS hb4
      refine hK _ _ (hS) ?_; clear hK K; try simp only [nrm]
      refine WpT.on 3 rfl (fun K hK => ?_)
      go_simp; refine (HMK.out _ _ (bstep hb0 hS) r4).mono ?_; rintro e w5 ⟨rfl, hb5⟩; replace hS := bstep hS hb5
      refine hK _ _ (hS) ?_; clear hK K; try simp only [nrm]
      refine WpT.takeP (i := 4) rfl (by kernel_rfl) (fun _ _ _ h => h) (.inl ⟨by rfl, fun w hSw => by clear hSw; go_simp; (try go_bits); (try rw [if_pos (by omega)]); (try with_reducible rfl)⟩) (hS) ?_
      try simp only [nrm]
      refine WpT.ta 5 rfl (fun K hK => ?_)
      refine wp_putAt (vs := bv (dg SG)) rfl (by rfl) (by rfl) (b10.below hS) (by rw [bv_dg_len, hsh]; omega) (by rw [sizeSe, bv_dg_len]) (one_bvL _) (hd_setSig _ _) ?_; intro w9 ht9 b9
      refine hK _ _ ?_; clear hK K; try simp only [nrm]
      refine WpT.done (by kernel_rfl) ?_ _
      skip
      have HB9 : Hid (Below wa.heap.size wa w9) := Lib.hid ((bstep HB4.out hS).trans (ht9.below _ HG10.out.1))
      have hb9 : Below w.heap.size w w9 := hb0.trans ((hS.mono hb0.size).trans (ht9.below _ (by have := HG10.out; have := HBW.out.size; have := hb0.size; have := HB4.out.size; have := HLT.out; omega)))
      clear hS ht9 b10 hck2 hch r4 hb4 hb5 HPT HMK HDY
      have H9 := Lib.hid b9
      have zr := lg_row (HQ0.out _ HB9.out)
      have HLTg : Hid (g10 < w9.heap.size ∧ w.heap.size + 1 + 1 + 1 < w9.heap.size) := Lib.hid ⟨b9.lt, by have := HLT.out; have := HB9.out.size; omega⟩
      obtain ⟨NH, hNH⟩ : ∃ x : Hd, x = ⟨r.o, (r.en : Int), LD, RT, k.serial, SG⟩ := ⟨_, rfl⟩
      have HLh : Hid (HdLt NH) := Lib.hid (by rw [hNH]; exact ⟨htl, hsgl⟩)
      rw [← hNH] at HX
      have HCH := Lib.hid (fun A W (hbW : Below w9.heap.size w9 W) (hfn : Rd W A 1 [.func (.func 77) #[] #[.pointer (some ⟨g10, 0, none⟩)]]) =>
        changed1_any 77 g10 r A W (SePost r NH) hfn ent_se
          (fun W2 g hb2 hgB hblk => seClo_any r NH g g10 W2 hblk (by rw [hNH]; exact H9.out.below (bstep hbW hb2)) (HOK.out _ (bstep hb9 (bstep hbW hb2))).hd.rd hhn)
          (fun r' B W g W' hp hgB ht => hp.turned hgB ht))
      have hch9 : ∀ W, Tk (w.heap.size + 1 + 1) w9 W → ∀ j u, (hdL NH)[j]? = some u → W.cell? ((⟨g10, 0, none⟩ : Addr).add j) = some u := fun W hW => blk_row (xs := hdL NH) (hW.blk (by rw [hNH]; exact H9.out) (by have := HG10.out; have := HLT.out; omega))
      have hlg9 : ∀ W, Tk (w.heap.size + 1 + 1) w9 W → ∀ j u, (lgL r)[j]? = some u → W.cell? ((⟨w.heap.size, 0, none⟩ : Addr).add j) = some u := fun W hW => lg_row (hW.blk (HQ0.out _ HB9.out) (by omega))
      have hmf : ∀ (fn : Fn) (first cap : Array Value) (w : World), (Instr.makeFunc fn first cap).run Tryz.prog w = .ok (.func fn first cap) w := fun _ _ _ _ => rfl
      have h36n := h36 NH
      clear b9 zr hNH htl hsgl
      go_upto_region 7 with fail
      have hS : Below w9.heap.size w9 w9.drew := (Below.refl _ _).drew
      have b2 := HQ2.out _ HB9.out
      have b3 := HQ3.out _ HB9.out
      refine wp_region_TS (S := (Tk (w.heap.size + 1 + 1) w9)) 6 (by kernel_rfl) ?_
      refine WpT.tl 0 rfl (yields_loadKQ (us := lgL r) rfl rfl rfl aggLg (by rw [sizeLg, h5]) hlg9) (Tk.of hS) ?_
      try simp only [nrm]
      refine WpT.tk 1 (Tk.of hS) ?_
      try simp only [nrm]
      refine WpT.tl 4 rfl (yields_loadKQ (us := hdL NH) rfl rfl rfl aggHd (by rw [sizeHd, h36n]) hch9) (Tk.of hS) ?_
      try simp only [nrm]
      refine WpT.on 2 rfl (fun K hK => ?_)
      refine wp_lit1F rfl (by rfl) (build1_fn1 g10) ?_; intro w2 gf rf hb2; replace hS := bstep hS hb2
      refine hK _ _ (Tk.of hS) ?_; clear hK K; try simp only [nrm]
      refine WpT.on 3 rfl (fun K hK => ?_)
      go_simp; refine (HCH.out _ _ hS rf).mono ?_; rintro e w4 ⟨r', B, rfl, hB, hpost, hb4⟩; obtain ⟨A9, c9, rfl, o9, n9, m9⟩ := hpost; have hB9 : w9.heap.size ≤ B := (by have := hS.size; omega); replace hS := bstep hS hb4
      refine hK _ _ (Tk.of hS) ?_; clear hK K; try simp only [nrm]
      refine WpT.on 5 rfl (fun K hK => ?_)
      refine wp_put (vs := lgC { r with hA := A9, hn := r.hn + 1, hc := c9, hs := r.hs ++ [NH] }) rfl (by rfl) (by rfl) (b2.below hS) (by rw [hsz, hsz]) (by rw [sizeLg, hsz]) (one_lgC _) ?_; intro w12 ht12 b12; have b3' := ht12.blk (b3.below hS) (by omega)
      refine hK _ _ (Tk.turn hS ht12) ?_; clear hK K; try simp only [nrm]
      refine WpT.ta 6 rfl (fun K hK => ?_)
      refine wp_put (vs := hdC NH) rfl (by rfl) (by rfl) b3' (by rw [hsh, hsh]) (by rw [sizeHd, hsh]) (one_hdC _) ?_; intro w13 ht13 b13
      refine hK _ _ ?_; clear hK K; try simp only [nrm]
      refine WpT.ta 7 rfl (fun K hK => ?_)
      go_simp; (try go_bits)
      refine hK _ _ ?_; clear hK K; try simp only [nrm]
      refine WpT.done (by kernel_rfl) ?_ _
      skip
      go_wp2_with fail
      have hbF : Below w.heap.size w w13 := ((bstep hb9 hS).trans (ht12.below _ (by omega))).trans (ht13.below _ (by omega))
      have hne : ∀ g, g < w9.heap.size → (Value.slice A9 (r.hn + 1) c9).ownBlock ≠ some g := fun g hg e => by have := (World.ownsRow.lt o9 _ e).1; omega
      have hO9 := ht13.own (ht12.own o9 (hne _ (by have := HLTg.out; omega))) (hne _ (by have := HLTg.out; omega))
      refine ret_cc2 rfl rfl rfl rfl (ht13.blk b12 (by omega)) b13 aggLg (by rw [sizeLg, hsz]) aggHd (by rw [sizeHd, hsh]) ?_
      rw [HX.out]
      refine ⟨_, rfl, lg_ofSe r NH A9 (r.hn + 1) c9, ?_, HLh.out, hbF, fun g hg ha => ⟨ha.ev, ha.tp, by
        rcases hg with hg | hg
        · exact own_away hO9 (by have := HLTg.out; have := hb9.size; omega)
        · exact (own_under hO9).away hg, ha.es⟩⟩
      have hk := HOK.out _ hbF
      exact ⟨hk.ev, hk.ec, hk.em, hk.tp, hk.tc, hk.tm, hk.tl, ⟨by simp [hel.out], by rw [List.flatMap_append]; simpa using own_rdK hO9⟩, n9, m9, fun x hx => by
        rcases List.mem_append.1 hx with hx | hx
        · exact hk.hl x hx
        · rw [List.mem_singleton.1 hx]; exact HLh.out⟩
end Go.Proofs.YtcapckngikekpaaGreatDoor
namespace Go.Proofs.YtcapckngikekpaaGreatDoor
set_option linter.unusedSimpArgs false
set_option linter.unusedVariables false
open Go.RowKit Exch Merk Ring
set_option maxRecDepth 20000 in
set_option maxHeartbeats 1000000 in
theorem equalDs_any (a b : List Nat) (A : Option Addr) (n c : Nat) (B : Option Addr) (m d : Nat) (w : World) (ha : RdD w A n a) (hb : RdD w B m b) (hn : n ≤ 1000000) (hm : m ≤ 1000000) (wa : ∀ x ∈ a, x < 2 ^ 128) (wb : ∀ x ∈ b, x < 2 ^ 128) :
    Calls Tryz.prog 69 #[.slice A n c, .slice B m d] w fun e w' => e = .returned (.bool (decide (a = b))) ∧ Below w.heap.size w w' := by
  have HA := Lib.hid ha
  have HB := Lib.hid hb
  have HLA := Lib.hid ha.len
  have HLB := Lib.hid hb.len
  have WA := Lib.hid wa
  have WB := Lib.hid wb
  clear wa wb
  by_cases hnm : n = m
  · subst hnm
    have HX := Lib.hid (fun (h : ∀ j (hj : j < a.length) (hj2 : j < b.length), a[j] = b[j]) => (show decide (a = b) = true by
      rw [decide_eq_true_eq]; exact List.ext_getElem (by rw [ha.len, hb.len]) (fun i h1 h2 => h i h1 h2)))
    have HY := Lib.hid (fun k (h1 : k < a.length) (h2 : k < b.length) (h : a[k] ≠ b[k]) => drop_ne h1 h2 h)
    generalize decide (a = b) = V at *
    clear ha hb
    have dn : ((n : Int) != n) = false := by simp
    go_enter Tryz.func69, Tryz.ntmps69
    go_wp2_with fail
    go_loopw [13] (fun vk wr => ∃ k : Nat, k ≤ n ∧ vk = .int .i64 k ∧ Below w.heap.size w wr ∧ Hid (∀ j (hj : j < a.length) (hj2 : j < b.length), j < k → a[j] = b[j])) (fun vk _ => n - (intOf vk).toNat)
    case atStart => exact ⟨0, Nat.zero_le _, rfl, Below.refl _ _, Lib.hid (fun j hj hj2 h => by omega)⟩
    case round =>
      obtain ⟨k, hk, rfl, hbw, HV⟩ := hrel
      by_cases hlt : k < n
      · have hka : k < a.length := by have := HLA.out; omega
        have hkb : k < b.length := by have := HLB.out; omega
        obtain ⟨ad, rfl, hca⟩ := (HA.out.below hbw).elem hka
        obtain ⟨bd, rfl, hcb⟩ := (HB.out.below hbw).elem hkb
        have hne := neq_Dg (WA.out _ (List.getElem_mem hka)) (WB.out _ (List.getElem_mem hkb))
        have HN : Hid (a[k] = b[k] → ∀ j (hj : j < a.length) (hj2 : j < b.length), j < k + 1 → a[j] = b[j]) := Lib.hid (fun h j hj hj2 hjk => by
          by_cases e : j = k
          · subst e; exact h
          · exact HV.out j hj hj2 (by omega))
        have HM := Lib.hid (HY.out k hka hkb)
        generalize a[k] = x at *
        generalize b[k] = y at *
        go_upto_region 6 with fail
        by_cases hxy : x = y
        · have dx : decide (x = y) = true := by simpa using hxy
          rw [dx] at hne
          have HN2 := Lib.hid (HN.out hxy)
          clear HN HM HV dx hxy
          refine wp_region_T 9 (by kernel_rfl) ?_
          refine WpT.tk 0 ((Below.refl _ _).drew) ?_
          try simp only [nrm]
          refine WpT.tk 1 ((Below.refl _ _).drew) ?_
          try simp only [nrm]
          refine WpT.tk 2 ((Below.refl _ _).drew) ?_
          try simp only [nrm]
          refine WpT.tl 3 rfl (yields_loadK (us := bv (dg x)) rfl rfl rfl aggDg (by rw [sizeDg, bv_dg_len]) hca) ((Below.refl _ _).drew) ?_
          try simp only [nrm]
          refine WpT.tk 4 ((Below.refl _ _).drew) ?_
          try simp only [nrm]
          refine WpT.tk 5 ((Below.refl _ _).drew) ?_
          try simp only [nrm]
          refine WpT.tk 6 ((Below.refl _ _).drew) ?_
          try simp only [nrm]
          refine WpT.tl 7 rfl (yields_loadK (us := bv (dg y)) rfl rfl rfl aggDg (by rw [sizeDg, bv_dg_len]) hcb) ((Below.refl _ _).drew) ?_
          try simp only [nrm]
          refine WpT.tk 8 ((Below.refl _ _).drew) ?_
          try simp only [nrm]
          refine WpT.done (by kernel_rfl) ?_ _
          go_wp2_with fail
          exact ⟨⟨k + 1, by omega, by go_num, hbw.drew, HN2⟩, by simp [intOf]; omega⟩
        · have dx : decide (x = y) = false := by simpa using hxy
          rw [dx] at hne
          have hV := HM.out hxy
          subst hV
          clear HN HM HV dx hxy HX HY
          refine wp_region_T 9 (by kernel_rfl) ?_
          refine WpT.tk 0 ((Below.refl _ _).drew) ?_
          try simp only [nrm]
          refine WpT.tk 1 ((Below.refl _ _).drew) ?_
          try simp only [nrm]
          refine WpT.tk 2 ((Below.refl _ _).drew) ?_
          try simp only [nrm]
          refine WpT.tl 3 rfl (yields_loadK (us := bv (dg x)) rfl rfl rfl aggDg (by rw [sizeDg, bv_dg_len]) hca) ((Below.refl _ _).drew) ?_
          try simp only [nrm]
          refine WpT.tk 4 ((Below.refl _ _).drew) ?_
          try simp only [nrm]
          refine WpT.tk 5 ((Below.refl _ _).drew) ?_
          try simp only [nrm]
          refine WpT.tk 6 ((Below.refl _ _).drew) ?_
          try simp only [nrm]
          refine WpT.tl 7 rfl (yields_loadK (us := bv (dg y)) rfl rfl rfl aggDg (by rw [sizeDg, bv_dg_len]) hcb) ((Below.refl _ _).drew) ?_
          try simp only [nrm]
          refine WpT.tk 8 ((Below.refl _ _).drew) ?_
          try simp only [nrm]
          refine WpT.done (by kernel_rfl) ?_ _
          go_wp2_with fail
          go_ret
          exact ⟨rfl, hbw.drew⟩
      · obtain rfl : k = n := by omega
        have hV : V = true := HX.out (fun j hj hj2 => HV.out j hj hj2 (by have := HLA.out; omega))
        subst hV
        clear HX HY HV
        go_wp2_with fail
        go_ret
        exact ⟨rfl, hbw⟩
  · have hV : decide (a = b) = false := by
      rw [decide_eq_false_iff_not]
      intro e
      subst e
      exact hnm (ha.len.symm.trans hb.len)
    rw [hV]
    have dn : ((n : Int) != m) = true := by simp; omega
    clear ha hb hV
    go_enter Tryz.func69, Tryz.ntmps69
    go_wp2_with fail
    go_ret
    exact ⟨rfl, Below.refl _ _⟩
theorem yields_takeS {P : Program} {ops : Array Oper} {S : World → Prop} {o : Oper} {a : Act} (hw : Region.wanted o (yielded ops a.tmps) = true) {t : TypeId} {x y : Operand} (ho : o.op = .slice t x none (some y) none) (hu : P.underlying t = some (.slice (P.elem t))) {s : Nat} (hs : (P.info? (P.elem t)).map (·.size) = some s)
    {A : Option Addr} {m c k : Nat} (hx : a.eval x = .slice A m c) (hy : a.eval y = .int .i64 (k : Int)) (hk : k ≤ c) : YieldsIf P ops S o (.slice A k c) a := by
  refine .inl ⟨hw, fun w hS => ?_⟩
  have hr : (Instr.sliceAt t (.slice A m c) none (some (.int .i64 (k : Int))) none).run P w = .ok (.slice A k c) w := by
    rw [run_sliceAt_slice w _ _ _ _ _ hu, run_slice_h w _ A m c hu .i64 (k : Int) (by omega) (by omega), sizeOf_run hs]
    have hA : (if c = 0 then A else A.map (·.add (0 * s))) = A := by
      split
      · rfl
      · cases A with
        | none => rfl
        | some ad => simp [Addr.add]
    show Result.ok (sliced A 0 (Int.toNat (k : Int)) c s) w = _
    unfold sliced
    rw [hA, Int.toNat_natCast, Nat.sub_zero, Nat.sub_zero]
  unfold execOp
  simp only [ho, hx, hy, Option.map_some, Option.map_none, hr, Sem.run_bind, Result.andThen_ok, Sem.run_pure]
theorem peaks_lt {nd : Nat → Nat → Nat} {em : Nat} (N : Nds nd em) : ∀ (k : Nat) (l : List Nat), l.length ≤ k → (∀ x ∈ l, x < 2 ^ 128) → ∀ x ∈ peaks nd em l, x < 2 ^ 128
  | 0, l, h, _ => by obtain rfl := List.eq_nil_of_length_eq_zero (Nat.le_zero.1 h); rw [peaks_nil]; intro x hx; simp at hx
  | k + 1, l, h, hl => by
    by_cases h0 : l = []
    · subst h0; rw [peaks_nil]; intro x hx; simp at hx
    · rw [peaks_cons nd em h0]
      have hb := big_pos l.length
      have hp := pos_len h0
      intro x hx
      rcases List.mem_cons.1 hx with rfl | hx
      · exact root_lt N _ _ (Nat.le_refl _) (fun y hy => hl y (List.mem_of_mem_take hy))
      · exact peaks_lt N k _ (by rw [List.length_drop]; omega) (fun y hy => hl y (List.mem_of_mem_drop hy)) x hx
theorem RdEs.take {W : World} {A : Option Addr} {n : Nat} {l : List EvR} (h : RdEs W A n l) {k : Nat} (hk : k ≤ n) : RdEs W A k (l.take k) := by
  have hl := h.len
  refine ⟨by rw [List.length_take]; omega, ?_, fun r hr => h.ok r (List.mem_of_mem_take hr)⟩
  have := h.rd.take (k := k * 25) (Nat.mul_le_mul_right 25 hk)
  rw [fl_take evL_len l k (by omega)] at this
  exact this
theorem evsOf_take (l : List EvR) (k : Nat) : evsOf (l.take k) = (evsOf l).take k := by simp [evsOf, List.map_take]
theorem lastDay_take (l : List EvR) (k : Nat) (hk : k ≤ l.length) : lastDay (evsOf (l.take k)) = dayAt (evsOf l) k := by
  unfold lastDay dayAt
  rw [evsOf_len, List.length_take, Nat.min_eq_left hk]
  by_cases h : k = 0
  · subst h; rfl
  · rw [if_neg h, if_neg h, evsOf_take, List.getElem?_take, if_pos (by omega)]
theorem okGo_step (l : List EvR) (k : Nat) (hk : k < l.length) : okGo k (dayAt (evsOf l) k) ((evsOf l).drop k) = (if follows (evsOf (l.take k)) l[k].e = 0 then okGo (k + 1) (dayAt (evsOf l) (k + 1)) ((evsOf l).drop (k + 1)) else false) := by
  have h1 : (evsOf l).drop k = l[k].e :: (evsOf l).drop (k + 1) := by
    rw [List.drop_eq_getElem_cons (by rw [evsOf_len]; exact hk)]
    simp [evsOf]
  rw [h1, okGo]
  unfold follows
  rw [evsOf_len, List.length_take, Nat.min_eq_left (by omega), lastDay_take l k (by omega), dayAt_evs l k hk]
theorem okGo_end (l : List EvR) : okGo l.length (dayAt (evsOf l) l.length) ((evsOf l).drop l.length) = true := by
  rw [List.drop_of_length_le (by rw [evsOf_len]; exact Nat.le_refl _)]; rfl
theorem headsGo_step (H : He) (o : Int) (ev : List Ev) (la : Int) (l : List Hd) (k : Nat) (hk : k < l.length) : headsGo H o ev la (l.drop k) = (if l[k].office = o ∧ la ≤ l[k].commit ∧ l[k].commit ≤ ev.length ∧ l[k].day = dayAt ev l[k].commit.toNat ∧ root H.nd H.em ((leavesOf H ev).take l[k].commit.toNat) = l[k].root then headsGo H o ev l[k].commit (l.drop (k + 1)) else false) := by
  rw [List.drop_eq_getElem_cons hk, headsGo]
end Go.Proofs.YtcapckngikekpaaGreatDoor
namespace Go.Proofs.YtcapckngikekpaaGreatDoor
set_option linter.unusedSimpArgs false
set_option linter.unusedVariables false
open Go.RowKit Exch Merk Ring
theorem yields_neqDg {ops : Array Oper} {S : World → Prop} {o : Oper} {a : Act} {x y : Operand} {p q : Nat} {u : TypeId} {b : Bool} (hw : Region.wanted o (yielded ops a.tmps) = true) (ho : o.op = .binOp .neq 25 x y u) (hx : a.eval x = dgV p) (hy : a.eval y = dgV q) (hp : p < 2 ^ 128) (hq : q < 2 ^ 128) (hb : (!decide (p = q)) = b)
    (hg : ∀ W, (eqGuard .neq 25 x y (dgV p) (dgV q)).run Tryz.prog W = .ok () W) : YieldsIf Tryz.prog ops S o (.bool b) a := by
  refine .inl ⟨hw, fun w hS => ?_⟩
  unfold execOp
  simp only [ho, hx, hy, Sem.run_bind, hg, neq_Dg hp hq, Result.andThen_ok, Sem.run_pure, hb]
set_option maxRecDepth 100000 in
set_option maxHeartbeats 16000000 in
theorem validF_any {H : He} (L : Les H) (r : LgR) (w : World) (h : LgOk w r) (hn : r.en ≤ 1000000) (hhn : r.hn ≤ 1000000) (htn : r.tn ≤ 1000) (hf : EvFine r.es) (hg : GCon w) (hgb : GBru w) :
    Calls Tryz.prog 22 #[lgV r] w (BIs (validG H (lgOf r)) w) := by
  obtain ⟨wa, hwa, hb0, q0⟩ := lgBox w r
  have HWA := Lib.hid hwa
  have HQ0 := Lib.hid (fun W (h : Below wa.heap.size wa W) => q0.below h)
  have HOF := Lib.hid (fun W => office_any r.o W)
  have HEL := Lib.hid h.ev.len
  have HHL := Lib.hid h.hd.len
  have HTL := Lib.hid h.tp.len
  have HE := Lib.hid (fun j (hj : j < r.es.length) W (hb : Below w.heap.size w W) => (h.ev.below hb).elem hj)
  have HHE := Lib.hid (fun j (hj : j < r.hs.length) W (hb : Below w.heap.size w W) => (h.hd.below hb).elem hj)
  have HFO := Lib.hid (fun j (hj : j < r.es.length) W (hb : Below w.heap.size w W) => follows_any (r.es.take j) r.eA j r.ec r.es[j] W ((h.ev.below hb).take (by have := h.ev.len; omega)) (by have := h.ev.len; omega))
  have HLV := Lib.hid (fun W (hb : Below w.heap.size w W) => leaves_any L r r.en W (h.below hb) (Nat.le_refl _) hn hf (hg.below hb))
  have HDY := Lib.hid (fun k (hk : k ≤ r.en) W (hb : Below w.heap.size w W) => day_any r k W (h.below hb) hk hn)
  have HRT := Lib.hid (fun l A n c W (hn' : n ≤ 1000000) (hr : RdD W A n l) (hnc : n ≤ c) (hcm : c ≤ maxLen) (hb : Below w.heap.size w W) => root_any L.nds n l A n c W (Nat.le_refl _) hn' hr hnc hcm (hg.below hb))
  have HRLt := Lib.hid (fun l (hl : ∀ x ∈ l, x < 2 ^ 128) => root_lt L.nds _ l (Nat.le_refl _) hl)
  have HLL := Lib.hid (leaves_lt L (evsOf r.es))
  have HHD := Lib.hid h.hl
  have HAP := Lib.hid (fun s x A m c tl W (h : Below w.heap.size w W) (hm : m ≤ 1000) hq h1 h2 => append_any L.nds s x A m c tl W hm hq h1 h2 (hg.below h) (hgb.below h))
  have HP := Lib.hid (fun l' x (h : l'.length < 1099511627776) => appendN_peaks H.nd H.em l' x h)
  have HPF := Lib.hid (fun l' (h : l'.length < 1099511627776) => (peaksN_form H.nd H.em l' h).1)
  have HPL := Lib.hid (fun l hl => peaks_lt L.nds _ l (Nat.le_refl _) hl)
  have HEQ := Lib.hid (fun a A n c W (hb : Below w.heap.size w W) (ha : RdD W A n a) (hn' : n ≤ 1000000) (hl : ∀ x ∈ a, x < 2 ^ 128) => equalDs_any a r.ts A n c r.tA r.tn r.tc W ha (h.below hb).tp hn' (by omega) hl h.tl)
  have HK1 := Lib.hid (fun k (hk : k < r.es.length) => okGo_step r.es k hk)
  have HK2 := Lib.hid (okGo_end r.es)
  have HKH := Lib.hid (fun la k (hk : k < r.hs.length) => headsGo_step H r.o (evsOf r.es) la r.hs k hk)
  have HV : Hid (validG H (lgOf r) = (decide (0 ≤ r.o ∧ r.o < 32 ∧ (evsOf r.es).length ≤ 65536) && (okGo 0 0 (evsOf r.es) && (headsGo H r.o (evsOf r.es) 0 r.hs && (decide (r.s = ((evsOf r.es).length : Int)) && decide (peaks H.nd H.em (leavesOf H (evsOf r.es)) = r.ts)))))) := Lib.hid rfl
  have HLN := Lib.hid (leavesOf_len H (evsOf r.es))
  have HTK : Hid ((evsOf r.es).take r.en = evsOf r.es) := Lib.hid (List.take_of_length_le (by rw [evsOf_len, h.ev.len]; exact Nat.le_refl _))
  have HEN : Hid (∀ k, k ≤ r.en → k ≤ r.ec) := Lib.hid (fun k hk => by have := h.ec; omega)
  have hec := h.ec
  have h5 := lgL_len r
  have h36 := hdL_len
  have h25 := evL_len
  have c0 := lg_c0 q0
  have c1 := lg_c1 q0
  have HLE : Hid ((evsOf r.es).length = r.en) := Lib.hid (by rw [evsOf_len, h.ev.len])
  rw [HLE.out] at HV
  clear hwa q0 h hf hg hgb L
  generalize validG H (lgOf r) = X at *
  unfold BIs
  by_cases hoff : 0 ≤ r.o ∧ r.o < 32
  rotate_left
  · have dof : decide (0 ≤ r.o ∧ r.o < 32) = false := by rw [decide_eq_false_iff_not]; exact hoff
    have hX : X = false := by
      rw [HV.out, show decide (0 ≤ r.o ∧ r.o < 32 ∧ r.en ≤ 65536) = false by rw [decide_eq_false_iff_not]; intro h; exact hoff ⟨h.1, h.2.1⟩]; rfl
    subst hX
    rw [dof] at HOF
    clear HV HFO HLV HDY HRT HRLt HAP HP HPF HPL HEQ HK1 HK2 HKH HE HHE hoff
    go_enter Tryz.func22, Tryz.ntmps22
    go_upto_region 1 with fail
    change Code.wp _ _ _ _ (w.alloc (.cells (lgC r) 42))
    rw [← HWA.out]
    go_wp2_with fail
    refine (HOF.out _).mono ?_
    rintro e w1 ⟨rfl, hw1⟩
    subst hw1
    go_wp2_with fail
    go_ret
    exact ⟨rfl, hb0⟩
  have dof : decide (0 ≤ r.o ∧ r.o < 32) = true := by rw [decide_eq_true_eq]; exact hoff
  rw [dof] at HOF
  by_cases hbig : r.en ≤ 65536
  rotate_left
  · have hX : X = false := by
      rw [HV.out, show decide (0 ≤ r.o ∧ r.o < 32 ∧ r.en ≤ 65536) = false by rw [decide_eq_false_iff_not]; intro h; exact hbig h.2.2]; rfl
    subst hX
    have dn : decide ((65536 : Int) < (r.en : Int)) = true := by rw [decide_eq_true_eq]; omega
    have dn2 : decide (65536 < r.en) = true := by rw [decide_eq_true_eq]; omega
    have HN : Hid (r.en ≤ 1000000) := Lib.hid hn
    clear HV HFO HLV HDY HRT HRLt HAP HP HPF HPL HEQ HK1 HK2 HKH HE HHE hoff hbig hn dof hec
    obtain ⟨N, hN⟩ : ∃ N, r.en = N := ⟨_, rfl⟩
    rw [hN] at c1 dn dn2
    clear hN
    go_enter Tryz.func22, Tryz.ntmps22
    go_upto_region 1 with fail
    change Code.wp _ _ _ _ (w.alloc (.cells (lgC r) 42))
    rw [← HWA.out]
    go_wp2_with fail
    refine (HOF.out _).mono ?_
    rintro e w1 ⟨rfl, hw1⟩
    subst hw1
    go_wp2_with fail
    go_ret
    exact ⟨rfl, hb0⟩
  have HX : Hid (X = (okGo 0 0 (evsOf r.es) && (headsGo H r.o (evsOf r.es) 0 r.hs && (decide (r.s = (r.en : Int)) && decide (peaks H.nd H.em (leavesOf H (evsOf r.es)) = r.ts))))) := Lib.hid (by
    rw [HV.out, show decide (0 ≤ r.o ∧ r.o < 32 ∧ r.en ≤ 65536) = true by rw [decide_eq_true_eq]; exact ⟨hoff.1, hoff.2, hbig⟩, Bool.true_and])
  have dn : decide ((65536 : Int) < (r.en : Int)) = false := by rw [decide_eq_false_iff_not]; omega
  have dn2 : decide (65536 < r.en) = false := by rw [decide_eq_false_iff_not]; omega
  clear HV hoff dof
  obtain ⟨N, hN⟩ : ∃ N, r.en = N := ⟨_, rfl⟩
  rw [hN] at c1 dn dn2 hn hec hbig HX HLE HEL HLV HDY HTK HEN
  have HNN := Lib.hid hN
  obtain ⟨EA, hEA⟩ : ∃ x, r.eA = x := ⟨_, rfl⟩
  rw [hEA] at c1 HE HFO
  have HEA := Lib.hid hEA
  obtain ⟨HA, hHA⟩ : ∃ x, r.hA = x := ⟨_, rfl⟩
  rw [hHA] at HHE
  have HHA := Lib.hid hHA
  clear hN hEA hHA
  go_enter Tryz.func22, Tryz.ntmps22
  go_upto_region 1 with fail
  change Code.wp _ _ _ _ (w.alloc (.cells (lgC r) 42))
  rw [← HWA.out]
  go_wp2_with fail
  refine (HOF.out _).mono ?_
  rintro e w1 ⟨rfl, hw1⟩
  subst hw1
  go_wp2_with fail
  clear HOF dn dn2
  go_loopw [25] (fun v25 wr => ∃ k : Nat, v25 = .int .i64 (k : Int) ∧ k ≤ N ∧ Below w1.heap.size w1 wr ∧ Hid (okGo 0 0 (evsOf r.es) = okGo k (dayAt (evsOf r.es) k) ((evsOf r.es).drop k))) (fun v25 _ => N - (intOf v25).toNat)
  case atStart => exact ⟨0, rfl, by omega, Below.refl _ _, Lib.hid rfl⟩
  case round =>
    obtain ⟨k, rfl, hk, hbw, HG⟩ := hrel
    by_cases hlt : k < N
    · have hke : k < r.es.length := by rw [HEL.out]; exact hlt
      have dj : decide ((k : Int) < (N : Int)) = true := by rw [decide_eq_true_eq]; omega
      obtain ⟨ad, rfl, hce⟩ := HE.out k hke wr (bstep hb0 hbw)
      have HFk := Lib.hid (HFO.out k hke)
      have HSk := Lib.hid (HK1.out k hke)
      have hkc : k ≤ r.ec := by omega
      generalize r.es[k] = ev at *
      generalize follows (evsOf (r.es.take k)) ev.e = FK at *
      have y1 := lg_c1 (HQ0.out _ hbw)
      rw [HNN.out, HEA.out] at y1
      have h25v := h25 ev
      clear HFO HLV HDY HRT HRLt HAP HP HPF HPL HEQ HK1 HKH HHE HE hke
      go_upto_region 6 with (first
        | ((with_reducible show wpList _ _ _ (⟨some 29, _, _, _, _, _⟩ :: _) _ _); refine wpList_loadK (us := evL ev) rfl rfl rfl aggEv (by rw [sizeEv, h25v]) hce ?_)
        | ((with_reducible show wpList _ _ _ (⟨some 4, _, _, _, _, _⟩ :: _) _ _); refine wpList_new rfl rfl zeroEv_v ?_; intro w3 g3 hg3 b3 hb3 lt3; have hg3' : wr.heap.size ≤ g3 := (by omega); clear hg3 lt3)
        | ((with_reducible show wpList _ _ _ (⟨none, _, _, _, _, _⟩ :: _) _ _); refine wpList_put (vs := evC ev) rfl rfl rfl rfl b3 (by rw [evC_size, evC_size]) (by rw [sizeEv, evC_size]) (one_evC _) ?_; intro w4 ht4 b4))
      have hb4 : Below wr.heap.size wr w4 := hb3.trans (ht4.below _ hg3')
      have hc4 := blk_row (xs := evL ev) b4
      replace y1 := cell_later hb4 y1
      replace hbw := bstep hbw hb4
      clear b3 hb3 ht4 b4 hg3' hce hb4
      have hS : Below w4.heap.size w4 w4.drew := (Below.refl _ _).drew
      rcases zero_tests FK with ⟨zf, e1, f1, d1⟩ | ⟨zf, e1, f1, d1⟩
      · have HG2 : Hid (okGo 0 0 (evsOf r.es) = okGo (k + 1) (dayAt (evsOf r.es) (k + 1)) ((evsOf r.es).drop (k + 1))) := Lib.hid (by rw [HG.out, HSk.out, if_pos zf])
        clear HG HSk zf HX
        refine wp_region_T 7 (by kernel_rfl) ?_
        refine WpT.tk 0 (hS) ?_
        try simp only [nrm]
        refine WpT.tl 1 rfl (yields_load rfl rfl rfl (by kernel_rfl) y1) (hS) ?_
        try simp only [nrm]
        refine WpT.tk 2 (hS) ?_
        try simp only [nrm]
        refine WpT.tl 3 rfl (yields_takeS (s := 25) (by rfl) rfl (by kernel_rfl) (by kernel_rfl) (by rfl) (by rfl) hkc) (hS) ?_
        try simp only [nrm]
        refine WpT.tl 4 rfl (yields_loadK (us := evL ev) rfl rfl rfl aggEv (by rw [sizeEv, h25v]) hc4) (hS) ?_
        try simp only [nrm]
        refine WpT.on 5 rfl (fun K hK => ?_)
        go_simp; refine (HFk.out _ (bstep hb0 (bstep hbw hS))).mono ?_; rintro e w5 ⟨rfl, hb5⟩; replace hS := bstep hS hb5
        refine hK _ _ (hS) ?_; clear hK K; try simp only [nrm]
        refine WpT.tk 6 (hS) ?_
        try simp only [nrm]
        refine WpT.done (by kernel_rfl) ?_ _
        skip
        go_wp2_with fail
        exact ⟨⟨k + 1, by go_num, by omega, bstep hbw hS, HG2⟩, by simp [intOf]; omega⟩
      · have hX : X = false := by rw [HX.out, HG.out, HSk.out, if_neg zf, Bool.false_and]
        subst hX
        clear HG HSk zf HX
        refine wp_region_T 7 (by kernel_rfl) ?_
        refine WpT.tk 0 (hS) ?_
        try simp only [nrm]
        refine WpT.tl 1 rfl (yields_load rfl rfl rfl (by kernel_rfl) y1) (hS) ?_
        try simp only [nrm]
        refine WpT.tk 2 (hS) ?_
        try simp only [nrm]
        refine WpT.tl 3 rfl (yields_takeS (s := 25) (by rfl) rfl (by kernel_rfl) (by kernel_rfl) (by rfl) (by rfl) hkc) (hS) ?_
        try simp only [nrm]
        refine WpT.tl 4 rfl (yields_loadK (us := evL ev) rfl rfl rfl aggEv (by rw [sizeEv, h25v]) hc4) (hS) ?_
        try simp only [nrm]
        refine WpT.on 5 rfl (fun K hK => ?_)
        go_simp; refine (HFk.out _ (bstep hb0 (bstep hbw hS))).mono ?_; rintro e w5 ⟨rfl, hb5⟩; replace hS := bstep hS hb5
        refine hK _ _ (hS) ?_; clear hK K; try simp only [nrm]
        refine WpT.tk 6 (hS) ?_
        try simp only [nrm]
        refine WpT.done (by kernel_rfl) ?_ _
        skip
        go_wp2_with fail
        go_ret
        exact ⟨rfl, bstep hb0 (bstep hbw hS)⟩
    · obtain rfl : k = N := by omega
      have HX2 : Hid (X = (headsGo H r.o (evsOf r.es) 0 r.hs && (decide (r.s = (k : Int)) && decide (peaks H.nd H.em (leavesOf H (evsOf r.es)) = r.ts)))) := Lib.hid (by
        have := HK2.out
        rw [HEL.out] at this
        rw [HX.out, HG.out, this, Bool.true_and])
      clear HX HG HK1 HK2 HFO HE
      have zr := lg_row (HQ0.out _ hbw)
      have z1 := lg_c1 (HQ0.out _ hbw)
      rw [HNN.out, HEA.out] at z1
      go_wp2_with ((with_reducible show wpList _ _ _ (⟨some 38, _, _, _, _, _⟩ :: _) _ _); refine wpList_loadK (us := lgL r) rfl rfl rfl aggLg (by rw [sizeLg, h5]) zr ?_)
      refine (HLV.out _ (bstep hb0 hbw)).mono ?_
      rintro e w2 ⟨v2, rfl, o2, hb2⟩
      rw [HTK.out] at o2
      obtain ⟨A5, c5, rfl, n5, m5, r5⟩ := OwnDs.formN o2 (HLN.out.trans HLE.out)
      replace hbw := bstep hbw hb2
      have y3 := lg_c3 (HQ0.out _ hbw)
      rw [HHA.out] at y3
      have HR5 := Lib.hid (fun W (hb : Below w2.heap.size w2 W) => r5.below hb)
      clear o2 r5 zr z1 hb2 HLV c0 c1
      go_wp2_with fail
      clear y3
      go_loopw [6, 46] (fun v6 v46 wr2 => ∃ (q : Nat) (la : Int), v6 = .int .i64 la ∧ v46 = .int .i64 (q : Int) ∧ q ≤ r.hn ∧ 0 ≤ la ∧ Hid (headsGo H r.o (evsOf r.es) 0 r.hs = headsGo H r.o (evsOf r.es) la (r.hs.drop q)) ∧ Below w2.heap.size w2 wr2) (fun _ v46 _ => r.hn - (intOf v46).toNat)
      case atStart => exact ⟨0, 0, rfl, rfl, by omega, by omega, Lib.hid rfl, Below.refl _ _⟩
      case round =>
        obtain ⟨q, la, rfl, rfl, hq, hla, HH, hbw2⟩ := hrel
        by_cases hlq : q < r.hn
        · have hqe : q < r.hs.length := by rw [HHL.out]; exact hlq
          have dj : decide ((q : Int) < (r.hn : Int)) = true := by rw [decide_eq_true_eq]; omega
          obtain ⟨hd_, rfl, hce⟩ := HHE.out q hqe wr (bstep hb0 (bstep hbw hbw2))
          have HSq := Lib.hid (HKH.out la q hqe)
          have hhl := HHD.out _ (List.getElem_mem hqe)
          generalize r.hs[q] = hd at *
          have h36h := h36 hd
          have HRL : Hid (root H.nd H.em ((leavesOf H (evsOf r.es)).take hd.commit.toNat) < 2 ^ 128 ∧ hd.root < 2 ^ 128) := Lib.hid ⟨HRLt.out _ (fun x hx => HLL.out x (List.mem_of_mem_take hx)), hhl.root⟩
          clear HHE hqe hhl HAP HP HPF HPL HEQ HKH HRLt
          go_upto_region 14 with (first
            | ((with_reducible show wpList _ _ _ (⟨some 49, _, _, _, _, _⟩ :: _) _ _); refine wpList_loadK (us := hdL hd) rfl rfl rfl aggHd (by rw [sizeHd, h36h]) hce ?_)
            | ((with_reducible show wpList _ _ _ (⟨some 8, _, _, _, _, _⟩ :: _) _ _); refine wpList_newRow (z := hdC zeroHd) (vs := hdC hd) rfl rfl rfl rfl (zeroHd_v _) (fun _ => rfl) (fun _ => rfl) (by rw [hdC_size, hdC_size]) (by rw [sizeHd, hdC_size]) (one_hdC _) ?_; intro w3 g3 hg3 b3 hb3 lt3; clear hg3 lt3))
          replace hbw2 := bstep hbw2 hb3
          have y0 := lg_c0 (HQ0.out _ (bstep hbw hbw2))
          have yr := lg_row (HQ0.out _ (bstep hbw hbw2))
          have z0 := hd_c0 b3
          have z1 := hd_c1 b3
          have z2 := hd_c2 b3
          have z3 := hd_r3 b3
          have HB3 := Lib.hid (fun W (hb : Below w3.heap.size w3 W) => hd_c1 (b3.below hb))
          have hb0' := bstep hb0 (bstep hbw hbw2)
          clear b3 hb3 hce
          have hb0w := hb0
          replace hb0 := hb0'
          clear hb0'
          have hS : Below w3.heap.size w3 w3.drew := (Below.refl _ _).drew
          rcases int_tests hd.office r.o with ⟨t1, e1, f1, d1⟩ | ⟨t1, e1, f1, d1⟩
          rotate_left
          · have hX : X = false := by rw [HX2.out, HH.out, HSq.out, if_neg (fun h => t1 h.1), Bool.false_and]
            subst hX
            clear HX2 HH HSq t1
            refine wp_region_T 37 (by kernel_rfl) ?_
            refine WpT.tk 0 (hS) ?_
            try simp only [nrm]
            refine WpT.tl 1 rfl (yields_load rfl rfl rfl (by kernel_rfl) z0) (hS) ?_
            try simp only [nrm]
            refine WpT.tk 2 (hS) ?_
            try simp only [nrm]
            refine WpT.tl 3 rfl (yields_load rfl rfl rfl (by kernel_rfl) y0) (hS) ?_
            try simp only [nrm]
            refine WpT.tk 4 (hS) ?_
            try simp only [nrm]
            refine WpT.tk 5 (hS) ?_
            try simp only [nrm]
            refine WpT.tl 6 rfl (.inr ⟨by rfl, rfl⟩) (hS) ?_
            try simp only [nrm]
            refine WpT.tl 7 rfl (.inr ⟨by rfl, rfl⟩) (hS) ?_
            try simp only [nrm]
            refine WpT.tl 8 rfl (.inr ⟨by rfl, rfl⟩) (hS) ?_
            try simp only [nrm]
            refine WpT.tl 9 rfl (.inr ⟨by rfl, rfl⟩) (hS) ?_
            try simp only [nrm]
            refine WpT.tk 10 (hS) ?_
            try simp only [nrm]
            refine WpT.tk 11 (hS) ?_
            try simp only [nrm]
            refine WpT.tl 12 rfl (.inr ⟨by rfl, rfl⟩) (hS) ?_
            try simp only [nrm]
            refine WpT.tl 13 rfl (.inr ⟨by rfl, rfl⟩) (hS) ?_
            try simp only [nrm]
            refine WpT.tl 14 rfl (.inr ⟨by rfl, rfl⟩) (hS) ?_
            try simp only [nrm]
            refine WpT.tl 15 rfl (.inr ⟨by rfl, rfl⟩) (hS) ?_
            try simp only [nrm]
            refine WpT.tl 16 rfl (.inr ⟨by rfl, rfl⟩) (hS) ?_
            try simp only [nrm]
            refine WpT.tk 17 (hS) ?_
            try simp only [nrm]
            refine WpT.tk 18 (hS) ?_
            try simp only [nrm]
            refine WpT.tl 19 rfl (.inr ⟨by rfl, rfl⟩) (hS) ?_
            try simp only [nrm]
            refine WpT.tl 20 rfl (.inr ⟨by rfl, rfl⟩) (hS) ?_
            try simp only [nrm]
            refine WpT.tl 21 rfl (.inr ⟨by rfl, rfl⟩) (hS) ?_
            try simp only [nrm]
            refine WpT.tl 22 rfl (.inr ⟨by rfl, rfl⟩) (hS) ?_
            try simp only [nrm]
            refine WpT.tl 23 rfl (.inr ⟨by rfl, rfl⟩) (hS) ?_
            try simp only [nrm]
            refine WpT.tl 24 rfl (.inr ⟨by rfl, rfl⟩) (hS) ?_
            try simp only [nrm]
            refine WpT.tl 25 rfl (.inr ⟨by rfl, rfl⟩) (hS) ?_
            try simp only [nrm]
            refine WpT.tk 26 (hS) ?_
            try simp only [nrm]
            refine WpT.tk 27 (hS) ?_
            try simp only [nrm]
            refine WpT.tl 28 rfl (.inr ⟨by rfl, rfl⟩) (hS) ?_
            try simp only [nrm]
            refine WpT.tl 29 rfl (.inr ⟨by rfl, rfl⟩) (hS) ?_
            try simp only [nrm]
            refine WpT.tl 30 rfl (.inr ⟨by rfl, rfl⟩) (hS) ?_
            try simp only [nrm]
            refine WpT.tl 31 rfl (.inr ⟨by rfl, rfl⟩) (hS) ?_
            try simp only [nrm]
            refine WpT.tl 32 rfl (.inr ⟨by rfl, rfl⟩) (hS) ?_
            try simp only [nrm]
            refine WpT.tl 33 rfl (.inr ⟨by rfl, rfl⟩) (hS) ?_
            try simp only [nrm]
            refine WpT.tl 34 rfl (.inr ⟨by rfl, rfl⟩) (hS) ?_
            try simp only [nrm]
            refine WpT.tl 35 rfl (.inr ⟨by rfl, rfl⟩) (hS) ?_
            try simp only [nrm]
            refine WpT.tk 36 (hS) ?_
            try simp only [nrm]
            refine WpT.done (by kernel_rfl) ?_ _
            skip
            go_wp2_with fail
            go_ret
            exact ⟨rfl, bstep hb0 hS⟩
          rcases le_tests la hd.commit with ⟨t2, e2, f2⟩ | ⟨t2, e2, f2⟩
          rotate_left
          · have hX : X = false := by rw [HX2.out, HH.out, HSq.out, if_neg (fun h => t2 h.2.1), Bool.false_and]
            subst hX
            clear HX2 HH HSq t1 t2
            refine wp_region_T 37 (by kernel_rfl) ?_
            refine WpT.tk 0 (hS) ?_
            try simp only [nrm]
            refine WpT.tl 1 rfl (yields_load rfl rfl rfl (by kernel_rfl) z0) (hS) ?_
            try simp only [nrm]
            refine WpT.tk 2 (hS) ?_
            try simp only [nrm]
            refine WpT.tl 3 rfl (yields_load rfl rfl rfl (by kernel_rfl) y0) (hS) ?_
            try simp only [nrm]
            refine WpT.tk 4 (hS) ?_
            try simp only [nrm]
            refine WpT.tk 5 (hS) ?_
            try simp only [nrm]
            refine WpT.tk 6 (hS) ?_
            try simp only [nrm]
            refine WpT.tl 7 rfl (yields_loadW (by rfl) rfl rfl (by kernel_rfl) z1) (hS) ?_
            try simp only [nrm]
            refine WpT.tk 8 (hS) ?_
            try simp only [nrm]
            refine WpT.tk 9 (hS) ?_
            try simp only [nrm]
            refine WpT.tk 10 (hS) ?_
            try simp only [nrm]
            refine WpT.tk 11 (hS) ?_
            try simp only [nrm]
            refine WpT.tl 12 rfl (.inr ⟨by rfl, rfl⟩) (hS) ?_
            try simp only [nrm]
            refine WpT.tl 13 rfl (.inr ⟨by rfl, rfl⟩) (hS) ?_
            try simp only [nrm]
            refine WpT.tl 14 rfl (.inr ⟨by rfl, rfl⟩) (hS) ?_
            try simp only [nrm]
            refine WpT.tl 15 rfl (.inr ⟨by rfl, rfl⟩) (hS) ?_
            try simp only [nrm]
            refine WpT.tl 16 rfl (.inr ⟨by rfl, rfl⟩) (hS) ?_
            try simp only [nrm]
            refine WpT.tk 17 (hS) ?_
            try simp only [nrm]
            refine WpT.tk 18 (hS) ?_
            try simp only [nrm]
            refine WpT.tl 19 rfl (.inr ⟨by rfl, rfl⟩) (hS) ?_
            try simp only [nrm]
            refine WpT.tl 20 rfl (.inr ⟨by rfl, rfl⟩) (hS) ?_
            try simp only [nrm]
            refine WpT.tl 21 rfl (.inr ⟨by rfl, rfl⟩) (hS) ?_
            try simp only [nrm]
            refine WpT.tl 22 rfl (.inr ⟨by rfl, rfl⟩) (hS) ?_
            try simp only [nrm]
            refine WpT.tl 23 rfl (.inr ⟨by rfl, rfl⟩) (hS) ?_
            try simp only [nrm]
            refine WpT.tl 24 rfl (.inr ⟨by rfl, rfl⟩) (hS) ?_
            try simp only [nrm]
            refine WpT.tl 25 rfl (.inr ⟨by rfl, rfl⟩) (hS) ?_
            try simp only [nrm]
            refine WpT.tk 26 (hS) ?_
            try simp only [nrm]
            refine WpT.tk 27 (hS) ?_
            try simp only [nrm]
            refine WpT.tl 28 rfl (.inr ⟨by rfl, rfl⟩) (hS) ?_
            try simp only [nrm]
            refine WpT.tl 29 rfl (.inr ⟨by rfl, rfl⟩) (hS) ?_
            try simp only [nrm]
            refine WpT.tl 30 rfl (.inr ⟨by rfl, rfl⟩) (hS) ?_
            try simp only [nrm]
            refine WpT.tl 31 rfl (.inr ⟨by rfl, rfl⟩) (hS) ?_
            try simp only [nrm]
            refine WpT.tl 32 rfl (.inr ⟨by rfl, rfl⟩) (hS) ?_
            try simp only [nrm]
            refine WpT.tl 33 rfl (.inr ⟨by rfl, rfl⟩) (hS) ?_
            try simp only [nrm]
            refine WpT.tl 34 rfl (.inr ⟨by rfl, rfl⟩) (hS) ?_
            try simp only [nrm]
            refine WpT.tl 35 rfl (.inr ⟨by rfl, rfl⟩) (hS) ?_
            try simp only [nrm]
            refine WpT.tk 36 (hS) ?_
            try simp only [nrm]
            refine WpT.done (by kernel_rfl) ?_ _
            skip
            go_wp2_with fail
            go_ret
            exact ⟨rfl, bstep hb0 hS⟩
          rcases le_tests hd.commit (k : Int) with ⟨t3, e3, f3⟩ | ⟨t3, e3, f3⟩
          rotate_left
          · have hX : X = false := by rw [HX2.out, HH.out, HSq.out, if_neg (fun h => t3 (by have := h.2.2.1; rw [HLE.out] at this; exact this)), Bool.false_and]
            subst hX
            clear HX2 HH HSq t1 t2 t3
            refine wp_region_T 37 (by kernel_rfl) ?_
            refine WpT.tk 0 (hS) ?_
            try simp only [nrm]
            refine WpT.tl 1 rfl (yields_load rfl rfl rfl (by kernel_rfl) z0) (hS) ?_
            try simp only [nrm]
            refine WpT.tk 2 (hS) ?_
            try simp only [nrm]
            refine WpT.tl 3 rfl (yields_load rfl rfl rfl (by kernel_rfl) y0) (hS) ?_
            try simp only [nrm]
            refine WpT.tk 4 (hS) ?_
            try simp only [nrm]
            refine WpT.tk 5 (hS) ?_
            try simp only [nrm]
            refine WpT.tk 6 (hS) ?_
            try simp only [nrm]
            refine WpT.tl 7 rfl (yields_loadW (by rfl) rfl rfl (by kernel_rfl) z1) (hS) ?_
            try simp only [nrm]
            refine WpT.tk 8 (hS) ?_
            try simp only [nrm]
            refine WpT.tk 9 (hS) ?_
            try simp only [nrm]
            refine WpT.tk 10 (hS) ?_
            try simp only [nrm]
            refine WpT.tk 11 (hS) ?_
            try simp only [nrm]
            refine WpT.tk 12 (hS) ?_
            try simp only [nrm]
            refine WpT.tl 13 rfl (yields_loadW (by rfl) rfl rfl (by kernel_rfl) z1) (hS) ?_
            try simp only [nrm]
            refine WpT.tk 14 (hS) ?_
            try simp only [nrm]
            refine WpT.tk 15 (hS) ?_
            try simp only [nrm]
            refine WpT.tk 16 (hS) ?_
            try simp only [nrm]
            refine WpT.tk 17 (hS) ?_
            try simp only [nrm]
            refine WpT.tk 18 (hS) ?_
            try simp only [nrm]
            refine WpT.tl 19 rfl (.inr ⟨by rfl, rfl⟩) (hS) ?_
            try simp only [nrm]
            refine WpT.tl 20 rfl (.inr ⟨by rfl, rfl⟩) (hS) ?_
            try simp only [nrm]
            refine WpT.tl 21 rfl (.inr ⟨by rfl, rfl⟩) (hS) ?_
            try simp only [nrm]
            refine WpT.tl 22 rfl (.inr ⟨by rfl, rfl⟩) (hS) ?_
            try simp only [nrm]
            refine WpT.tl 23 rfl (.inr ⟨by rfl, rfl⟩) (hS) ?_
            try simp only [nrm]
            refine WpT.tl 24 rfl (.inr ⟨by rfl, rfl⟩) (hS) ?_
            try simp only [nrm]
            refine WpT.tl 25 rfl (.inr ⟨by rfl, rfl⟩) (hS) ?_
            try simp only [nrm]
            refine WpT.tk 26 (hS) ?_
            try simp only [nrm]
            refine WpT.tk 27 (hS) ?_
            try simp only [nrm]
            refine WpT.tl 28 rfl (.inr ⟨by rfl, rfl⟩) (hS) ?_
            try simp only [nrm]
            refine WpT.tl 29 rfl (.inr ⟨by rfl, rfl⟩) (hS) ?_
            try simp only [nrm]
            refine WpT.tl 30 rfl (.inr ⟨by rfl, rfl⟩) (hS) ?_
            try simp only [nrm]
            refine WpT.tl 31 rfl (.inr ⟨by rfl, rfl⟩) (hS) ?_
            try simp only [nrm]
            refine WpT.tl 32 rfl (.inr ⟨by rfl, rfl⟩) (hS) ?_
            try simp only [nrm]
            refine WpT.tl 33 rfl (.inr ⟨by rfl, rfl⟩) (hS) ?_
            try simp only [nrm]
            refine WpT.tl 34 rfl (.inr ⟨by rfl, rfl⟩) (hS) ?_
            try simp only [nrm]
            refine WpT.tl 35 rfl (.inr ⟨by rfl, rfl⟩) (hS) ?_
            try simp only [nrm]
            refine WpT.tk 36 (hS) ?_
            try simp only [nrm]
            refine WpT.done (by kernel_rfl) ?_ _
            skip
            go_wp2_with fail
            go_ret
            exact ⟨rfl, bstep hb0 hS⟩
          obtain ⟨kc, hkc⟩ : ∃ kc : Nat, hd.commit = kc := ⟨hd.commit.toNat, by omega⟩
          have hkcn : kc ≤ k := by omega
          have HKC := Lib.hid hkc
          have HDYk := Lib.hid (HDY.out kc hkcn)
          have HSq2 : Hid (headsGo H r.o (evsOf r.es) la (r.hs.drop q) = (if hd.day = dayAt (evsOf r.es) kc ∧ root H.nd H.em ((leavesOf H (evsOf r.es)).take kc) = hd.root then headsGo H r.o (evsOf r.es) (kc : Int) (r.hs.drop (q + 1)) else false)) := Lib.hid (by
            rw [HSq.out]
            by_cases hh : hd.day = dayAt (evsOf r.es) kc ∧ root H.nd H.em ((leavesOf H (evsOf r.es)).take kc) = hd.root
            · rw [if_pos hh, if_pos ⟨t1, t2, by rw [HLE.out]; exact t3, by rw [hkc, Int.toNat_natCast]; exact hh.1, by rw [hkc, Int.toNat_natCast]; exact hh.2⟩, hkc]
            · rw [if_neg hh, if_neg (fun h => hh ⟨by have := h.2.2.2.1; rwa [hkc, Int.toNat_natCast] at this, by have := h.2.2.2.2; rwa [hkc, Int.toNat_natCast] at this⟩)])
          rw [hkc, Int.toNat_natCast] at HRL
          rw [hkc] at z1 e2 f2 e3 f3 HB3 t2
          have f3n : decide (k < kc) = false := by rw [decide_eq_false_iff_not]; omega
          generalize dayAt (evsOf r.es) kc = DK at *
          clear HSq t1 t3 hkc HDY
          rcases int_tests hd.day DK with ⟨t4, e4, f4, d4⟩ | ⟨t4, e4, f4, d4⟩
          rotate_left
          · have hX : X = false := by rw [HX2.out, HH.out, HSq2.out, if_neg (fun h => t4 h.1), Bool.false_and]
            subst hX
            clear HX2 HH HSq2 t4 t2
            refine wp_region_T 37 (by kernel_rfl) ?_
            refine WpT.tk 0 (hS) ?_
            try simp only [nrm]
            refine WpT.tl 1 rfl (yields_load rfl rfl rfl (by kernel_rfl) z0) (hS) ?_
            try simp only [nrm]
            refine WpT.tk 2 (hS) ?_
            try simp only [nrm]
            refine WpT.tl 3 rfl (yields_load rfl rfl rfl (by kernel_rfl) y0) (hS) ?_
            try simp only [nrm]
            refine WpT.tk 4 (hS) ?_
            try simp only [nrm]
            refine WpT.tk 5 (hS) ?_
            try simp only [nrm]
            refine WpT.tk 6 (hS) ?_
            try simp only [nrm]
            refine WpT.tl 7 rfl (yields_loadW (by rfl) rfl rfl (by kernel_rfl) z1) (hS) ?_
            try simp only [nrm]
            refine WpT.tk 8 (hS) ?_
            try simp only [nrm]
            refine WpT.tk 9 (hS) ?_
            try simp only [nrm]
            refine WpT.tk 10 (hS) ?_
            try simp only [nrm]
            refine WpT.tk 11 (hS) ?_
            try simp only [nrm]
            refine WpT.tk 12 (hS) ?_
            try simp only [nrm]
            refine WpT.tl 13 rfl (yields_loadW (by rfl) rfl rfl (by kernel_rfl) z1) (hS) ?_
            try simp only [nrm]
            refine WpT.tk 14 (hS) ?_
            try simp only [nrm]
            refine WpT.tk 15 (hS) ?_
            try simp only [nrm]
            refine WpT.tk 16 (hS) ?_
            try simp only [nrm]
            refine WpT.tk 17 (hS) ?_
            try simp only [nrm]
            refine WpT.tk 18 (hS) ?_
            try simp only [nrm]
            refine WpT.tk 19 (hS) ?_
            try simp only [nrm]
            refine WpT.tl 20 rfl (yields_loadW (by rfl) rfl rfl (by kernel_rfl) z2) (hS) ?_
            try simp only [nrm]
            refine WpT.tl 21 rfl (yields_loadKW (us := lgL r) (by rfl) rfl rfl aggLg (by rw [sizeLg, h5]) yr) (hS) ?_
            try simp only [nrm]
            refine WpT.tk 22 (hS) ?_
            try simp only [nrm]
            refine WpT.tl 23 rfl (yields_loadW (by rfl) rfl rfl (by kernel_rfl) z1) (hS) ?_
            try simp only [nrm]
            refine WpT.on 24 rfl (fun K hK => ?_)
            go_simp; refine (HDYk.out _ (bstep hb0 hS)).mono ?_; rintro e w4 ⟨rfl, hb4⟩; replace hS := bstep hS hb4
            refine hK _ _ (hS) ?_; clear hK K; try simp only [nrm]
            refine WpT.tk 25 (hS) ?_
            try simp only [nrm]
            refine WpT.tk 26 (hS) ?_
            try simp only [nrm]
            refine WpT.tk 27 (hS) ?_
            try simp only [nrm]
            refine WpT.tl 28 rfl (.inr ⟨by rfl, rfl⟩) (hS) ?_
            try simp only [nrm]
            refine WpT.tl 29 rfl (.inr ⟨by rfl, rfl⟩) (hS) ?_
            try simp only [nrm]
            refine WpT.tl 30 rfl (.inr ⟨by rfl, rfl⟩) (hS) ?_
            try simp only [nrm]
            refine WpT.tl 31 rfl (.inr ⟨by rfl, rfl⟩) (hS) ?_
            try simp only [nrm]
            refine WpT.tl 32 rfl (.inr ⟨by rfl, rfl⟩) (hS) ?_
            try simp only [nrm]
            refine WpT.tl 33 rfl (.inr ⟨by rfl, rfl⟩) (hS) ?_
            try simp only [nrm]
            refine WpT.tl 34 rfl (.inr ⟨by rfl, rfl⟩) (hS) ?_
            try simp only [nrm]
            refine WpT.tl 35 rfl (.inr ⟨by rfl, rfl⟩) (hS) ?_
            try simp only [nrm]
            refine WpT.tk 36 (hS) ?_
            try simp only [nrm]
            refine WpT.done (by kernel_rfl) ?_ _
            skip
            go_wp2_with fail
            go_ret
            exact ⟨rfl, bstep hb0 hS⟩
          have hkc5 : kc ≤ c5 := by omega
          have HRTk := Lib.hid (fun W (hb : Below w3.heap.size w3 W) => HRT.out ((leavesOf H (evsOf r.es)).take kc) A5 kc c5 W (by omega) ((HR5.out _ (bstep hbw2 hb)).take hkcn) hkc5 m5 (bstep hb0 hb))
          unfold DgIs at HRTk
          generalize root H.nd H.em ((leavesOf H (evsOf r.es)).take kc) = RK at *
          by_cases hrk : RK = hd.root
          rotate_left
          · have hX : X = false := by rw [HX2.out, HH.out, HSq2.out, if_neg (fun h => hrk h.2), Bool.false_and]
            subst hX
            have hrt : (!decide (RK = hd.root)) = true := by simp [hrk]
            clear HX2 HH HSq2 t4 t2 hrk
            refine wp_region_T 37 (by kernel_rfl) ?_
            refine WpT.tk 0 (hS) ?_
            try simp only [nrm]
            refine WpT.tl 1 rfl (yields_load rfl rfl rfl (by kernel_rfl) z0) (hS) ?_
            try simp only [nrm]
            refine WpT.tk 2 (hS) ?_
            try simp only [nrm]
            refine WpT.tl 3 rfl (yields_load rfl rfl rfl (by kernel_rfl) y0) (hS) ?_
            try simp only [nrm]
            refine WpT.tk 4 (hS) ?_
            try simp only [nrm]
            refine WpT.tk 5 (hS) ?_
            try simp only [nrm]
            refine WpT.tk 6 (hS) ?_
            try simp only [nrm]
            refine WpT.tl 7 rfl (yields_loadW (by rfl) rfl rfl (by kernel_rfl) z1) (hS) ?_
            try simp only [nrm]
            refine WpT.tk 8 (hS) ?_
            try simp only [nrm]
            refine WpT.tk 9 (hS) ?_
            try simp only [nrm]
            refine WpT.tk 10 (hS) ?_
            try simp only [nrm]
            refine WpT.tk 11 (hS) ?_
            try simp only [nrm]
            refine WpT.tk 12 (hS) ?_
            try simp only [nrm]
            refine WpT.tl 13 rfl (yields_loadW (by rfl) rfl rfl (by kernel_rfl) z1) (hS) ?_
            try simp only [nrm]
            refine WpT.tk 14 (hS) ?_
            try simp only [nrm]
            refine WpT.tk 15 (hS) ?_
            try simp only [nrm]
            refine WpT.tk 16 (hS) ?_
            try simp only [nrm]
            refine WpT.tk 17 (hS) ?_
            try simp only [nrm]
            refine WpT.tk 18 (hS) ?_
            try simp only [nrm]
            refine WpT.tk 19 (hS) ?_
            try simp only [nrm]
            refine WpT.tl 20 rfl (yields_loadW (by rfl) rfl rfl (by kernel_rfl) z2) (hS) ?_
            try simp only [nrm]
            refine WpT.tl 21 rfl (yields_loadKW (us := lgL r) (by rfl) rfl rfl aggLg (by rw [sizeLg, h5]) yr) (hS) ?_
            try simp only [nrm]
            refine WpT.tk 22 (hS) ?_
            try simp only [nrm]
            refine WpT.tl 23 rfl (yields_loadW (by rfl) rfl rfl (by kernel_rfl) z1) (hS) ?_
            try simp only [nrm]
            refine WpT.on 24 rfl (fun K hK => ?_)
            go_simp; refine (HDYk.out _ (bstep hb0 hS)).mono ?_; rintro e w4 ⟨rfl, hb4⟩; replace hS := bstep hS hb4
            refine hK _ _ (hS) ?_; clear hK K; try simp only [nrm]
            refine WpT.tk 25 (hS) ?_
            try simp only [nrm]
            refine WpT.tk 26 (hS) ?_
            try simp only [nrm]
            refine WpT.tk 27 (hS) ?_
            try simp only [nrm]
            refine WpT.tk 28 (hS) ?_
            try simp only [nrm]
            refine WpT.tk 29 (hS) ?_
            try simp only [nrm]
            refine WpT.tl 30 rfl (yields_loadW (by rfl) rfl rfl (by kernel_rfl) z1) (hS) ?_
            try simp only [nrm]
            refine WpT.tl 31 rfl (yields_takeS (s := 16) (by rfl) rfl (by kernel_rfl) (by kernel_rfl) (by rfl) (by rfl) hkc5) (hS) ?_
            try simp only [nrm]
            refine WpT.tk 33 (hS) ?_
            try simp only [nrm]
            refine WpT.tl 34 rfl (yields_loadKW (us := bv (dg hd.root)) (by rfl) rfl rfl aggDg (by rw [sizeDg, bv_dg_len]) z3) (hS) ?_
            try simp only [nrm]
            refine WpT.on 32 rfl (fun K hK => ?_)
            go_simp; refine (HRTk.out _ hS).mono ?_; rintro e w5 ⟨rfl, hb5⟩; replace hS := bstep hS hb5
            refine hK _ _ (hS) ?_; clear hK K; try simp only [nrm]
            refine WpT.tl 35 rfl (yields_neqDg (by rfl) rfl (by rfl) (by rfl) HRL.out.1 HRL.out.2 hrt (fun W => by kernel_rfl)) (hS) ?_
            try simp only [nrm]
            refine WpT.tk 36 (hS) ?_
            try simp only [nrm]
            refine WpT.done (by kernel_rfl) ?_ _
            skip
            go_wp2_with fail
            go_ret
            exact ⟨rfl, bstep hb0 hS⟩
          · have hrt : (!decide (RK = hd.root)) = false := by simp [hrk]
            have HN2 : Hid (headsGo H r.o (evsOf r.es) 0 r.hs = headsGo H r.o (evsOf r.es) (kc : Int) (r.hs.drop (q + 1))) := Lib.hid (by rw [HH.out, HSq2.out, if_pos ⟨t4, hrk⟩])
            clear HX2 HH HSq2 t4 hrk
            refine wp_region_T 37 (by kernel_rfl) ?_
            refine WpT.tk 0 (hS) ?_
            try simp only [nrm]
            refine WpT.tl 1 rfl (yields_load rfl rfl rfl (by kernel_rfl) z0) (hS) ?_
            try simp only [nrm]
            refine WpT.tk 2 (hS) ?_
            try simp only [nrm]
            refine WpT.tl 3 rfl (yields_load rfl rfl rfl (by kernel_rfl) y0) (hS) ?_
            try simp only [nrm]
            refine WpT.tk 4 (hS) ?_
            try simp only [nrm]
            refine WpT.tk 5 (hS) ?_
            try simp only [nrm]
            refine WpT.tk 6 (hS) ?_
            try simp only [nrm]
            refine WpT.tl 7 rfl (yields_loadW (by rfl) rfl rfl (by kernel_rfl) z1) (hS) ?_
            try simp only [nrm]
            refine WpT.tk 8 (hS) ?_
            try simp only [nrm]
            refine WpT.tk 9 (hS) ?_
            try simp only [nrm]
            refine WpT.tk 10 (hS) ?_
            try simp only [nrm]
            refine WpT.tk 11 (hS) ?_
            try simp only [nrm]
            refine WpT.tk 12 (hS) ?_
            try simp only [nrm]
            refine WpT.tl 13 rfl (yields_loadW (by rfl) rfl rfl (by kernel_rfl) z1) (hS) ?_
            try simp only [nrm]
            refine WpT.tk 14 (hS) ?_
            try simp only [nrm]
            refine WpT.tk 15 (hS) ?_
            try simp only [nrm]
            refine WpT.tk 16 (hS) ?_
            try simp only [nrm]
            refine WpT.tk 17 (hS) ?_
            try simp only [nrm]
            refine WpT.tk 18 (hS) ?_
            try simp only [nrm]
            refine WpT.tk 19 (hS) ?_
            try simp only [nrm]
            refine WpT.tl 20 rfl (yields_loadW (by rfl) rfl rfl (by kernel_rfl) z2) (hS) ?_
            try simp only [nrm]
            refine WpT.tl 21 rfl (yields_loadKW (us := lgL r) (by rfl) rfl rfl aggLg (by rw [sizeLg, h5]) yr) (hS) ?_
            try simp only [nrm]
            refine WpT.tk 22 (hS) ?_
            try simp only [nrm]
            refine WpT.tl 23 rfl (yields_loadW (by rfl) rfl rfl (by kernel_rfl) z1) (hS) ?_
            try simp only [nrm]
            refine WpT.on 24 rfl (fun K hK => ?_)
            go_simp; refine (HDYk.out _ (bstep hb0 hS)).mono ?_; rintro e w4 ⟨rfl, hb4⟩; replace hS := bstep hS hb4
            refine hK _ _ (hS) ?_; clear hK K; try simp only [nrm]
            refine WpT.tk 25 (hS) ?_
            try simp only [nrm]
            refine WpT.tk 26 (hS) ?_
            try simp only [nrm]
            refine WpT.tk 27 (hS) ?_
            try simp only [nrm]
            refine WpT.tk 28 (hS) ?_
            try simp only [nrm]
            refine WpT.tk 29 (hS) ?_
            try simp only [nrm]
            refine WpT.tl 30 rfl (yields_loadW (by rfl) rfl rfl (by kernel_rfl) z1) (hS) ?_
            try simp only [nrm]
            refine WpT.tl 31 rfl (yields_takeS (s := 16) (by rfl) rfl (by kernel_rfl) (by kernel_rfl) (by rfl) (by rfl) hkc5) (hS) ?_
            try simp only [nrm]
            refine WpT.tk 33 (hS) ?_
            try simp only [nrm]
            refine WpT.tl 34 rfl (yields_loadKW (us := bv (dg hd.root)) (by rfl) rfl rfl aggDg (by rw [sizeDg, bv_dg_len]) z3) (hS) ?_
            try simp only [nrm]
            refine WpT.on 32 rfl (fun K hK => ?_)
            go_simp; refine (HRTk.out _ hS).mono ?_; rintro e w5 ⟨rfl, hb5⟩; replace hS := bstep hS hb5
            refine hK _ _ (hS) ?_; clear hK K; try simp only [nrm]
            refine WpT.tl 35 rfl (yields_neqDg (by rfl) rfl (by rfl) (by rfl) HRL.out.1 HRL.out.2 hrt (fun W => by kernel_rfl)) (hS) ?_
            try simp only [nrm]
            refine WpT.tk 36 (hS) ?_
            try simp only [nrm]
            refine WpT.done (by kernel_rfl) ?_ _
            skip
            have z1x := HB3.out _ hS
            go_wp2_with fail
            exact ⟨⟨q + 1, (kc : Int), rfl, by go_num, by omega, by omega, HN2, bstep hbw2 hS⟩, by simp [intOf]; omega⟩
        · obtain rfl : q = r.hn := by omega
          have HX3 : Hid (X = (decide (r.s = (k : Int)) && decide (peaks H.nd H.em (leavesOf H (evsOf r.es)) = r.ts))) := Lib.hid (by
            rw [HX2.out, HH.out, List.drop_of_length_le (by rw [HHL.out]; exact Nat.le_refl _)]
            rfl)
          clear HX2 HH HKH HHE HDY HRT HRLt
          replace hbw := bstep hbw hbw2
          have HR6 := Lib.hid (fun W (h : Below wr.heap.size wr W) => HR5.out _ (bstep hbw2 h))
          have HB6 := Lib.hid (fun W (h : Below wr.heap.size wr W) => bstep hb0 (bstep hbw h))
          have HQ6 := Lib.hid (fun W (h : Below wr.heap.size wr W) => HQ0.out _ (bstep hbw h))
          clear HR5 hbw hbw2 hla
          have HLK : Hid ((leavesOf H (evsOf r.es)).length = k) := Lib.hid (HLN.out.trans HLE.out)
          generalize leavesOf H (evsOf r.es) = LV at *
          go_wp2_with ((with_reducible show wpList _ _ _ (⟨some 9, _, _, _, _, _⟩ :: _) _ _); refine wpList_new rfl rfl zeroPk ?_; intro w6 g9 hg9 b9 hb6 lt9; have HG9 : Hid (wr.heap.size ≤ g9 ∧ g9 < w6.heap.size) := Lib.hid ⟨by omega, lt9⟩; clear hg9 lt9)
          have HW6 := Lib.hid (fun W (h : Below g9 w6 W) => (hb6.trans (h.mono HG9.out.1)))
          have HT0 : Hid (∃ A m c, Blk w6 g9 39 (pkC ((0 : Nat) : Int) A m c) ∧ m = (peaks H.nd H.em (LV.take 0)).length ∧ OwnDs w6 w6.heap.size (.slice A m c) (peaks H.nd H.em (LV.take 0)) ∧ Below g9 w6 w6) := Lib.hid ⟨none, 0, 0, b9, by rw [List.take_zero, peaks_nil]; rfl, by rw [List.take_zero, peaks_nil]; exact OwnDs.nil _ _, Below.refl _ _⟩
          clear b9 hb6
          go_loopw [92] (fun v92 wr => ∃ j : Nat, v92 = .int .i64 (j : Int) ∧ j ≤ k ∧ Hid (∃ A m c, Blk wr g9 39 (pkC (j : Int) A m c) ∧ m = (peaks H.nd H.em (LV.take j)).length ∧ OwnDs wr w6.heap.size (.slice A m c) (peaks H.nd H.em (LV.take j)) ∧ Below g9 w6 wr)) (fun v92 _ => k - (intOf v92).toNat)
          case atStart => exact ⟨0, rfl, by omega, HT0⟩
          case round =>
            obtain ⟨j, rfl, hj, HJ⟩ := hrel
            obtain ⟨A7, m7, c7, b7, hm7, o7, hbl⟩ := HJ.out
            clear HJ HT0
            have hbX := HW6.out _ hbl
            by_cases hjk : j < k
            · have hjl : j < LV.length := by rw [HLK.out]; exact hjk
              have dj : decide ((j : Int) < (k : Int)) = true := by rw [decide_eq_true_eq]; omega
              obtain ⟨ad, rfl, hcd⟩ := (HR6.out _ hbX).elem hjl
              have hl2 : (LV.take j).length = j := by rw [List.length_take]; omega
              have hj40 : j < 1099511627776 := by omega
              have HPj := Lib.hid (HP.out (LV.take j) LV[j] (by rw [hl2]; exact hj40))
              have HM : Hid (m7 ≤ 1000) := Lib.hid (by have := HPF.out (LV.take j) (by rw [hl2]; exact hj40); omega)
              have HTJ : Hid (LV.take (j + 1) = LV.take j ++ [LV[j]]) := Lib.hid (List.take_succ_eq_append_getElem hjl)
              rw [hl2] at HPj
              have HRD : Hid (RdD wr A7 m7 (peaks H.nd H.em (LV.take j)) ∧ m7 ≤ c7 ∧ c7 ≤ maxLen) := Lib.hid (by
                obtain ⟨A', c', e, h1, h2, h3⟩ := OwnDs.formN o7 hm7.symm
                injection e with e1 e2 e3
                subst e1; subst e3; exact ⟨h3, h1, h2⟩)
              have HAj := Lib.hid (fun W (h : Below wr.heap.size wr W) => HAP.out (j : Int) LV[j] A7 m7 c7 (peaks H.nd H.em (LV.take j)) W (HB6.out _ (bstep hbX h)) HM.out (HRD.out.1.below h) HRD.out.2.1 HRD.out.2.2)
              rw [HPj.out] at HAj
              rw [← HTJ.out] at HAj
              have HLT7 : Hid (g9 < wr.heap.size ∧ w6.heap.size ≤ wr.heap.size) := Lib.hid ⟨b7.lt, hbl.size⟩
              generalize LV[j] = x at *
              generalize hTM : peaks H.nd H.em (LV.take (j + 1)) = TM at *
              have HTM := Lib.hid hTM
              clear o7 hm7 HPj HTJ HRD HM hjl hl2 hTM hj40
              unfold ApIs at HAj
              have hcp : ∀ j' u, ([.int .i64 (j : Int), .slice A7 m7 c7] : List Value)[j']? = some u → wr.cell? ((⟨g9, 0, none⟩ : Addr).add j') = some u := blk_row (xs := [.int .i64 (j : Int), .slice A7 m7 c7]) b7
              go_wp2_with (first
                | ((with_reducible show wpList _ _ _ (⟨some 95, _, _, _, _, _⟩ :: _) _ _); refine wpList_loadK (us := bv (dg x)) rfl rfl rfl aggDg (by rw [sizeDg, bv_dg_len]) hcd ?_)
                | ((with_reducible show wpList _ _ _ (⟨some 11, _, _, _, _, _⟩ :: _) _ _); refine wpList_newDg (n := x) rfl rfl rfl rfl (fun _ => rfl) (fun _ => rfl) ?_; intro w7 g11 hg11 b11 hb7; clear hg11; replace hcp := fun j' u h => cell_later hb7 (hcp j' u h); have hc11 := blk_row (xs := bv (dg x)) b11)
                | ((with_reducible show wpList _ _ _ (⟨some 97, _, _, _, _, _⟩ :: _) _ _); refine wpList_loadK (us := [.int .i64 (j : Int), .slice A7 m7 c7]) rfl rfl rfl aggPk (by rw [sizePk]; rfl) hcp ?_)
                | ((with_reducible show wpList _ _ _ (⟨some 98, _, _, _, _, _⟩ :: _) _ _); refine wpList_loadK (us := bv (dg x)) rfl rfl rfl aggDg (by rw [sizeDg, bv_dg_len]) hc11 ?_))
              refine (HAj.out _ hb7).mono ?_
              rintro e w8 ⟨A8, m8, c8, rfl, o8, hb8⟩
              have o9 : OwnDs w8 w6.heap.size (.slice A8 m8 c8) TM := OwnDs.lower o8 (by have := HLT7.out; have := hb7.size; omega)
              have hb78 := bstep hb7 hb8
              have b8 := b7.below hb78
              clear hcp hcd hc11 b11 b7 o8 hb7 hb8
              go_wp2_with ((with_reducible show wpList _ _ _ (⟨none, _, _, _, _, _⟩ :: _) _ _); refine wpList_put (vs := pkC ((j + 1 : Nat) : Int) A8 m8 c8) rfl rfl rfl rfl b8 rfl (by rw [sizePk]; rfl) (one_pkC _ _ _ _) ?_; intro w10 ht10 b10)
              exact ⟨⟨j + 1, by go_num, by omega, Lib.hid ⟨A8, m8, c8, b10, by rw [HTM.out]; exact own_len o9, by rw [HTM.out]; exact ht10.own o9 (fun e => by have := (World.ownsRow.lt o9 _ e).1; have := HG9.out; omega), (hbl.trans (hb78.mono (by have := HLT7.out; omega))).trans (ht10.below _ (Nat.le_refl _))⟩⟩, by simp [intOf]; omega⟩
            · obtain rfl : j = k := by omega
              have HL : Hid (LV.take j = LV) := Lib.hid (List.take_of_length_le (by rw [HLK.out]; exact Nat.le_refl _))
              rw [HL.out] at hm7 o7
              have e0 : wr.cell? ⟨g9, 0, none⟩ = some (.int .i64 (j : Int)) := by rw [b7.cell 0]; rfl
              have e1 : wr.cell? ⟨g9, 1, none⟩ = some (.slice A7 m7 c7) := by rw [b7.cell 1]; rfl
              have x2 := lg_c2 (HQ6.out _ hbX)
              have x3 := lg_c2t (HQ6.out _ hbX)
              have hbF := HB6.out _ hbX
              obtain ⟨A', c', he, k1, k2, k3⟩ := OwnDs.formN o7 hm7.symm
              injection he with i1 i2 i3
              subst i1
              subst i3
              have hp40 := HPF.out LV (by rw [HLK.out]; omega)
              have HEQk := Lib.hid (HEQ.out (peaks H.nd H.em LV) A7 m7 c7 wr hbF k3 (by omega) (HPL.out LV HLL.out))
              clear HPF HPL HEQ HP HAP HW6 HR6 HB6 HQ6 o7 hm7 b7 hbl hbX k1 k2 k3 hp40
              generalize decide (peaks H.nd H.em LV = r.ts) = PB at *
              rcases int_tests (j : Int) r.s with ⟨t1, q1, q2, q3⟩ | ⟨t1, q1, q2, q3⟩
              · have hX : X = PB := by rw [HX3.out, show decide (r.s = (j : Int)) = true by rw [decide_eq_true_eq]; exact t1.symm, Bool.true_and]
                subst hX
                clear HX3 t1
                go_wp2_with fail
                refine HEQk.out.mono ?_
                rintro e w9 ⟨rfl, hb9⟩
                go_wp2_with fail
                go_ret
                exact ⟨rfl, bstep hbF hb9⟩
              · have hX : X = false := by rw [HX3.out, show decide (r.s = (j : Int)) = false by rw [decide_eq_false_iff_not]; exact fun e => t1 e.symm, Bool.false_and]
                subst hX
                clear HX3 t1
                go_wp2_with fail
                go_ret
                exact ⟨rfl, hbF⟩
end Go.Proofs.YtcapckngikekpaaGreatDoor
namespace Go.Proofs.YtcapckngikekpaaGreatDoor
set_option linter.unusedSimpArgs false
set_option linter.unusedVariables false
open Go.RowKit Exch Merk Ring
def lawKey2 : Key := ⟨1073741826, 1, ⟨#[99]⟩, 0, 1048577⟩
theorem build4_Ky (a b d : Int) (s : ByteArray) (W : World) : (Instr.build 44 #[(0, .int .i64 a), (1, .int .i64 b), (2, .string s), (4, .int .i64 d)]).run Tryz.prog W = .ok (keyV ⟨a, b, s, 0, d⟩) W := by kernel_rfl
theorem zeroKy_v (W : World) : (zeroValue 44).run Tryz.prog W = .ok (keyV zeroKey) W := by kernel_rfl
theorem lawKey2_any (w : World) : Calls Tryz.prog 49 #[.int .i64 2] w fun e w' => e = .returned (keyV lawKey2) ∧ Below w.heap.size w w' := by
  obtain ⟨wa, hwa, hb0, q1⟩ : ∃ wa : World, wa = w.alloc (.cells (keyC zeroKey) 44) ∧ Below w.heap.size w wa ∧ Blk wa w.heap.size 44 (keyC zeroKey) := ⟨_, rfl, (Below.refl w.heap.size w).alloc (Nat.le_refl _) _, Blk.new _ _ _⟩
  have HWA := Lib.hid hwa
  clear hwa
  go_enter Tryz.func49, Tryz.ntmps49
  go_upto_region 1 with (refine wpList_alloc rfl rfl (zeroKy_v _) ?_)
  change Code.wp _ _ _ _ (w.alloc (.cells (keyC zeroKey) 44))
  rw [← HWA.out]
  go_wp2_with (first
    | ((with_reducible show wpList _ _ _ (⟨some 10, _, _, _, _, _⟩ :: _) _ _); refine wpList_bts (l := [99]) rfl rfl bytesTy (by kernel_rfl) rfl (Rd.new1 _ _ _) ?_)
    | ((with_reducible show wpList _ _ _ (⟨some 11, _, _, _, _, _⟩ :: _) _ _); refine wpList_build4 rfl rfl rfl rfl rfl rfl (build4_Ky 1073741826 1 1048577 ⟨#[99]⟩) ?_)
    | ((with_reducible show wpList _ _ _ (⟨none, _, _, _, _, _⟩ :: _) _ _); refine wpList_put (vs := keyC lawKey2) rfl rfl rfl rfl (q1.alloc _) rfl (by kernel_rfl) (by simp [Value.oneCell']) ?_; intro w9 ht9 b9))
  exact ret_blk rfl rfl rfl b9 aggKy (by kernel_rfl) ⟨rfl, (hb0.alloc (by have := q1.lt; omega) _).trans (ht9.below _ (Nat.le_refl _))⟩
end Go.Proofs.YtcapckngikekpaaGreatDoor
