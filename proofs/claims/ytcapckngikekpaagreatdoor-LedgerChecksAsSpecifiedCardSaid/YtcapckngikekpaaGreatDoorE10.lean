/-
  Known of the functions of this seat's laws, joined. Conditions: each theorem's own.
-/
import Derived.Test.YtcapckngikekpaaGreatDoorE9
namespace Go.Proofs.YtcapckngikekpaaGreatDoor
set_option linter.unusedSimpArgs false
set_option linter.unusedVariables false
set_option maxRecDepth 100000
set_option maxHeartbeats 16000000
section
open Go.RowKit Exch Merk Ring
def z7v (g : Nat) (v : EvR) : Prop := (v.vn ≠ 0 → z2h v.vA g) ∧ (v.an ≠ 0 → z2h v.aA g)
structure z1e (g : Nat) (r : LgR) : Prop where
 ev : z2h r.eA g
 tp : z2h r.tA g
 hd : z2h r.hA g
 es : ∀ v ∈ r.es, z7v g v
theorem zjy {W : World} {A : Option Addr} {n : Nat} {xs : List Value} (h : Rd W A n xs) (hn : n = 0) (W' : World) : Rd W' A n xs := by
 subst hn
 have : xs = [] := List.eq_nil_of_length_eq_zero h.len
 subst this
 exact ⟨rfl, fun k u hk => by simp at hk⟩
theorem Rd.turnedN {W W' : World} {A : Option Addr} {n g : Nat} {xs : List Value} (h : Rd W A n xs) (ht : z0n g W W') (hn : n ≠ 0 → z2h A g) : Rd W' A n xs := by
 by_cases h0 : n = 0
 ·exact zjy h h0 W'
 ·exact h.turned ht (hn h0)
theorem z24.turned {W W' : World} {g : Nat} {v : EvR} (h : z24 W v) (ht : z0n g W W') (ha : z7v g v) : z24 W' v :=
 ⟨h.vlen, h.vrd.turnedN ht ha.1, h.vcap, h.vmax, ⟨h.ard.len, h.ard.rd.turnedN ht (fun h0 => ha.2 (fun e => h0 (by rw [e])))⟩, h.acap, h.amax, h.non⟩
theorem z0w.turned {W W' : World} {g : Nat} {r : LgR} (h : z0w W r) (ht : z0n g W W') (ha : z1e g r) : z0w W' r :=
 ⟨⟨h.ev.len, h.ev.rd.turned ht ha.ev, fun v hv => (h.ev.ok v hv).turned ht (ha.es v hv)⟩, h.ec, h.em, ⟨h.tp.len, h.tp.rd.turned ht ha.tp⟩, h.tc, h.tm, h.tl, ⟨h.hd.len, h.hd.rd.turned ht ha.hd⟩, h.hc, h.hm, h.hl⟩
theorem z1e.new (g : Nat) (o : Int) : z1e g (z0s o) := ⟨z2h.none g, z2h.none g, z2h.none g, fun v hv => absurd hv List.not_mem_nil⟩
def za2 (r : LgR) (v : EvR) (s : Int) (tA : Option Addr) (tn tc : Nat) (ts : List Nat) (r' : LgR) (B : Nat) (W : World) : Prop :=
 ∃ A c, r' = { r with eA := A, en := r.en + 1, ec := c, es := r.es ++ [v], s := s, tA := tA, tn := tn, tc := tc, ts := ts } ∧ W.ownsRow B 27 25 (.slice A (r.en + 1) c) (r.en + 1) (r.es.flatMap evL ++ evL v) ∧ r.en + 1 ≤ c ∧ c ≤ maxLen
def za5 (r : LgR) (h : Hd) (r' : LgR) (B : Nat) (W : World) : Prop :=
 ∃ A c, r' = { r with hA := A, hn := r.hn + 1, hc := c, hs := r.hs ++ [h] } ∧ W.ownsRow B 51 36 (.slice A (r.hn + 1) c) (r.hn + 1) (r.hs.flatMap hdL ++ hdL h) ∧ r.hn + 1 ≤ c ∧ c ≤ maxLen
theorem za2.turned {r : LgR} {v : EvR} {s : Int} {tA : Option Addr} {tn tc : Nat} {ts : List Nat} {r' : LgR} {B : Nat} {W W' : World} {g : Nat} (h : za2 r v s tA tn tc ts r' B W) (hg : g < B) (ht : z0n g W W') : za2 r v s tA tn tc ts r' B W' := by
 obtain ⟨A, c, rfl, o, h1, h2⟩ := h
 exact ⟨A, c, rfl, ht.own o (fun e => by have := (World.ownsRow.lt o _ e).1; omega), h1, h2⟩
theorem za5.turned {r : LgR} {h : Hd} {r' : LgR} {B : Nat} {W W' : World} {g : Nat} (hp : za5 r h r' B W) (hg : g < B) (ht : z0n g W W') : za5 r h r' B W' := by
 obtain ⟨A, c, rfl, o, h1, h2⟩ := hp
 exact ⟨A, c, rfl, ht.own o (fun e => by have := (World.ownsRow.lt o _ e).1; omega), h1, h2⟩
def z8f (Post : LgR → Nat → World → Prop) (g : Nat) (W : World) (e : Ending) (w' : World) : Prop := ∃ v r' w1, e = .returned v ∧ Below W.heap.size W w1 ∧ z0n g w1 w' ∧ Blk w' g 42 (lgC r') ∧ Post r' W.heap.size w'
theorem zq7 (r : LgR) (A : Option Addr) (n c : Nat) (es : List EvR) : (lgC r).setIfInBounds 1 (.slice A n c) = lgC { r with eA := A, en := n, ec := c, es := es } := by simp [lgC, lgL]
theorem zq8 (r : LgR) (A : Option Addr) (n c : Nat) (hs : List Hd) : (lgC r).setIfInBounds 4 (.slice A n c) = lgC { r with hA := A, hn := n, hc := c, hs := hs } := by simp [lgC, lgL]
theorem zq9 (r : LgR) (s : Int) (A : Option Addr) (n c : Nat) (ts : List Nat) : ((lgC r).toList.take 2 ++ ([.int .i64 s, .slice A n c] : List Value) ++ (lgC r).toList.drop (2 + ([.int .i64 s, .slice A n c] : List Value).length)).toArray = lgC { r with s := s, tA := A, tn := n, tc := c, ts := ts } := by simp [lgC, lgL]
theorem zlw (r : LgR) (v : EvR) (s : Int) (tA : Option Addr) (tn tc : Nat) (ts : List Nat) (g ge gt : Nat) (w : World) (hg : Blk w g 42 (lgC r)) (hge : Blk w ge 27 (evC v)) (hgt : Blk w gt 39 (pkC s tA tn tc))
  (h1 : ge ≠ g) (h2 : gt ≠ g) (hr : Rd w r.eA (r.en * 25) (r.es.flatMap evL)) (hn : r.en ≤ 1000000) :
  Calls Tryz.prog 71 #[.pointer (some ⟨g, 0, none⟩), .pointer (some ⟨ge, 0, none⟩), .pointer (some ⟨gt, 0, none⟩)] w (z8f (za2 r v s tA tn tc ts) g w) := by
 have c1 := z6m hg
 have HM := y8 (fun W (h : Below w.heap.size w W) => zqg r.eA r.en r.ec _ v W (hr.below h) (zis zeo r.es) hn)
 have HG := y8 (fun W (h : Below w.heap.size w W) => hg.below h)
 have h25 := z3r v
 have HGE := y8 (fun W (h : Tk g w W) => yh (xs := evL v) (h.blk hge h1))
 have HGT := y8 (fun W (h : Tk g w W) => yh (xs := [.int .i64 s, .slice tA tn tc]) (h.blk hgt h2))
 have hglt := hg.lt
 clear hg hge hgt h1 h2 hr
 unfold z8f
 go_enter Tryz.func71, Tryz.ntmps71
 go_upto_region 0 with fail
 have hS : Below w.heap.size w w.drew := (Below.refl _ _).drew
 refine z1w (S := (Tk g w)) 14 (by kernel_rfl) ?_
 refine WpT.tk 0 (Tk.of hS) ?_
 simp only [nrm]
 refine WpT.tk 1 (Tk.of hS) ?_
 simp only [nrm]
 refine WpT.tk 2 (Tk.of hS) ?_
 simp only [nrm]
 refine WpT.tk 3 (Tk.of hS) ?_
 simp only [nrm]
 refine WpT.tk 4 (Tk.of hS) ?_
 simp only [nrm]
 refine WpT.tl 6 rfl (zd8 (us := evL v) rfl rfl rfl z3d (by rw [z2w, h25]) HGE.out) (Tk.of hS) ?_
 simp only [nrm]
 refine WpT.tl 8 rfl (zd8 (us := [.int .i64 s, .slice tA tn tc]) rfl rfl rfl z5a (by rw [z2q]; rfl) HGT.out) (Tk.of hS) ?_
 simp only [nrm]
 refine WpT.on 5 rfl (fun K hK => ?_)
 refine zvr rfl (by rfl) (by kernel_rfl) (cell_later hS c1) ?_
 refine hK _ _ (Tk.of hS) ?_; clear hK K; try simp only [nrm]
 refine WpT.on 7 rfl (fun K hK => ?_)
 go_simp; refine (HM.out _ hS).mono ?_; rintro e w4 ⟨A4, c4, rfl, o4, n4, m4, hb4⟩; have o5 := z6r o4 hS.size; clear o4; replace hS := y9 hS hb4
 refine hK _ _ (Tk.of hS) ?_; clear hK K; try simp only [nrm]
 refine WpT.tk 9 (Tk.of hS) ?_
 simp only [nrm]
 refine WpT.tk 10 (Tk.of hS) ?_
 simp only [nrm]
 refine WpT.on 11 rfl (fun K hK => ?_)
 refine z6z rfl (by kernel_rfl) (by rfl) (by rfl) (by rfl) (HG.out _ hS) (by rw [z4x]; omega) (zq7 r A4 (r.en + 1) c4 (r.es ++ [v])) ?_; intro w8 ht8 b8
 refine hK _ _ (Tk.turn hS ht8) ?_; clear hK K; try simp only [nrm]
 refine WpT.tp 12 (Tk.turn hS ht8) ?_
 simp only [nrm]
 refine WpT.tk 13 (Tk.turn hS ht8) ?_
 simp only [nrm]
 refine WpT.ta 14 rfl (fun K hK => ?_)
 refine zbc (vs := [.int .i64 s, .slice tA tn tc]) rfl (by rfl) (by rfl) b8 (by rw [z4x]; simp) (by rw [z2q]; rfl) (by intro u hu; simp only [List.mem_cons, List.not_mem_nil, or_false] at hu; rcases hu with rfl | rfl <;> rfl) (zq9 _ s tA tn tc ts) ?_; intro w9 ht9 b9
 refine hK _ _ ?_; clear hK K; try simp only [nrm]
 refine WpT.done (by kernel_rfl) ?_ _
 skip
 refine bodyPost_end (results_none rfl _ _ _) rfl ?_
 have hne : (Value.slice A4 (r.en + 1) c4).ownBlock ≠ some g := fun e => by have := (World.ownsRow.lt o5 _ e).1; omega
 exact ⟨_, _, w4, rfl, hS, ht8.step ht9, b9, A4, c4, rfl, ht9.own (ht8.own o5 hne) hne, n4, m4⟩
theorem ztx (r : LgR) (h : Hd) (g gh : Nat) (w : World) (hg : Blk w g 42 (lgC r)) (hgh : Blk w gh 51 (hdC h))
  (hr : Rd w r.hA (r.hn * 36) (r.hs.flatMap hdL)) (hn : r.hn ≤ 1000000) :
  Calls Tryz.prog 77 #[.pointer (some ⟨g, 0, none⟩), .pointer (some ⟨gh, 0, none⟩)] w (z8f (za5 r h) g w) := by
 have c3 := z96 hg
 have HM := y8 (fun W (h' : Below w.heap.size w W) => zqh r.hA r.hn r.hc _ h W (hr.below h') (zis zcb r.hs) hn)
 have HG := y8 (fun W (h : Below w.heap.size w W) => hg.below h)
 have h36 := z1k h
 have hch := yh (xs := hdL h) hgh
 have hglt := hg.lt
 clear hg hgh hr
 unfold z8f
 go_enter Tryz.func77, Tryz.ntmps77
 go_upto_region 0 with fail
 have hS : Below w.heap.size w w.drew := (Below.refl _ _).drew
 refine yp 9 (by kernel_rfl) ?_
 refine WpT.tk 0 hS ?_
 simp only [nrm]
 refine WpT.tk 1 hS ?_
 simp only [nrm]
 refine WpT.tk 2 hS ?_
 simp only [nrm]
 refine WpT.tk 3 hS ?_
 simp only [nrm]
 refine WpT.tl 4 rfl (ye rfl rfl rfl (by kernel_rfl) c3) hS ?_
 simp only [nrm]
 refine WpT.tl 5 rfl (yv (us := hdL h) rfl rfl rfl yo (by rw [yl, h36]) hch) hS ?_
 simp only [nrm]
 refine WpT.on 6 rfl (fun K hK => ?_)
 go_simp; refine (HM.out _ hS).mono ?_; rintro e w4 ⟨A4, c4, rfl, o4, n4, m4, hb4⟩; have o5 := z6r o4 hS.size; clear o4; replace hS := y9 hS hb4
 refine hK _ _ hS ?_; clear hK K; try simp only [nrm]
 refine WpT.tp 7 (hS) ?_
 simp only [nrm]
 refine WpT.tk 8 hS ?_
 simp only [nrm]
 refine WpT.ta 9 rfl (fun K hK => ?_)
 refine z6z rfl (by kernel_rfl) (by rfl) (by rfl) (by rfl) (HG.out _ hS) (by rw [z4x]; omega) (zq8 r A4 (r.hn + 1) c4 (r.hs ++ [h])) ?_; intro w8 ht8 b8
 refine hK _ _ ?_; clear hK K; try simp only [nrm]
 refine WpT.done (by kernel_rfl) ?_ _
 skip
 refine bodyPost_end (results_none rfl _ _ _) rfl ?_
 have hne : (Value.slice A4 (r.hn + 1) c4).ownBlock ≠ some g := fun e => by have := (World.ownsRow.lt o5 _ e).1; omega
 exact ⟨_, _, w4, rfl, hS, ht8, b8, A4, c4, rfl, ht8.own o5 hne, n4, m4⟩
theorem zn5 (F : Nat) (p q : Nat) (r : LgR) (A : Option Addr) (w : World) (Post : LgR → Nat → World → Prop) (hfn : Rd w A 1 [.func (.func F) #[] #[.pointer (some ⟨p, 0, none⟩), .pointer (some ⟨q, 0, none⟩)]])
  (hent : ∀ args W, (callFunc F args).run Tryz.prog W = .ok (.enter F args) W)
  (hcall : ∀ W g, Below w.heap.size w W → w.heap.size ≤ g → Blk W g 42 (lgC r) → Calls Tryz.prog F #[.pointer (some ⟨g, 0, none⟩), .pointer (some ⟨p, 0, none⟩), .pointer (some ⟨q, 0, none⟩)] W (z8f Post g W))
  (hpost : ∀ r' B W g W', Post r' B W → g < B → z0n g W W' → Post r' B W') :
  Calls Tryz.prog 70 #[lgV r, .slice A 1 1] w fun e w' => ∃ r' B, e = .returned (lgV r') ∧ w.heap.size ≤ B ∧ Post r' B w' ∧ Below w.heap.size w w' := by
 obtain ⟨wa, hwa, hb0, q1, q2⟩ := z5c w (lgC r) (lgC (z0s 0)) 42 42
 have HWA := y8 hwa
 have hlt2 := q2.lt
 obtain ⟨ad, rfl, hcf⟩ := (hfn.below hb0).get (k := 0) (by omega)
 replace hcf : wa.cell? ad = some (.func (.func F) #[] #[.pointer (some ⟨p, 0, none⟩), .pointer (some ⟨q, 0, none⟩)]) := hcf
 have HC := y8 (fun W (hb : Below w.heap.size w W) => hcall W w.heap.size hb (Nat.le_refl _))
 have HP := y8 hpost
 have ho5 := z2m r
 clear hwa hfn hcall hpost
 obtain ⟨g1, hg1⟩ : ∃ g, g = w.heap.size := ⟨_, rfl⟩
 obtain ⟨g2, hg2⟩ : ∃ g, g = w.heap.size + 1 := ⟨_, rfl⟩
 rw [← hg1] at q1 HC
 rw [← hg2] at q2 hlt2
 have HG := y8 (And.intro hg1 hg2)
 clear hg1 hg2
 have H0 : Hid (∃ r' B, ((0 : Nat) = 0 → r' = r) ∧ Blk wa g1 42 (lgC r') ∧ Blk wa g2 42 (lgC (z0s 0)) ∧ ((0 : Nat) = 1 → g2 < B ∧ Post r' B wa) ∧ Below g1 wa wa) := y8 ⟨r, 0, fun _ => rfl, q1, q2, fun h => by omega, Below.refl _ _⟩
 clear q1 q2
 go_enter Tryz.func70, Tryz.ntmps70
 go_upto_region 1 with (refine z21 rfl rfl (z72 _) ?_)
 change Code.wp _ _ _ _ ((w.alloc (.cells (lgC r) 42)).alloc (.cells (lgC (z0s 0)) 42))
 rw [← HWA.out, show (w.alloc (.cells (lgC r) 42)).heap.size = w.heap.size + 1 by simp, ← HG.out.2, ← HG.out.1]
 go_wp2_with fail
 go_loopw [6, 9] (fun v6 v9 wr => ∃ i : Nat, v9 = .int .i64 (i : Int) ∧ i ≤ 1 ∧ Hid (∃ r' B, (i = 0 → r' = r ∧ wr = wa) ∧ Blk wr g1 42 (lgC r') ∧ Blk wr g2 42 (lgC (z0s 0)) ∧ (i = 1 → g2 < B ∧ Post r' B wr) ∧ Below g1 wa wr)) (fun v6 v9 _ => 1 - (intOf v9).toNat)
 case atStart =>
  obtain ⟨r', B, h1, h2, h3, h4, h5⟩ := H0.out
  exact ⟨0, rfl, by omega, y8 ⟨r', B, fun _ => ⟨h1 (by trivial), rfl⟩, h2, h3, fun h => by omega, h5⟩⟩
 case round =>
  obtain ⟨i, rfl, hi, HI⟩ := hrel
  rcases (show i = 0 ∨ i = 1 by omega) with rfl | rfl
  ·obtain ⟨r', B, h1, h2, h3, -, h5⟩ := HI.out
   obtain ⟨rfl, rfl⟩ := h1 rfl
   clear HI H0
   have HB2 := y8 h2
   have HB3 := y8 h3
   have hlt3 := h3.lt
   clear h1 h2 h3 h5
   simp only [Int.cast_ofNat_Int] at *
   go_wp2_with fail
   refine (HC.out _ (by rw [HG.out.1]; exact hb0) HB2.out).mono ?_
   rintro e w4 ⟨v, r', w3, rfl, hb3, ht3, b4, hp⟩
   have hg := HG.out
   have HS : Hid (∃ r'' B, ((1 : Nat) = 0 → r'' = r' ∧ w4 = wr) ∧ Blk w4 g1 42 (lgC r'') ∧ Blk w4 g2 42 (lgC (z0s 0)) ∧ ((1 : Nat) = 1 → g2 < B ∧ Post r'' B w4) ∧ Below g1 wr w4) :=
    y8 ⟨r', wr.heap.size, fun h => by omega, b4, ht3.blk (HB3.out.below hb3) (by omega), fun _ => ⟨hlt3, hp⟩, (hb3.mono (by omega)).trans (ht3.below _ (Nat.le_refl _))⟩
   clear hb3 ht3 b4 hp HB2 HB3 hg
   go_wp2_with fail
   obtain ⟨r2, B2, -, k2, k3, k4, k5⟩ := HS.out
   exact ⟨⟨1, by go_num, by omega, y8 ⟨r2, B2, fun h => by omega, k2, k3, fun _ => k4 trivial, k5⟩⟩, by simp [intOf]⟩
  ·obtain ⟨r', B, -, h2, h3, h4, h5⟩ := HI.out
   obtain ⟨hB, hp⟩ := h4 rfl
   have hz := z2f h2
   have h5' := z7f r'
   have HP1 := y8 hp
   have hg := HG.out
   have HGG := y8 hg
   clear HI H0 h2 h4 hp hg
   simp only [Int.cast_ofNat_Int] at *
   go_wp2_with (first
    | ((with_reducible show sl 16); refine yk (us := lgL r') rfl rfl rfl z16 (by rw [z0b, h5']) hz ?_)
    | ((with_reducible show sn); refine z05 (vs := lgC r') rfl rfl rfl rfl h3 rfl (by rw [z0b, z4x]) (z2m r') ?_; intro w9 ht9 b9))
   exact z09 rfl rfl rfl b9 z16 (by rw [z0b, z4x]) ⟨r', B, rfl, by have := HGG.out; omega, HP.out _ _ _ _ _ HP1.out hB ht9, (hb0.trans (h5.mono (by have := HGG.out; omega))).trans (ht9.below _ (by have := HGG.out; omega))⟩
theorem zn4 (F : Nat) (p : Nat) (r : LgR) (A : Option Addr) (w : World) (Post : LgR → Nat → World → Prop) (hfn : Rd w A 1 [.func (.func F) #[] #[.pointer (some ⟨p, 0, none⟩)]])
  (hent : ∀ args W, (callFunc F args).run Tryz.prog W = .ok (.enter F args) W)
  (hcall : ∀ W g, Below w.heap.size w W → w.heap.size ≤ g → Blk W g 42 (lgC r) → Calls Tryz.prog F #[.pointer (some ⟨g, 0, none⟩), .pointer (some ⟨p, 0, none⟩)] W (z8f Post g W))
  (hpost : ∀ r' B W g W', Post r' B W → g < B → z0n g W W' → Post r' B W') :
  Calls Tryz.prog 70 #[lgV r, .slice A 1 1] w fun e w' => ∃ r' B, e = .returned (lgV r') ∧ w.heap.size ≤ B ∧ Post r' B w' ∧ Below w.heap.size w w' := by
 obtain ⟨wa, hwa, hb0, q1, q2⟩ := z5c w (lgC r) (lgC (z0s 0)) 42 42
 have HWA := y8 hwa
 have hlt2 := q2.lt
 obtain ⟨ad, rfl, hcf⟩ := (hfn.below hb0).get (k := 0) (by omega)
 replace hcf : wa.cell? ad = some (.func (.func F) #[] #[.pointer (some ⟨p, 0, none⟩)]) := hcf
 have HC := y8 (fun W (hb : Below w.heap.size w W) => hcall W w.heap.size hb (Nat.le_refl _))
 have HP := y8 hpost
 have ho5 := z2m r
 clear hwa hfn hcall hpost
 obtain ⟨g1, hg1⟩ : ∃ g, g = w.heap.size := ⟨_, rfl⟩
 obtain ⟨g2, hg2⟩ : ∃ g, g = w.heap.size + 1 := ⟨_, rfl⟩
 rw [← hg1] at q1 HC
 rw [← hg2] at q2 hlt2
 have HG := y8 (And.intro hg1 hg2)
 clear hg1 hg2
 have H0 : Hid (∃ r' B, ((0 : Nat) = 0 → r' = r) ∧ Blk wa g1 42 (lgC r') ∧ Blk wa g2 42 (lgC (z0s 0)) ∧ ((0 : Nat) = 1 → g2 < B ∧ Post r' B wa) ∧ Below g1 wa wa) := y8 ⟨r, 0, fun _ => rfl, q1, q2, fun h => by omega, Below.refl _ _⟩
 clear q1 q2
 go_enter Tryz.func70, Tryz.ntmps70
 go_upto_region 1 with (refine z21 rfl rfl (z72 _) ?_)
 change Code.wp _ _ _ _ ((w.alloc (.cells (lgC r) 42)).alloc (.cells (lgC (z0s 0)) 42))
 rw [← HWA.out, show (w.alloc (.cells (lgC r) 42)).heap.size = w.heap.size + 1 by simp, ← HG.out.2, ← HG.out.1]
 go_wp2_with fail
 go_loopw [6, 9] (fun v6 v9 wr => ∃ i : Nat, v9 = .int .i64 (i : Int) ∧ i ≤ 1 ∧ Hid (∃ r' B, (i = 0 → r' = r ∧ wr = wa) ∧ Blk wr g1 42 (lgC r') ∧ Blk wr g2 42 (lgC (z0s 0)) ∧ (i = 1 → g2 < B ∧ Post r' B wr) ∧ Below g1 wa wr)) (fun v6 v9 _ => 1 - (intOf v9).toNat)
 case atStart =>
  obtain ⟨r', B, h1, h2, h3, h4, h5⟩ := H0.out
  exact ⟨0, rfl, by omega, y8 ⟨r', B, fun _ => ⟨h1 (by trivial), rfl⟩, h2, h3, fun h => by omega, h5⟩⟩
 case round =>
  obtain ⟨i, rfl, hi, HI⟩ := hrel
  rcases (show i = 0 ∨ i = 1 by omega) with rfl | rfl
  ·obtain ⟨r', B, h1, h2, h3, -, h5⟩ := HI.out
   obtain ⟨rfl, rfl⟩ := h1 rfl
   clear HI H0
   have HB2 := y8 h2
   have HB3 := y8 h3
   have hlt3 := h3.lt
   clear h1 h2 h3 h5
   simp only [Int.cast_ofNat_Int] at *
   go_wp2_with fail
   refine (HC.out _ (by rw [HG.out.1]; exact hb0) HB2.out).mono ?_
   rintro e w4 ⟨v, r', w3, rfl, hb3, ht3, b4, hp⟩
   have hg := HG.out
   have HS : Hid (∃ r'' B, ((1 : Nat) = 0 → r'' = r' ∧ w4 = wr) ∧ Blk w4 g1 42 (lgC r'') ∧ Blk w4 g2 42 (lgC (z0s 0)) ∧ ((1 : Nat) = 1 → g2 < B ∧ Post r'' B w4) ∧ Below g1 wr w4) :=
    y8 ⟨r', wr.heap.size, fun h => by omega, b4, ht3.blk (HB3.out.below hb3) (by omega), fun _ => ⟨hlt3, hp⟩, (hb3.mono (by omega)).trans (ht3.below _ (Nat.le_refl _))⟩
   clear hb3 ht3 b4 hp HB2 HB3 hg
   go_wp2_with fail
   obtain ⟨r2, B2, -, k2, k3, k4, k5⟩ := HS.out
   exact ⟨⟨1, by go_num, by omega, y8 ⟨r2, B2, fun h => by omega, k2, k3, fun _ => k4 trivial, k5⟩⟩, by simp [intOf]⟩
  ·obtain ⟨r', B, -, h2, h3, h4, h5⟩ := HI.out
   obtain ⟨hB, hp⟩ := h4 rfl
   have hz := z2f h2
   have h5' := z7f r'
   have HP1 := y8 hp
   have hg := HG.out
   have HGG := y8 hg
   clear HI H0 h2 h4 hp hg
   simp only [Int.cast_ofNat_Int] at *
   go_wp2_with (first
    | ((with_reducible show sl 16); refine yk (us := lgL r') rfl rfl rfl z16 (by rw [z0b, h5']) hz ?_)
    | ((with_reducible show sn); refine z05 (vs := lgC r') rfl rfl rfl rfl h3 rfl (by rw [z0b, z4x]) (z2m r') ?_; intro w9 ht9 b9))
   exact z09 rfl rfl rfl b9 z16 (by rw [z0b, z4x]) ⟨r', B, rfl, by have := HGG.out; omega, HP.out _ _ _ _ _ HP1.out hB ht9, (hb0.trans (h5.mono (by have := HGG.out; omega))).trans (ht9.below _ (by have := HGG.out; omega))⟩
def z7w (r0 : LgR) (v : EvR) (p : Lg × Int) (w : World) (e : Ending) (w' : World) : Prop := ∃ r : LgR, e = .returned (.tuple #[lgV r, .int .i64 p.2]) ∧ z07 r = p.1 ∧ z0w w' r ∧ Below w.heap.size w w' ∧ (∀ g, (g < w.heap.size ∨ w'.heap.size ≤ g) → z1e g r0 → z7v g v → z1e g r)
theorem zml (p q : Nat) (W : World) : (Instr.buildSlice 159 1 #[(0, .func (.func 71) #[] #[.pointer (some ⟨p, 0, none⟩), .pointer (some ⟨q, 0, none⟩)])]).run Tryz.prog W = .ok (.slice (some ⟨W.heap.size, 0, none⟩) 1 1) (W.alloc (.cells #[.func (.func 71) #[] #[.pointer (some ⟨p, 0, none⟩), .pointer (some ⟨q, 0, none⟩)]] 160)) := by kernel_rfl
theorem zvg {w : World} {ops : Array Oper} {rest : List Oper} {o : Oper} {a : Act} {Q : Exit → Act → World → Prop} (hgd : o.guard = none) {T e : TypeId} {y : Operand} {v : Value} (ho : o.op = .buildSlice T 1 #[(0, y)]) (hy : a.eval y = v)
  (hb : (Instr.buildSlice T 1 #[(0, v)]).run Tryz.prog w = .ok (.slice (some ⟨w.heap.size, 0, none⟩) 1 1) (w.alloc (.cells #[v] e)))
  (h : ∀ w' g, Rd w' (some ⟨g, 0, none⟩) 1 [v] → Below w.heap.size w w' → wpList Tryz.prog ops Q rest (a.put o.dst (.slice (some ⟨g, 0, none⟩) 1 1)) w') : wpList Tryz.prog ops Q (o :: rest) a w := by
 have h2 := h _ _ (Rd.new1 w v e) ((Below.refl _ _).alloc (Nat.le_refl _) _)
 refine wpList_plain hgd fun K hK => ?_
 unfold Oper.wp execOp
 simp only [ho, List.map_toArray, List.map_cons, List.map_nil, hy, hb, Sem.run_bind, Result.andThen_ok, Sem.run_pure]
 exact hK _ _ h2
theorem zol (args : Array Value) (W : World) : (callFunc 71 args).run Tryz.prog W = .ok (.enter 71 args) W := by kernel_rfl
theorem zq5 (r : LgR) (v : EvR) (s : Int) (A B : Option Addr) (n c m d : Nat) (ts : List Nat) : z07 { r with eA := A, en := n, ec := c, es := r.es ++ [v], s := s, tA := B, tn := m, tc := d, ts := ts } = { z07 r with events := (z07 r).events ++ [v.e], size := s, tops := ts } := by simp [z07, yg]
theorem zj4 {w : World} {B : Nat} {e : TypeId} {k n c : Nat} {A : Option Addr} {xs : List Value} (h : w.ownsRow B e k (.slice A n c) n xs) : Rd w A (n * k) xs := by
 obtain ⟨A', c', he, -, -, hr⟩ := z50 h
 injection he with h1 h2 h3
 subst h1; exact hr
theorem zho {nd : Nat → Nat → Nat} (h : ∀ a b, nd a b < 2 ^ 128) (x : Nat) (hx : x < 2 ^ 128) : ∀ l : List Nat, l.foldr nd x < 2 ^ 128
 | [] => hx
 | _ :: _ => h _ _
theorem zly {nd : Nat → Nat → Nat} {em : Nat} (N : Nds nd em) (s : Int) (tl : List Nat) (x : Nat) (hl : ∀ y ∈ tl, y < 2 ^ 128) (hx : x < 2 ^ 128) : ∀ y ∈ (z3e nd s tl x).2.1, y < 2 ^ 128 := by
 unfold z3e
 split
 ·split
  ·intro y hy; exact absurd hy List.not_mem_nil
  ·intro y hy
   dsimp only at hy
   unfold grow at hy
   rcases List.mem_append.1 hy with hy | hy
   ·exact hl y (List.mem_of_mem_take hy)
   ·rw [List.mem_singleton.1 hy]; exact zho N.lt x hx _
 ·intro y hy; exact absurd hy List.not_mem_nil
theorem zlx {H : He} (L : Les H) (r : LgR) (v : EvR) (w : World) (h : z0w w r) (hv : z24 w v) (hn : r.en ≤ 1000000) (htn : r.tn ≤ 1000) (hw : z1s v.e) (hf : z1r v.e) (hg : GCon w) (hgb : GBru w) :
  Calls Tryz.prog 23 #[lgV r, evV v] w (z7w r v (z4s H (z07 r) v.e) w) := by
 obtain ⟨wa, hwa, hb0, q0, q1, q2⟩ := bx3 w (lgC r) (evC v) (lgC (z0s 0)) 42 27 42
 have HWA := y8 hwa
 have HQ0 := y8 (fun W (h : Below wa.heap.size wa W) => q0.below h)
 have HQ1 := y8 (fun W (h : Below wa.heap.size wa W) => q1.below h)
 have HQ2 := y8 (fun W (h : Below wa.heap.size wa W) => q2.below h)
 have HLT : Hid (w.heap.size + 1 + 1 < wa.heap.size) := y8 q2.lt
 have HOK := y8 (fun W (hb : Below w.heap.size w W) => h.below hb)
 have HVK := y8 (fun W (hb : Below w.heap.size w W) => hv.below hb)
 have HFW := y8 (fun W (hb : Below w.heap.size w W) => zhp r.es r.eA r.en r.ec v W (h.below hb).ev hn)
 have HFC := y8 (fun W (hb : Below w.heap.size w W) => zai L v W (hv.below hb) hw hf (hg.below hb))
 have HLF := y8 (fun W (hb : Below w.heap.size w W) => zc3 L (yt H v.e) W (ze0 H _ hw) (hg.below hb))
 have HAP := y8 (fun W (hb : Below w.heap.size w W) => zg6 L.nds r.s (H.lf (yt H v.e)) r.tA r.tn r.tc r.ts W htn (h.below hb).tp h.tc h.tm (hg.below hb) (hgb.below hb))
 have HLL := y8 (zly L.nds r.s r.ts (H.lf (yt H v.e)) h.tl (L.llt _))
 have HV : Hid (z4s H (z07 r) v.e = if follows (yg r.es) v.e = 0 then (if (z3e H.nd r.s r.ts (H.lf (yt H v.e))).2.2 = 0 then ({ z07 r with events := (z07 r).events ++ [v.e], size := (z3e H.nd r.s r.ts (H.lf (yt H v.e))).1, tops := (z3e H.nd r.s r.ts (H.lf (yt H v.e))).2.1 }, 0) else (z07 r, (z3e H.nd r.s r.ts (H.lf (yt H v.e))).2.2)) else (z07 r, follows (yg r.es) v.e)) := y8 rfl
 have h5 := z7f r
 have h25 := z3r v
 have hsz : ∀ r' : LgR, (lgC r').size = 5 := z4x
 have c1 := z6m q0
 have hcv := yh (xs := evL v) q1
 have hel := y8 h.ev.len
 clear hwa q0 q1 q2 h hv hw hf hg hgb L
 unfold z32 at HFC
 unfold isD at HLF
 unfold z7s at HAP
 generalize z4s H (z07 r) v.e = X at *
 generalize follows (yg r.es) v.e = FO at *
 generalize H.lf (yt H v.e) = LF at *
 generalize yt H v.e = F at *
 generalize z3e H.nd r.s r.ts LF = AP at *
 obtain ⟨S, T, E⟩ := AP
 dsimp only at HAP HV HLL
 rcases z3i FO with ⟨hfo, e1, f1, d1⟩ | ⟨hfo, e1, f1, d1⟩
 rotate_left
 ·have hX : X = (z07 r, FO) := by rw [HV.out, if_neg hfo]
  subst hX
  clear HV HAP HLF HFC HLL
  unfold z7w
  go_enter Tryz.func23, Tryz.ntmps23
  go_upto_region 1 with (refine z21 rfl rfl (z72 _) ?_)
  change Code.wp _ _ _ _ (((w.alloc (.cells (lgC r) 42)).alloc (.cells (evC v) 27)).alloc (.cells (lgC (z0s 0)) 42))
  rw [← HWA.out]
  go_wp2_with ((with_reducible show sl 11); refine yk (us := evL v) rfl rfl rfl z3d (by rw [z2w, h25]) hcv ?_)
  refine (HFW.out _ hb0).mono ?_
  rintro e w1 ⟨rfl, hb1⟩
  have b2 := HQ2.out _ hb1
  have zr := z2f (HQ0.out _ hb1)
  go_wp2_with (first
   | ((with_reducible show sl 15); refine yk (us := lgL r) rfl rfl rfl z16 (by rw [z0b, h5]) zr ?_)
   | ((with_reducible show sn); refine z05 (vs := lgC r) rfl rfl rfl rfl b2 rfl (by rw [z0b, hsz]) (z2m r) ?_; intro w9 ht9 b9))
  have hbF : Below w.heap.size w w9 := (y9 hb0 hb1).trans (ht9.below _ (by omega))
  exact z2z rfl rfl rfl b9 z16 (by rw [z0b, hsz]) ⟨r, rfl, rfl, HOK.out _ hbF, hbF, fun _ _ ha _ => ha⟩
 have HV2 : Hid (X = if E = 0 then ({ z07 r with events := (z07 r).events ++ [v.e], size := S, tops := T }, 0) else (z07 r, E)) := y8 (by rw [HV.out, if_pos hfo])
 clear HV hfo
 go_enter Tryz.func23, Tryz.ntmps23
 go_upto_region 1 with (refine z21 rfl rfl (z72 _) ?_)
 change Code.wp _ _ _ _ (((w.alloc (.cells (lgC r) 42)).alloc (.cells (evC v) 27)).alloc (.cells (lgC (z0s 0)) 42))
 rw [← HWA.out]
 go_wp2_with ((with_reducible show sl 11); refine yk (us := evL v) rfl rfl rfl z3d (by rw [z2w, h25]) hcv ?_)
 refine (HFW.out _ hb0).mono ?_
 rintro e w1 ⟨rfl, hb1⟩
 go_upto_region 4 with fail
 have HB1 := y8 hb1
 have x2 : ∀ j u, ([.int .i64 r.s, .slice r.tA r.tn r.tc] : List Value)[j]? = some u → w1.cell? ((⟨w.heap.size, 2, none⟩ : Addr).add j) = some u := z4y (xs := lgL r) (HQ0.out _ hb1) 2 _ (fun j u hj => by
  match j, hj with
  | 0, hj => exact hj
  | 1, hj => exact hj
  | j + 2, hj => simp at hj)
 have xv := yh (xs := evL v) (HQ1.out _ hb1)
 replace hb0 := y9 hb0 hb1
 clear c1 hcv hb1
 go_cut [7, 8] (fun v7 v8 wx => ∃ (g7 : Nat) (A : Option Addr) (m c : Nat), v7 = .pointer (some ⟨g7, 0, none⟩) ∧ v8 = .int .i64 E ∧ w1.heap.size ≤ g7 ∧ Blk wx g7 39 (pkC S A m c) ∧ yq wx w1.heap.size (.slice A m c) T ∧ (Value.slice A m c).ownBlock ≠ some g7 ∧ Below w1.heap.size w1 wx)
 case first =>
  have hS : Below w1.heap.size w1 w1.drew := (Below.refl _ _).drew
  refine yp 10 (by kernel_rfl) ?_
  refine WpT.tk 0 hS ?_
  simp only [nrm]
  refine WpT.tl 1 rfl (yv (us := [.int .i64 r.s, .slice r.tA r.tn r.tc]) rfl rfl rfl z5a (by rw [z2q]; rfl) x2) hS ?_
  simp only [nrm]
  refine WpT.tl 2 rfl (yv (us := evL v) rfl rfl rfl z3d (by rw [z2w, h25]) xv) hS ?_
  simp only [nrm]
  refine WpT.fork (i := 3) (j := 9) rfl rfl (by kernel_rfl) (fun K hK => ?_) (fun K hK => ?_)
  ·go_simp; refine (HFC.out _ (y9 hb0 hS)).mono ?_; rintro e w4 ⟨rfl, hb4⟩; (try replace bV := bV.below hb4); replace hS := y9 hS hb4
   refine hK _ _ hS ?_; clear hK K; try simp only [nrm]
   refine WpT.fork (i := 4) (j := 9) rfl rfl (by kernel_rfl) (fun K hK => ?_) (fun K hK => ?_)
   ·go_simp; refine (HLF.out _ (y9 hb0 hS)).mono ?_; rintro e w5 ⟨rfl, hb5⟩; (try replace bV := bV.below hb5); replace hS := y9 hS hb5
    refine hK _ _ hS ?_; clear hK K; try simp only [nrm]
    refine WpT.fork (i := 5) (j := 9) rfl rfl (by kernel_rfl) (fun K hK => ?_) (fun K hK => ?_)
    ·go_simp; refine (HAP.out _ (y9 hb0 hS)).mono ?_; rintro e w6 ⟨A6, m6, c6, rfl, o6, hb6⟩; (try have hne : (Value.slice A6 m6 c6).ownBlock ≠ some gV := fun e => by have := (World.ownsRow.lt o6 _ e).1; have := bV.lt; omega); (try replace bV := bV.below hb6); replace o6 := yq.lower o6 hS.size; replace hS := y9 hS hb6
     refine hK _ _ hS ?_; clear hK K; try simp only [nrm]
     refine WpT.tk 6 hS ?_
     simp only [nrm]
     refine WpT.tk 7 hS ?_
     simp only [nrm]
     refine WpT.tp 8 (hS) ?_
     simp only [nrm]
     refine WpT.on 9 rfl (fun K hK => ?_)
     refine z3h rfl zbe ?_; intro wV gV hgV bV hbV; have hgB : w1.heap.size ≤ gV := (by have := hS.size; omega); (try have hne : (Value.slice A6 m6 c6).ownBlock ≠ some gV := fun e => by have := (World.ownsRow.lt o6 _ e).2; omega); (try replace o6 := o6.below hbV); clear hgV; replace hS := y9 hS hbV
     refine hK _ _ hS ?_; clear hK K; try simp only [nrm]
     refine WpT.ta 10 rfl (fun K hK => ?_)
     refine z02 (vs := pkC S A6 m6 c6) rfl (by rfl) (by rfl) bV rfl (by rw [z2q]; rfl) (z6p _ _ _ _) ?_; intro w13 ht13 b13
     refine hK _ _ ?_; clear hK K; try simp only [nrm]
     refine WpT.ta 11 rfl (fun K hK => ?_)
     go_simp; (try go_bits)
     refine hK _ _ ?_; clear hK K; try simp only [nrm]
     refine WpT.done (by kernel_rfl) ?_ _
     go_wp2_with fail; go_meet; exact ⟨gV, A6, m6, c6, rfl, rfl, hgB, b13, ht13.own o6 hne, hne, hS.trans (ht13.below _ hgB)⟩
    ·refine z3h rfl zbe ?_; intro wV gV hgV bV hbV; have hgB : w1.heap.size ≤ gV := (by have := hS.size; omega); (try have hne : (Value.slice A6 m6 c6).ownBlock ≠ some gV := fun e => by have := (World.ownsRow.lt o6 _ e).2; omega); (try replace o6 := o6.below hbV); clear hgV; replace hS := y9 hS hbV
     refine hK _ _ hS ?_; clear hK K; try simp only [nrm]
     refine WpT.on 5 rfl (fun K hK => ?_)
     go_simp; refine (HAP.out _ (y9 hb0 hS)).mono ?_; rintro e w6 ⟨A6, m6, c6, rfl, o6, hb6⟩; (try have hne : (Value.slice A6 m6 c6).ownBlock ≠ some gV := fun e => by have := (World.ownsRow.lt o6 _ e).1; have := bV.lt; omega); (try replace bV := bV.below hb6); replace o6 := yq.lower o6 hS.size; replace hS := y9 hS hb6
     refine hK _ _ hS ?_; clear hK K; try simp only [nrm]
     refine WpT.tk 6 hS ?_
     simp only [nrm]
     refine WpT.tk 7 hS ?_
     simp only [nrm]
     refine WpT.tp 8 (hS) ?_
     simp only [nrm]
     refine WpT.ta 10 rfl (fun K hK => ?_)
     refine z02 (vs := pkC S A6 m6 c6) rfl (by rfl) (by rfl) bV rfl (by rw [z2q]; rfl) (z6p _ _ _ _) ?_; intro w13 ht13 b13
     refine hK _ _ ?_; clear hK K; try simp only [nrm]
     refine WpT.ta 11 rfl (fun K hK => ?_)
     go_simp; (try go_bits)
     refine hK _ _ ?_; clear hK K; try simp only [nrm]
     refine WpT.done (by kernel_rfl) ?_ _
     go_wp2_with fail; go_meet; exact ⟨gV, A6, m6, c6, rfl, rfl, hgB, b13, ht13.own o6 hne, hne, hS.trans (ht13.below _ hgB)⟩
   ·refine z3h rfl zbe ?_; intro wV gV hgV bV hbV; have hgB : w1.heap.size ≤ gV := (by have := hS.size; omega); (try have hne : (Value.slice A6 m6 c6).ownBlock ≠ some gV := fun e => by have := (World.ownsRow.lt o6 _ e).2; omega); (try replace o6 := o6.below hbV); clear hgV; replace hS := y9 hS hbV
    refine hK _ _ hS ?_; clear hK K; try simp only [nrm]
    refine WpT.on 4 rfl (fun K hK => ?_)
    go_simp; refine (HLF.out _ (y9 hb0 hS)).mono ?_; rintro e w5 ⟨rfl, hb5⟩; (try replace bV := bV.below hb5); replace hS := y9 hS hb5
    refine hK _ _ hS ?_; clear hK K; try simp only [nrm]
    refine WpT.on 5 rfl (fun K hK => ?_)
    go_simp; refine (HAP.out _ (y9 hb0 hS)).mono ?_; rintro e w6 ⟨A6, m6, c6, rfl, o6, hb6⟩; (try have hne : (Value.slice A6 m6 c6).ownBlock ≠ some gV := fun e => by have := (World.ownsRow.lt o6 _ e).1; have := bV.lt; omega); (try replace bV := bV.below hb6); replace o6 := yq.lower o6 hS.size; replace hS := y9 hS hb6
    refine hK _ _ hS ?_; clear hK K; try simp only [nrm]
    refine WpT.tk 6 hS ?_
    simp only [nrm]
    refine WpT.tk 7 hS ?_
    simp only [nrm]
    refine WpT.tp 8 (hS) ?_
    simp only [nrm]
    refine WpT.ta 10 rfl (fun K hK => ?_)
    refine z02 (vs := pkC S A6 m6 c6) rfl (by rfl) (by rfl) bV rfl (by rw [z2q]; rfl) (z6p _ _ _ _) ?_; intro w13 ht13 b13
    refine hK _ _ ?_; clear hK K; try simp only [nrm]
    refine WpT.ta 11 rfl (fun K hK => ?_)
    go_simp; (try go_bits)
    refine hK _ _ ?_; clear hK K; try simp only [nrm]
    refine WpT.done (by kernel_rfl) ?_ _
    go_wp2_with fail; go_meet; exact ⟨gV, A6, m6, c6, rfl, rfl, hgB, b13, ht13.own o6 hne, hne, hS.trans (ht13.below _ hgB)⟩
  ·refine z3h rfl zbe ?_; intro wV gV hgV bV hbV; have hgB : w1.heap.size ≤ gV := (by have := hS.size; omega); (try have hne : (Value.slice A6 m6 c6).ownBlock ≠ some gV := fun e => by have := (World.ownsRow.lt o6 _ e).2; omega); (try replace o6 := o6.below hbV); clear hgV; replace hS := y9 hS hbV
   refine hK _ _ hS ?_; clear hK K; try simp only [nrm]
   refine WpT.on 3 rfl (fun K hK => ?_)
   go_simp; refine (HFC.out _ (y9 hb0 hS)).mono ?_; rintro e w4 ⟨rfl, hb4⟩; (try replace bV := bV.below hb4); replace hS := y9 hS hb4
   refine hK _ _ hS ?_; clear hK K; try simp only [nrm]
   refine WpT.on 4 rfl (fun K hK => ?_)
   go_simp; refine (HLF.out _ (y9 hb0 hS)).mono ?_; rintro e w5 ⟨rfl, hb5⟩; (try replace bV := bV.below hb5); replace hS := y9 hS hb5
   refine hK _ _ hS ?_; clear hK K; try simp only [nrm]
   refine WpT.on 5 rfl (fun K hK => ?_)
   go_simp; refine (HAP.out _ (y9 hb0 hS)).mono ?_; rintro e w6 ⟨A6, m6, c6, rfl, o6, hb6⟩; (try have hne : (Value.slice A6 m6 c6).ownBlock ≠ some gV := fun e => by have := (World.ownsRow.lt o6 _ e).1; have := bV.lt; omega); (try replace bV := bV.below hb6); replace o6 := yq.lower o6 hS.size; replace hS := y9 hS hb6
   refine hK _ _ hS ?_; clear hK K; try simp only [nrm]
   refine WpT.tk 6 hS ?_
   simp only [nrm]
   refine WpT.tk 7 hS ?_
   simp only [nrm]
   refine WpT.tp 8 (hS) ?_
   simp only [nrm]
   refine WpT.ta 10 rfl (fun K hK => ?_)
   refine z02 (vs := pkC S A6 m6 c6) rfl (by rfl) (by rfl) bV rfl (by rw [z2q]; rfl) (z6p _ _ _ _) ?_; intro w13 ht13 b13
   refine hK _ _ ?_; clear hK K; try simp only [nrm]
   refine WpT.ta 11 rfl (fun K hK => ?_)
   go_simp; (try go_bits)
   refine hK _ _ ?_; clear hK K; try simp only [nrm]
   refine WpT.done (by kernel_rfl) ?_ _
   go_wp2_with fail; go_meet; exact ⟨gV, A6, m6, c6, rfl, rfl, hgB, b13, ht13.own o6 hne, hne, hS.trans (ht13.below _ hgB)⟩
 case rest =>
  obtain ⟨g7, A7, m7, c7, rfl, rfl, hg7, b7, o7, hne7, hbw⟩ := hcut
  have zr := z2f ((HQ0.out _ HB1.out).below hbw)
  have b2 := (HQ2.out _ HB1.out).below hbw
  rcases z3i E with ⟨hE, e2, f2, d2⟩ | ⟨hE, e2, f2, d2⟩
  rotate_left
  ·have hX : X = (z07 r, E) := by rw [HV2.out, if_neg hE]
   subst hX
   clear HV2 HFC HLF HAP HFW
   go_wp2_with (first
    | ((with_reducible show sl 28); refine yk (us := lgL r) rfl rfl rfl z16 (by rw [z0b, h5]) zr ?_)
    | ((with_reducible show sn); refine z05 (vs := lgC r) rfl rfl rfl rfl b2 rfl (by rw [z0b, hsz]) (z2m r) ?_; intro w9 ht9 b9))
   have hbF : Below w.heap.size w w9 := (y9 hb0 hbw).trans (ht9.below _ (by omega))
   exact z2z rfl rfl rfl b9 z16 (by rw [z0b, hsz]) ⟨r, rfl, rfl, HOK.out _ hbF, hbF, fun _ _ ha _ => ha⟩
  ·have HX : Hid (X = ({ z07 r with events := (z07 r).events ++ [v.e], size := S, tops := T }, 0)) := y8 (by rw [HV2.out, if_pos hE])
   subst hE
   have HB7 := y8 b7
   have HO7 := y8 o7
   have HW7 := y8 hbw
   have HG7 : Hid (w1.heap.size ≤ g7 ∧ wa.heap.size ≤ g7) := y8 ⟨hg7, by have := HB1.out.size; omega⟩
   have HM7 := y8 (zj3 o7)
   clear HV2 HFC HLF HAP HFW b7 o7 hne7 hg7 x2 xv
   replace hb0 := y9 hb0 hbw
   have HEV := y8 ((HQ1.out _ HB1.out).below hbw)
   have HCH := y8 (fun A W (hbW : Below wc.heap.size wc W) (hfn : Rd W A 1 [.func (.func 71) #[] #[.pointer (some ⟨w.heap.size + 1, 0, none⟩), .pointer (some ⟨g7, 0, none⟩)]]) =>
    zn5 71 (w.heap.size + 1) g7 r A W (za2 r v S A7 m7 c7 T) hfn zol
     (fun W2 g hb2 hgB hblk => zlw r v S A7 m7 c7 T g (w.heap.size + 1) g7 W2 hblk (HEV.out.below (y9 hbW hb2)) (HB7.out.below (y9 hbW hb2))
      (by have := HEV.out.lt; have := hbW.size; omega) (by have := HB7.out.lt; have := hbW.size; omega) (HOK.out _ (y9 hb0 (y9 hbW hb2))).ev.rd hn)
     (fun r' B W g W' hp hgB ht => hp.turned hgB ht))
   clear hbw
   go_wp2_with (first
    | ((with_reducible show sl 30); refine yk (us := lgL r) rfl rfl rfl z16 (by rw [z0b, h5]) zr ?_)
    | ((with_reducible show sl 32); refine zvg rfl rfl rfl (zml _ _ _) ?_; intro w2 gf rf hb2))
   refine (HCH.out _ _ hb2 rf).mono ?_
   rintro e w3 ⟨r', B, rfl, hB, hpost, hb3⟩
   have hb23 := y9 hb2 hb3
   replace b2 := b2.below hb23
   clear zr rf
   obtain ⟨A9, c9, rfl, o9, n9, m9⟩ := hpost
   have HO9 := y8 o9
   have HBB : Hid (wc.heap.size ≤ B ∧ w.heap.size + 1 + 1 < wc.heap.size) := y8 ⟨by have := hb2.size; omega, by have := HW7.out.size; have := HB1.out.size; have := HLT.out; omega⟩
   have HN9 : Hid (r.en + 1 ≤ c9 ∧ c9 ≤ maxLen) := y8 ⟨n9, m9⟩
   clear o9 hB n9 m9 hb2 hb3
   have hbF0 := y9 hb0 hb23
   have HO7' := y8 (HO7.out.below hb23)
   clear hb23
   go_wp2_with ((with_reducible show sn); refine z05 (vs := lgC { r with eA := A9, en := r.en + 1, ec := c9, es := r.es ++ [v], s := S, tA := A7, tn := m7, tc := c7, ts := T }) rfl rfl rfl rfl b2 rfl (by rw [z0b, hsz]) (z2m _) ?_; intro w9 ht9 b9)
   have hbF : Below w.heap.size w w9 := hbF0.trans (ht9.below _ (by omega))
   have hO9 := ht9.own HO9.out (fun e => by have := (World.ownsRow.lt HO9.out _ e).1; have := HBB.out; omega)
   have hO7 : yq w9 w1.heap.size (.slice A7 m7 c7) T := ht9.own HO7'.out (fun e => by have := (World.ownsRow.lt HO7'.out _ e).1; have := HB1.out.size; have := HLT.out; omega)
   refine z2z rfl rfl rfl b9 z16 (by rw [z0b, hsz]) ?_
   rw [HX.out]
   refine ⟨_, rfl, zq5 r v S A9 A7 (r.en + 1) c9 m7 c7 T, ?_, hbF, fun g hg ha hv => ⟨by
    rcases hg with hg | hg
    ·exact zce hO9 (by have := HBB.out; omega)
    ·exact (zet hO9).away hg, by
    rcases hg with hg | hg
    ·exact zce hO7 (by have := HB1.out.size; have := HLT.out; omega)
    ·exact (zet hO7).away hg, ha.hd, fun x hx => by
    rcases List.mem_append.1 hx with hx | hx
    ·exact ha.es x hx
    ·rw [List.mem_singleton.1 hx]; exact hv⟩⟩
   have hk := HOK.out _ hbF
   obtain ⟨A7', c7', he7, k1, k2, k3⟩ := yq.formN hO7 HM7.out.symm
   injection he7 with i1 i2 i3
   subst i1
   subst i3
   exact ⟨⟨by simp [hel.out], by rw [List.flatMap_append]; simpa using zj4 hO9, fun x hx => by
    rcases List.mem_append.1 hx with hx | hx
    ·exact hk.ev.ok x hx
    ·rw [List.mem_singleton.1 hx]; exact HVK.out _ hbF⟩, HN9.out.1, HN9.out.2, k3, k1, k2, HLL.out, hk.hd, hk.hc, hk.hm, hk.hl⟩
theorem zk9 {P : Program} {fn : Func} {R : Ending → World → Prop} {a : Act} {w : World} {g g2 : Nat} {t t2 : TypeId} {cs cs2 : Array Value} {p p2 q : Tmp} {ty ty2 : TypeId}
  (h : fn.results = #[.cell p ty, .cell p2 ty2, .tmp q]) (hd : a.defers = []) (hp : a.tmps.getD p undef = .pointer (some ⟨g, 0, none⟩)) (hp2 : a.tmps.getD p2 undef = .pointer (some ⟨g2, 0, none⟩)) (hb : Blk w g t cs) (hb2 : Blk w g2 t2 cs2)
  (hu : (P.underlying ty).map z04 = some true) (hi : (P.info? ty).map (·.size) = some cs.size) (hu2 : (P.underlying ty2).map z04 = some true) (hi2 : (P.info? ty2).map (·.size) = some cs2.size) (hR : R (.returned (.tuple #[.agg cs, .agg cs2, a.tmps.getD q undef])) w) : bodyPost P fn R .ret a w := by
 refine bodyPost_ret ?_ hd hR
 have hp' : a.tmps[p]?.getD undef = .pointer (some ⟨g, 0, none⟩) := by simpa using hp
 have hp2' : a.tmps[p2]?.getD undef = .pointer (some ⟨g2, 0, none⟩) := by simpa using hp2
 simp [results, h, hp', hp2', asAddr, z5k w g t ty cs hb hu hi, z5k w g2 t2 ty2 cs2 hb2 hu2 hi2]
theorem zuj {nd : Nat → Nat → Nat} {em : Nat} (N : Nds nd em) (tl : List Nat) (hl : ∀ y ∈ tl, y < 2 ^ 128) : z64 nd em tl < 2 ^ 128 := by
 rcases List.eq_nil_or_concat tl with rfl | ⟨l, x, rfl⟩
 ·exact N.lt0
 ·rw [List.concat_eq_append, zff]
  exact zho N.lt x (hl x (by simp)) l
theorem zuk {nd : Nat → Nat → Nat} {em : Nat} (N : Nds nd em) (s : Int) (tl : List Nat) (hl : ∀ y ∈ tl, y < 2 ^ 128) : (z3g nd em s tl).1 < 2 ^ 128 := by
 unfold z3g
 split
 ·exact zuj N tl hl
 ·decide
theorem zpp (l : List EvR) (hf : z5n l) : -9223372036854775808 ≤ z20 (yg l) ∧ z20 (yg l) ≤ 9223372036854775807 := by
 rcases Nat.eq_zero_or_pos l.length with h | h
 ·have : l = [] := List.eq_nil_of_length_eq_zero h
  subst this
  exact ⟨by decide, by decide⟩
 ·rw [zi2 l h]
  have := (hf _ (List.getElem_mem (show l.length - 1 < l.length by omega))).1.nums
  exact this _ (by simp)
theorem zgm (o c d : Int) (rt : Nat) (s : Int) (W : World) : (Instr.build 51 #[(0, .int .i64 o), (1, .int .i64 c), (2, .int .i64 d), (3, dgV rt), (4, .int .i64 s)]).run Tryz.prog W = .ok (hdV ⟨o, c, d, rt, s, 0⟩) W := by kernel_rfl
theorem zmc (W : World) : (Instr.build 51 #[]).run Tryz.prog W = .ok (hdV z3a) W := by kernel_rfl
theorem zll {P : Program} {ops : Array Oper} {S : World → Prop} {o : Oper} {a : Act} {T : TypeId} {i j k l m : Nat} {x y z u t : Operand} {vx vy vz vu vt v : Value} (ho : o.op = .build T #[(i, x), (j, y), (k, z), (l, u), (m, t)]) (hgd : o.guard = none) (hx : a.eval x = vx) (hy : a.eval y = vy) (hz : a.eval z = vz) (hu : a.eval u = vu) (ht : a.eval t = vt) (h : ∀ W, (Instr.build T #[(i, vx), (j, vy), (k, vz), (l, vu), (m, vt)]).run P W = .ok v W) : YieldsIf P ops S o v a := by
 refine .inl ⟨by simp [Region.wanted, hgd], fun w hS => ?_⟩
 unfold execOp
 simp only [ho, List.map_toArray, List.map_cons, List.map_nil, hx, hy, hz, hu, ht, Sem.run_bind, h, Result.andThen_ok, Sem.run_pure]
theorem zpe (h : Hd) (b : Nat) : ((hdC h).toList.take 20 ++ bv (dg b) ++ (hdC h).toList.drop (20 + (bv (dg b)).length)).toArray = hdC { h with sig := b } := by
 have e : (hdC h).toList.drop (20 + (bv (dg b)).length) = [] := List.drop_eq_nil_of_le (by rw [yf]; show (hdL h).length ≤ 36; rw [z1k]; omega)
 rw [e, List.append_nil]
 have h2 : (hdC h).toList.take 20 = [.int .i64 h.office, .int .i64 h.commit, .int .i64 h.day] ++ bv (dg h.root) ++ [.int .i64 h.serial] := by
  show (hdL h).take 20 = _
  unfold hdL
  rw [List.take_append_of_le_length (by simp only [List.length_append, yf]; simp), List.take_of_length_le (by simp only [List.length_append, yf]; simp)]
 rw [h2]
 rfl
theorem zmk (p : Nat) (W : World) : (Instr.buildSlice 159 1 #[(0, .func (.func 77) #[] #[.pointer (some ⟨p, 0, none⟩)])]).run Tryz.prog W = .ok (.slice (some ⟨W.heap.size, 0, none⟩) 1 1) (W.alloc (.cells #[.func (.func 77) #[] #[.pointer (some ⟨p, 0, none⟩)]] 160)) := by kernel_rfl
theorem zvp {w : World} {o : Oper} {a : Act} {K : Act → World → Prop} {Q : Exit → Act → World → Prop} {T e : TypeId} {y : Operand} {v : Value} (ho : o.op = .buildSlice T 1 #[(0, y)]) (hy : a.eval y = v)
  (hb : ∀ W : World, (Instr.buildSlice T 1 #[(0, v)]).run Tryz.prog W = .ok (.slice (some ⟨W.heap.size, 0, none⟩) 1 1) (W.alloc (.cells #[v] e)))
  (h : ∀ w' g, Rd w' (some ⟨g, 0, none⟩) 1 [v] → Below w.heap.size w w' → K (a.put o.dst (.slice (some ⟨g, 0, none⟩) 1 1)) w') : o.wp Tryz.prog a w K Q := by
 have h2 := h _ _ (Rd.new1 w v e) ((Below.refl _ _).alloc (Nat.le_refl _) _)
 unfold Oper.wp execOp
 simp only [ho, List.map_toArray, List.map_cons, List.map_nil, hy, hb, Sem.run_bind, Result.andThen_ok, Sem.run_pure]
 exact h2
theorem zom (args : Array Value) (W : World) : (callFunc 77 args).run Tryz.prog W = .ok (.enter 77 args) W := by kernel_rfl
theorem zq6 (r : LgR) (h : Hd) (A : Option Addr) (n c : Nat) : z07 { r with hA := A, hn := n, hc := c, hs := r.hs ++ [h] } = { z07 r with heads := (z07 r).heads ++ [h] } := by simp [z07]
def z8i (r0 : LgR) (p : Lg × Hd × Int) (w : World) (e : Ending) (w' : World) : Prop := ∃ r : LgR, e = .returned (.tuple #[lgV r, hdV p.2.1, .int .i64 p.2.2]) ∧ z07 r = p.1 ∧ z0w w' r ∧ z0e p.2.1 ∧ Below w.heap.size w w' ∧ (∀ g, (g < w.heap.size ∨ w'.heap.size ≤ g) → z1e g r0 → z1e g r)
theorem bx4 (w : World) (c1 c2 c3 c4 : Array Value) (t1 t2 t3 t4 : TypeId) : ∃ wa : World, wa = (((w.alloc (.cells c1 t1)).alloc (.cells c2 t2)).alloc (.cells c3 t3)).alloc (.cells c4 t4) ∧ Below w.heap.size w wa ∧ Blk wa w.heap.size t1 c1 ∧ Blk wa (w.heap.size + 1) t2 c2 ∧ Blk wa (w.heap.size + 1 + 1) t3 c3 ∧ Blk wa (w.heap.size + 1 + 1 + 1) t4 c4 := by
 obtain ⟨wx, hwx, hb, q1, q2, q3⟩ := bx3 w c1 c2 c3 t1 t2 t3
 subst hwx
 exact ⟨_, rfl, hb.alloc hb.size _, q1.alloc _, q2.alloc _, q3.alloc _, by
  have := Blk.new (((w.alloc (.cells c1 t1)).alloc (.cells c2 t2)).alloc (.cells c3 t3)) t4 c4
  simpa using this⟩
theorem zty {H : He} (L : Les H) (r : LgR) (k : Key) (w : World) (h : z0w w r) (hn : r.en ≤ 1000000) (hhn : r.hn ≤ 1000000) (htn : r.tn ≤ 1000) (hf : z5n r.es) (hk : WfK k) (hks : k.secret.size ≤ 65536) (ho : 0 ≤ r.o ∧ r.o < 32) (hg : GCon w) :
  Calls Tryz.prog 24 #[lgV r, z0v k] w (z8i r (z6u H (z07 r) k) w) := by
 obtain ⟨wa, hwa, hb0, q0, q1, q2, q3⟩ := bx4 w (lgC r) (z0p k) (lgC (z0s 0)) (hdC z3a) 42 44 42 51
 have HWA := y8 hwa
 have HQ0 := y8 (fun W (h : Below wa.heap.size wa W) => q0.below h)
 have HQ1 := y8 (fun W (h : Below wa.heap.size wa W) => q1.below h)
 have HQ2 := y8 (fun W (h : Below wa.heap.size wa W) => q2.below h)
 have HQ3 := y8 (fun W (h : Below wa.heap.size wa W) => q3.below h)
 have HLT : Hid (w.heap.size + 1 + 1 + 1 < wa.heap.size) := y8 q3.lt
 have HOK := y8 (fun W (hb : Below w.heap.size w W) => h.below hb)
 have HM := y8 (fun W => zik k r.o W hk ho.1 ho.2)
 have HTP := y8 (fun W (hb : Below w.heap.size w W) => zul L.nds r.s r.tA r.tn r.tc r.ts W htn (h.below hb).tp h.tc h.tm (hg.below hb))
 have HDY := y8 (fun W (hb : Below w.heap.size w W) => zh6 r r.en W (h.below hb) (Nat.le_refl _) hn)
 have hdf := zpp r.es hf
 have HLD : Hid (z2j (yg r.es) r.en = z20 (yg r.es)) := y8 (by unfold z20; rw [z3s, h.ev.len])
 have htl := zuk L.nds r.s r.ts h.tl
 have hsgl := L.hlt k.secret r.o (r.en : Int) (z20 (yg r.es)) k.serial (z3g H.nd H.em r.s r.ts).1
 have HV : Hid (z6u H (z07 r) k = if z4g k r.o = true then ({ z07 r with heads := (z07 r).heads ++ [⟨r.o, (r.en : Int), z20 (yg r.es), (z3g H.nd H.em r.s r.ts).1, k.serial, H.sh k.secret r.o (r.en : Int) (z20 (yg r.es)) k.serial (z3g H.nd H.em r.s r.ts).1⟩] }, ⟨r.o, (r.en : Int), z20 (yg r.es), (z3g H.nd H.em r.s r.ts).1, k.serial, H.sh k.secret r.o (r.en : Int) (z20 (yg r.es)) k.serial (z3g H.nd H.em r.s r.ts).1⟩, 0) else (z07 r, z3a, 1)) := y8 (by
  unfold z6u ze9
  rw [show (z07 r).events = yg r.es from rfl, z3s, h.ev.len]
  rfl)
 rw [HLD.out] at HDY
 generalize z20 (yg r.es) = LD at *
 generalize hTR : z3g H.nd H.em r.s r.ts = TR at *
 have HSR : Hid (z0x [r.o, (r.en : Int), LD, k.serial]) := y8 (by
  have := wf64 hk.serial
  intro x hx
  simp only [List.mem_cons, List.not_mem_nil, or_false] at hx
  rcases hx with rfl | rfl | rfl | rfl <;> omega)
 have HPT := y8 (fun W => zhv ⟨r.o, (r.en : Int), LD, TR.1, k.serial, 0⟩ W HSR.out)
 have HMK := y8 (fun A W (hb : Below w.heap.size w W) (hr : Rd W A 2 (sv (z2l r.o (r.en : Int) LD k.serial TR.1))) => L.makeH k r.o (r.en : Int) LD k.serial TR.1 A 2 2 W (by omega) hks hr (hg.below hb))
 have h5 := z7f r
 have hsz : ∀ r' : LgR, (lgC r').size = 5 := z4x
 have hsh : ∀ h' : Hd, (hdC h').size = 36 := z4u
 have h36 := z1k
 have c0 := z95 q0
 have hck := yh (xs := kv k) q1
 have hel := y8 h.hd.len
 clear hwa q0 q1 q2 q3 h hf hk hg L hTR
 generalize z6u H (z07 r) k = X at *
 unfold BIs at HM
 unfold z41 at HPT
 unfold isD at HMK
 generalize z4g k r.o = M at *
 obtain ⟨RT, TE⟩ := TR
 dsimp only at HTP htl hsgl HV HPT HMK
 generalize H.sh k.secret r.o (r.en : Int) LD k.serial RT = SG at *
 generalize z2l r.o (r.en : Int) LD k.serial RT = PT at *
 cases M with
 | false =>
  have hX : X = (z07 r, z3a, 1) := by rw [HV.out]; rfl
  subst hX
  clear HV HTP HDY HPT HMK
  go_enter Tryz.func24, Tryz.ntmps24
  go_upto_region 1 with (first
   | ((with_reducible show sl 4); refine z21 rfl rfl (z72 _) ?_)
   | ((with_reducible show sl 5); refine z21 rfl rfl (z4q _) ?_))
  change Code.wp _ _ _ _ ((((w.alloc (.cells (lgC r) 42)).alloc (.cells (z0p k) 44)).alloc (.cells (lgC (z0s 0)) 42)).alloc (.cells (hdC z3a) 51))
  rw [← HWA.out]
  go_wp2_with ((with_reducible show sl 11); refine z4o rfl rfl rfl hck ?_)
  refine (HM.out _).mono ?_
  rintro e w1 ⟨rfl, hb1⟩
  have b2 := HQ2.out _ hb1
  have b3 := HQ3.out _ hb1
  have zr := z2f (HQ0.out _ hb1)
  go_wp2_with (first
   | ((with_reducible show sl 16); refine yk (us := lgL r) rfl rfl rfl z16 (by rw [z0b, h5]) zr ?_)
   | ((with_reducible show sl 17); refine z48 rfl rfl zmc ?_)
   | ((with_reducible show sn); refine z05 (vs := lgC r) rfl rfl rfl rfl b2 rfl (by rw [z0b, hsz]) (z2m r) ?_; intro w8 ht8 b8; replace b3 := ht8.blk b3 (by omega))
   | ((with_reducible show sn); refine z05 (vs := hdC z3a) rfl rfl rfl rfl b3 rfl (by rw [yl, hsh]) (z4j _) ?_; intro w9 ht9 b9; replace b8 := ht9.blk b8 (by omega)))
  have hbF : Below w.heap.size w w9 := ((y9 hb0 hb1).trans (ht8.below _ (by omega))).trans (ht9.below _ (by omega))
  exact zk9 rfl rfl rfl rfl b8 b9 z16 (by rw [z0b, hsz]) yo (by rw [yl, hsh]) ⟨r, rfl, rfl, HOK.out _ hbF, z0e.zero, hbF, fun _ _ ha => ha⟩
 | true =>
  have HX : Hid (X = ({ z07 r with heads := (z07 r).heads ++ [⟨r.o, (r.en : Int), LD, RT, k.serial, SG⟩] }, ⟨r.o, (r.en : Int), LD, RT, k.serial, SG⟩, 0)) := y8 (by rw [HV.out, if_pos rfl])
  clear HV
  go_enter Tryz.func24, Tryz.ntmps24
  go_upto_region 1 with (first
   | ((with_reducible show sl 4); refine z21 rfl rfl (z72 _) ?_)
   | ((with_reducible show sl 5); refine z21 rfl rfl (z4q _) ?_))
  change Code.wp _ _ _ _ ((((w.alloc (.cells (lgC r) 42)).alloc (.cells (z0p k) 44)).alloc (.cells (lgC (z0s 0)) 42)).alloc (.cells (hdC z3a) 51))
  rw [← HWA.out]
  go_wp2_with ((with_reducible show sl 11); refine z4o rfl rfl rfl hck ?_)
  refine (HM.out _).mono ?_
  rintro e w1 ⟨rfl, hb1⟩
  have x1 := z6m (HQ0.out _ hb1)
  have x2 : ∀ j u, ([.int .i64 r.s, .slice r.tA r.tn r.tc] : List Value)[j]? = some u → w1.cell? ((⟨w.heap.size, 2, none⟩ : Addr).add j) = some u := z4y (xs := lgL r) (HQ0.out _ hb1) 2 _ (fun j u hj => by
   match j, hj with
   | 0, hj => exact hj
   | 1, hj => exact hj
   | j + 2, hj => simp at hj)
  go_wp2_with ((with_reducible show sl 23); refine yk (us := [.int .i64 r.s, .slice r.tA r.tn r.tc]) rfl rfl rfl z5a (by rw [z2q]; rfl) x2 ?_)
  refine (HTP.out _ (y9 hb0 hb1)).mono ?_
  rintro e w2 ⟨rfl, hb2⟩
  go_upto_region 5 with ((with_reducible show sl 8); refine z6x (n := RT) rfl rfl rfl rfl (fun _ => rfl) (fun _ => rfl) ?_; intro w3 g8 hg8 b8 hb3; clear hg8)
  have HB3 := y8 (y9 hb1 (y9 hb2 hb3))
  have y0 := z95 (HQ0.out _ HB3.out)
  have yr := z2f (HQ0.out _ HB3.out)
  have ys := zi0 (HQ1.out _ HB3.out)
  have hc8 := yh (xs := bv (dg RT)) b8
  replace hb0 := y9 hb0 HB3.out
  clear c0 hck x1 x2 hb1 hb2 hb3 b8 HTP HM
  go_cut [10] (fun v10 wx => ∃ g, v10 = .pointer (some ⟨g, 0, none⟩) ∧ w3.heap.size ≤ g ∧ Blk wx g 51 (hdC ⟨r.o, (r.en : Int), LD, RT, k.serial, 0⟩) ∧ Below w3.heap.size w3 wx)
  case first =>
   have hS : Below w3.heap.size w3 w3.drew := (Below.refl _ _).drew
   refine yp 11 (by kernel_rfl) ?_
   refine WpT.tk 0 hS ?_
   simp only [nrm]
   refine WpT.tl 1 rfl (ye rfl rfl rfl (by kernel_rfl) y0) hS ?_
   simp only [nrm]
   refine WpT.tk 2 hS ?_
   simp only [nrm]
   refine WpT.tl 3 rfl (yv (us := lgL r) rfl rfl rfl z16 (by rw [z0b, h5]) yr) hS ?_
   simp only [nrm]
   refine WpT.tk 4 hS ?_
   simp only [nrm]
   refine WpT.tl 6 rfl (yv (us := bv (dg RT)) rfl rfl rfl yc (by rw [yb, yf]) hc8) hS ?_
   simp only [nrm]
   refine WpT.tk 7 hS ?_
   simp only [nrm]
   refine WpT.tl 8 rfl (ye rfl rfl rfl (by kernel_rfl) ys) hS ?_
   simp only [nrm]
   refine WpT.fork (i := 5) (j := 10) rfl rfl (by kernel_rfl) (fun K hK => ?_) (fun K hK => ?_)
   ·go_simp; refine (HDY.out _ (y9 hb0 hS)).mono ?_; rintro e w4 ⟨rfl, hb4⟩; (try replace bV := bV.below hb4); replace hS := y9 hS hb4
    refine hK _ _ hS ?_; clear hK K; try simp only [nrm]
    refine WpT.tl 9 rfl (zll rfl rfl (by rfl) (by rfl) (by rfl) (by rfl) (by rfl) (zgm r.o (r.en : Int) LD RT k.serial)) hS ?_
    simp only [nrm]
    refine WpT.on 10 rfl (fun K hK => ?_)
    refine z3h rfl z4q ?_; intro wV gV hgV bV hbV; have hgB : w3.heap.size ≤ gV := (by have := hS.size; omega); clear hgV; replace hS := y9 hS hbV
    refine hK _ _ hS ?_; clear hK K; try simp only [nrm]
    refine WpT.ta 11 rfl (fun K hK => ?_)
    refine z02 (vs := hdC ⟨r.o, (r.en : Int), LD, RT, k.serial, 0⟩) rfl (by rfl) (by rfl) bV (by rw [hsh, hsh]) (by rw [yl, hsh]) (z4j _) ?_; intro w13 ht13 b13
    refine hK _ _ ?_; clear hK K; try simp only [nrm]
    refine WpT.done (by kernel_rfl) ?_ _
    go_wp2_with fail; go_meet; exact ⟨gV, rfl, hgB, b13, hS.trans (ht13.below _ hgB)⟩
   ·refine z3h rfl z4q ?_; intro wV gV hgV bV hbV; have hgB : w3.heap.size ≤ gV := (by have := hS.size; omega); clear hgV; replace hS := y9 hS hbV
    refine hK _ _ hS ?_; clear hK K; try simp only [nrm]
    refine WpT.on 5 rfl (fun K hK => ?_)
    go_simp; refine (HDY.out _ (y9 hb0 hS)).mono ?_; rintro e w4 ⟨rfl, hb4⟩; (try replace bV := bV.below hb4); replace hS := y9 hS hb4
    refine hK _ _ hS ?_; clear hK K; try simp only [nrm]
    refine WpT.tl 9 rfl (zll rfl rfl (by rfl) (by rfl) (by rfl) (by rfl) (by rfl) (zgm r.o (r.en : Int) LD RT k.serial)) hS ?_
    simp only [nrm]
    refine WpT.ta 11 rfl (fun K hK => ?_)
    refine z02 (vs := hdC ⟨r.o, (r.en : Int), LD, RT, k.serial, 0⟩) rfl (by rfl) (by rfl) bV (by rw [hsh, hsh]) (by rw [yl, hsh]) (z4j _) ?_; intro w13 ht13 b13
    refine hK _ _ ?_; clear hK K; try simp only [nrm]
    refine WpT.done (by kernel_rfl) ?_ _
    go_wp2_with fail; go_meet; exact ⟨gV, rfl, hgB, b13, hS.trans (ht13.below _ hgB)⟩
  case rest =>
   obtain ⟨g10, rfl, hg10, b10, hbw⟩ := hcut
   have hck2 := yh (xs := kv k) ((HQ1.out _ HB3.out).below hbw)
   have hch := yh (xs := hdL ⟨r.o, (r.en : Int), LD, RT, k.serial, 0⟩) b10
   have HB4 := y8 (y9 HB3.out hbw)
   have HG10 : Hid (wa.heap.size ≤ g10 ∧ w3.heap.size ≤ g10) := y8 ⟨by have := HB3.out.size; omega, hg10⟩
   replace hb0 := y9 hb0 hbw
   have hsk : (kv k).length = 5 := rfl
   have h36' := h36 ⟨r.o, (r.en : Int), LD, RT, k.serial, 0⟩
   have HBW := y8 hbw
   clear y0 yr ys hc8 hg10 hbw
   go_upto_region 6 with fail
   have hS : Below wc.heap.size wc wc.drew := (Below.refl _ _).drew
   refine yp 5 (by kernel_rfl) ?_
   refine WpT.tl 0 rfl (yv (us := kv k) rfl rfl rfl z76 (by rw [z88, hsk]) hck2) hS ?_
   simp only [nrm]
   refine WpT.tl 1 rfl (yv (us := hdL ⟨r.o, (r.en : Int), LD, RT, k.serial, 0⟩) rfl rfl rfl yo (by rw [yl, h36']) hch) hS ?_
   simp only [nrm]
   refine WpT.on 2 rfl (fun K hK => ?_)
   go_simp; refine (HPT.out _).mono ?_; rintro e w4 ⟨B4, rfl, r4, hb4⟩; replace hS := y9 hS hb4
   refine hK _ _ hS ?_; clear hK K; try simp only [nrm]
   refine WpT.on 3 rfl (fun K hK => ?_)
   go_simp; refine (HMK.out _ _ (y9 hb0 hS) r4).mono ?_; rintro e w5 ⟨rfl, hb5⟩; replace hS := y9 hS hb5
   refine hK _ _ hS ?_; clear hK K; try simp only [nrm]
   refine WpT.tp 4 (hS) ?_
   simp only [nrm]
   refine WpT.ta 5 rfl (fun K hK => ?_)
   refine zbc (vs := bv (dg SG)) rfl (by rfl) (by rfl) (b10.below hS) (by rw [yf, hsh]; omega) (by rw [z9p, yf]) (z7g _) (zpe _ _) ?_; intro w9 ht9 b9
   refine hK _ _ ?_; clear hK K; try simp only [nrm]
   refine WpT.done (by kernel_rfl) ?_ _
   skip
   have HB9 : Hid (Below wa.heap.size wa w9) := y8 ((y9 HB4.out hS).trans (ht9.below _ HG10.out.1))
   have hb9 : Below w.heap.size w w9 := hb0.trans ((hS.mono hb0.size).trans (ht9.below _ (by have := HG10.out; have := HBW.out.size; have := hb0.size; have := HB4.out.size; have := HLT.out; omega)))
   clear hS ht9 b10 hck2 hch r4 hb4 hb5 HPT HMK HDY
   have H9 := y8 b9
   have zr := z2f (HQ0.out _ HB9.out)
   have HLTg : Hid (g10 < w9.heap.size ∧ w.heap.size + 1 + 1 + 1 < w9.heap.size) := y8 ⟨b9.lt, by have := HLT.out; have := HB9.out.size; omega⟩
   obtain ⟨NH, hNH⟩ : ∃ x : Hd, x = ⟨r.o, (r.en : Int), LD, RT, k.serial, SG⟩ := ⟨_, rfl⟩
   have HLh : Hid (z0e NH) := y8 (by rw [hNH]; exact ⟨htl, hsgl⟩)
   rw [← hNH] at HX
   have HCH := y8 (fun A W (hbW : Below w9.heap.size w9 W) (hfn : Rd W A 1 [.func (.func 77) #[] #[.pointer (some ⟨g10, 0, none⟩)]]) =>
    zn4 77 g10 r A W (za5 r NH) hfn zom
     (fun W2 g hb2 hgB hblk => ztx r NH g g10 W2 hblk (by rw [hNH]; exact H9.out.below (y9 hbW hb2)) (HOK.out _ (y9 hb9 (y9 hbW hb2))).hd.rd hhn)
     (fun r' B W g W' hp hgB ht => hp.turned hgB ht))
   have hch9 : ∀ W, Tk (w.heap.size + 1 + 1) w9 W → ∀ j u, (hdL NH)[j]? = some u → W.cell? ((⟨g10, 0, none⟩ : Addr).add j) = some u := fun W hW => yh (xs := hdL NH) (hW.blk (by rw [hNH]; exact H9.out) (by have := HG10.out; have := HLT.out; omega))
   have hlg9 : ∀ W, Tk (w.heap.size + 1 + 1) w9 W → ∀ j u, (lgL r)[j]? = some u → W.cell? ((⟨w.heap.size, 0, none⟩ : Addr).add j) = some u := fun W hW => z2f (hW.blk (HQ0.out _ HB9.out) (by omega))
   have hmf : ∀ (fn : Fn) (first cap : Array Value) (w : World), (Instr.makeFunc fn first cap).run Tryz.prog w = .ok (.func fn first cap) w := fun _ _ _ _ => rfl
   have h36n := h36 NH
   clear b9 zr hNH htl hsgl
   go_upto_region 7 with fail
   have hS : Below w9.heap.size w9 w9.drew := (Below.refl _ _).drew
   have b2 := HQ2.out _ HB9.out
   have b3 := HQ3.out _ HB9.out
   refine z1w (S := (Tk (w.heap.size + 1 + 1) w9)) 6 (by kernel_rfl) ?_
   refine WpT.tl 0 rfl (zd8 (us := lgL r) rfl rfl rfl z16 (by rw [z0b, h5]) hlg9) (Tk.of hS) ?_
   simp only [nrm]
   refine WpT.tk 1 (Tk.of hS) ?_
   simp only [nrm]
   refine WpT.tl 4 rfl (zd8 (us := hdL NH) rfl rfl rfl yo (by rw [yl, h36n]) hch9) (Tk.of hS) ?_
   simp only [nrm]
   refine WpT.on 2 rfl (fun K hK => ?_)
   refine zvp rfl (by rfl) (zmk g10) ?_; intro w2 gf rf hb2; replace hS := y9 hS hb2
   refine hK _ _ (Tk.of hS) ?_; clear hK K; try simp only [nrm]
   refine WpT.on 3 rfl (fun K hK => ?_)
   go_simp; refine (HCH.out _ _ hS rf).mono ?_; rintro e w4 ⟨r', B, rfl, hB, hpost, hb4⟩; obtain ⟨A9, c9, rfl, o9, n9, m9⟩ := hpost; have hB9 : w9.heap.size ≤ B := (by have := hS.size; omega); replace hS := y9 hS hb4
   refine hK _ _ (Tk.of hS) ?_; clear hK K; try simp only [nrm]
   refine WpT.on 5 rfl (fun K hK => ?_)
   refine z02 (vs := lgC { r with hA := A9, hn := r.hn + 1, hc := c9, hs := r.hs ++ [NH] }) rfl (by rfl) (by rfl) (b2.below hS) (by rw [hsz, hsz]) (by rw [z0b, hsz]) (z2m _) ?_; intro w12 ht12 b12; have b3' := ht12.blk (b3.below hS) (by omega)
   refine hK _ _ (Tk.turn hS ht12) ?_; clear hK K; try simp only [nrm]
   refine WpT.ta 6 rfl (fun K hK => ?_)
   refine z02 (vs := hdC NH) rfl (by rfl) (by rfl) b3' (by rw [hsh, hsh]) (by rw [yl, hsh]) (z4j _) ?_; intro w13 ht13 b13
   refine hK _ _ ?_; clear hK K; try simp only [nrm]
   refine WpT.ta 7 rfl (fun K hK => ?_)
   go_simp; (try go_bits)
   refine hK _ _ ?_; clear hK K; try simp only [nrm]
   refine WpT.done (by kernel_rfl) ?_ _
   skip
   go_wp2_with fail
   have hbF : Below w.heap.size w w13 := ((y9 hb9 hS).trans (ht12.below _ (by omega))).trans (ht13.below _ (by omega))
   have hne : ∀ g, g < w9.heap.size → (Value.slice A9 (r.hn + 1) c9).ownBlock ≠ some g := fun g hg e => by have := (World.ownsRow.lt o9 _ e).1; omega
   have hO9 := ht13.own (ht12.own o9 (hne _ (by have := HLTg.out; omega))) (hne _ (by have := HLTg.out; omega))
   refine zk9 rfl rfl rfl rfl (ht13.blk b12 (by omega)) b13 z16 (by rw [z0b, hsz]) yo (by rw [yl, hsh]) ?_
   rw [HX.out]
   refine ⟨_, rfl, zq6 r NH A9 (r.hn + 1) c9, ?_, HLh.out, hbF, fun g hg ha => ⟨ha.ev, ha.tp, by
    rcases hg with hg | hg
    ·exact zce hO9 (by have := HLTg.out; have := hb9.size; omega)
    ·exact (zet hO9).away hg, ha.es⟩⟩
   have hk := HOK.out _ hbF
   exact ⟨hk.ev, hk.ec, hk.em, hk.tp, hk.tc, hk.tm, hk.tl, ⟨by simp [hel.out], by rw [List.flatMap_append]; simpa using zj4 hO9⟩, n9, m9, fun x hx => by
    rcases List.mem_append.1 hx with hx | hx
    ·exact hk.hl x hx
    ·rw [List.mem_singleton.1 hx]; exact HLh.out⟩
theorem zoq (a b : List Nat) (A : Option Addr) (n c : Nat) (B : Option Addr) (m d : Nat) (w : World) (ha : RdD w A n a) (hb : RdD w B m b) (hn : n ≤ 1000000) (hm : m ≤ 1000000) (wa : ∀ x ∈ a, x < 2 ^ 128) (wb : ∀ x ∈ b, x < 2 ^ 128) :
  Calls Tryz.prog 69 #[.slice A n c, .slice B m d] w fun e w' => e = .returned (.bool (decide (a = b))) ∧ Below w.heap.size w w' := by
 have HA := y8 ha
 have HB := y8 hb
 have HLA := y8 ha.len
 have HLB := y8 hb.len
 have WA := y8 wa
 have WB := y8 wb
 clear wa wb
 by_cases hnm : n = m
 ·subst hnm
  have HX := y8 (fun (h : ∀ j (hj : j < a.length) (hj2 : j < b.length), a[j] = b[j]) => (show decide (a = b) = true by
   rw [decide_eq_true_eq]; exact List.ext_getElem (by rw [ha.len, hb.len]) (fun i h1 h2 => h i h1 h2)))
  have HY := y8 (fun k (h1 : k < a.length) (h2 : k < b.length) (h : a[k] ≠ b[k]) => zog h1 h2 h)
  generalize decide (a = b) = V at *
  clear ha hb
  have dn : ((n : Int) != n) = false := by simp
  go_enter Tryz.func69, Tryz.ntmps69
  go_wp2_with fail
  go_loopw [13] (fun vk wr => ∃ k : Nat, k ≤ n ∧ vk = .int .i64 k ∧ Below w.heap.size w wr ∧ Hid (∀ j (hj : j < a.length) (hj2 : j < b.length), j < k → a[j] = b[j])) (fun vk _ => n - (intOf vk).toNat)
  case atStart => exact ⟨0, Nat.zero_le _, rfl, Below.refl _ _, y8 (fun j hj hj2 h => by omega)⟩
  case round =>
   obtain ⟨k, hk, rfl, hbw, HV⟩ := hrel
   by_cases hlt : k < n
   ·have hka : k < a.length := by have := HLA.out; omega
    have hkb : k < b.length := by have := HLB.out; omega
    obtain ⟨ad, rfl, hca⟩ := (HA.out.below hbw).elem hka
    obtain ⟨bd, rfl, hcb⟩ := (HB.out.below hbw).elem hkb
    have hne := z5u (WA.out _ (List.getElem_mem hka)) (WB.out _ (List.getElem_mem hkb))
    have HN : Hid (a[k] = b[k] → ∀ j (hj : j < a.length) (hj2 : j < b.length), j < k + 1 → a[j] = b[j]) := y8 (fun h j hj hj2 hjk => by
     by_cases e : j = k
     ·subst e; exact h
     ·exact HV.out j hj hj2 (by omega))
    have HM := y8 (HY.out k hka hkb)
    generalize a[k] = x at *
    generalize b[k] = y at *
    go_upto_region 6 with fail
    by_cases hxy : x = y
    ·have dx : decide (x = y) = true := by simpa using hxy
     rw [dx] at hne
     have HN2 := y8 (HN.out hxy)
     clear HN HM HV dx hxy
     refine yp 9 (by kernel_rfl) ?_
     refine WpT.tk 0 ((Below.refl _ _).drew) ?_
     simp only [nrm]
     refine WpT.tk 1 ((Below.refl _ _).drew) ?_
     simp only [nrm]
     refine WpT.tk 2 ((Below.refl _ _).drew) ?_
     simp only [nrm]
     refine WpT.tl 3 rfl (yv (us := bv (dg x)) rfl rfl rfl yc (by rw [yb, yf]) hca) ((Below.refl _ _).drew) ?_
     simp only [nrm]
     refine WpT.tk 4 ((Below.refl _ _).drew) ?_
     simp only [nrm]
     refine WpT.tk 5 ((Below.refl _ _).drew) ?_
     simp only [nrm]
     refine WpT.tk 6 ((Below.refl _ _).drew) ?_
     simp only [nrm]
     refine WpT.tl 7 rfl (yv (us := bv (dg y)) rfl rfl rfl yc (by rw [yb, yf]) hcb) ((Below.refl _ _).drew) ?_
     simp only [nrm]
     refine WpT.tk 8 ((Below.refl _ _).drew) ?_
     simp only [nrm]
     refine WpT.done (by kernel_rfl) ?_ _
     go_wp2_with fail
     exact ⟨⟨k + 1, by omega, by go_num, hbw.drew, HN2⟩, by simp [intOf]; omega⟩
    ·have dx : decide (x = y) = false := by simpa using hxy
     rw [dx] at hne
     have hV := HM.out hxy
     subst hV
     clear HN HM HV dx hxy HX HY
     refine yp 9 (by kernel_rfl) ?_
     refine WpT.tk 0 ((Below.refl _ _).drew) ?_
     simp only [nrm]
     refine WpT.tk 1 ((Below.refl _ _).drew) ?_
     simp only [nrm]
     refine WpT.tk 2 ((Below.refl _ _).drew) ?_
     simp only [nrm]
     refine WpT.tl 3 rfl (yv (us := bv (dg x)) rfl rfl rfl yc (by rw [yb, yf]) hca) ((Below.refl _ _).drew) ?_
     simp only [nrm]
     refine WpT.tk 4 ((Below.refl _ _).drew) ?_
     simp only [nrm]
     refine WpT.tk 5 ((Below.refl _ _).drew) ?_
     simp only [nrm]
     refine WpT.tk 6 ((Below.refl _ _).drew) ?_
     simp only [nrm]
     refine WpT.tl 7 rfl (yv (us := bv (dg y)) rfl rfl rfl yc (by rw [yb, yf]) hcb) ((Below.refl _ _).drew) ?_
     simp only [nrm]
     refine WpT.tk 8 ((Below.refl _ _).drew) ?_
     simp only [nrm]
     refine WpT.done (by kernel_rfl) ?_ _
     go_wp2_with fail
     go_ret
     exact ⟨rfl, hbw.drew⟩
   ·obtain rfl : k = n := by omega
    have hV : V = true := HX.out (fun j hj hj2 => HV.out j hj hj2 (by have := HLA.out; omega))
    subst hV
    clear HX HY HV
    go_wp2_with fail
    go_ret
    exact ⟨rfl, hbw⟩
 ·have hV : decide (a = b) = false := by
   rw [decide_eq_false_iff_not]
   intro e
   subst e
   exact hnm (ha.len.symm.trans hb.len)
  rw [hV]
  have dn : ((n : Int) != m) = true := by simp; omega
  clear ha hb hV
  go_enter Tryz.func69, Tryz.ntmps69
  go_wp2_with fail
  go_ret
  exact ⟨rfl, Below.refl _ _⟩
theorem zd9 {P : Program} {ops : Array Oper} {S : World → Prop} {o : Oper} {a : Act} (hw : Region.wanted o (yielded ops a.tmps) = true) {t : TypeId} {x y : Operand} (ho : o.op = .slice t x none (some y) none) (hu : P.underlying t = some (.slice (P.elem t))) {s : Nat} (hs : (P.info? (P.elem t)).map (·.size) = some s)
  {A : Option Addr} {m c k : Nat} (hx : a.eval x = .slice A m c) (hy : a.eval y = .int .i64 (k : Int)) (hk : k ≤ c) : YieldsIf P ops S o (.slice A k c) a := by
 refine .inl ⟨hw, fun w hS => ?_⟩
 have hr : (Instr.sliceAt t (.slice A m c) none (some (.int .i64 (k : Int))) none).run P w = .ok (.slice A k c) w := by
  rw [run_sliceAt_slice w _ _ _ _ _ hu, run_slice_h w _ A m c hu .i64 (k : Int) (by omega) (by omega), zku hs]
  have hA : (if c = 0 then A else A.map (·.add (0 * s))) = A := by
   split
   ·rfl
   ·cases A with
    | none => rfl
    | some ad => simp [Addr.add]
  show Result.ok (sliced A 0 (Int.toNat (k : Int)) c s) w = _
  unfold sliced
  rw [hA, Int.toNat_natCast, Nat.sub_zero, Nat.sub_zero]
 unfold execOp
 simp only [ho, hx, hy, Option.map_some, Option.map_none, hr, Sem.run_bind, Result.andThen_ok, Sem.run_pure]
theorem zjm {nd : Nat → Nat → Nat} {em : Nat} (N : Nds nd em) : ∀ (k : Nat) (l : List Nat), l.length ≤ k → (∀ x ∈ l, x < 2 ^ 128) → ∀ x ∈ z12 nd em l, x < 2 ^ 128
 | 0, l, h, _ => by obtain rfl := List.eq_nil_of_length_eq_zero (Nat.le_zero.1 h); rw [z38]; intro x hx; simp at hx
 | k + 1, l, h, hl => by
  by_cases h0 : l = []
  ·subst h0; rw [z38]; intro x hx; simp at hx
  ·rw [z4l nd em h0]
   have hb := za9 l.length
   have hp := zcg h0
   intro x hx
   rcases List.mem_cons.1 hx with rfl | hx
   ·exact zcn N _ _ (Nat.le_refl _) (fun y hy => hl y (List.mem_of_mem_take hy))
   ·exact zjm N k _ (by rw [List.length_drop]; omega) (fun y hy => hl y (List.mem_of_mem_drop hy)) x hx
theorem z4r.take {W : World} {A : Option Addr} {n : Nat} {l : List EvR} (h : z4r W A n l) {k : Nat} (hk : k ≤ n) : z4r W A k (l.take k) := by
 have hl := h.len
 refine ⟨by rw [List.length_take]; omega, ?_, fun r hr => h.ok r (List.mem_of_mem_take hr)⟩
 have := h.rd.take (k := k * 25) (Nat.mul_le_mul_right 25 hk)
 rw [zbw z3r l k (by omega)] at this
 exact this
theorem zot (l : List EvR) (k : Nat) : yg (l.take k) = (yg l).take k := by simp [yg, List.map_take]
theorem zpq (l : List EvR) (k : Nat) (hk : k ≤ l.length) : z20 (yg (l.take k)) = z2j (yg l) k := by
 unfold z20 z2j
 rw [z3s, List.length_take, Nat.min_eq_left hk]
 by_cases h : k = 0
 ·subst h; rfl
 ·rw [if_neg h, if_neg h, zot, List.getElem?_take, if_pos (by omega)]
theorem zqo (l : List EvR) (k : Nat) (hk : k < l.length) : z45 k (z2j (yg l) k) ((yg l).drop k) = (if follows (yg (l.take k)) l[k].e = 0 then z45 (k + 1) (z2j (yg l) (k + 1)) ((yg l).drop (k + 1)) else false) := by
 have h1 : (yg l).drop k = l[k].e :: (yg l).drop (k + 1) := by
  rw [List.drop_eq_getElem_cons (by rw [z3s]; exact hk)]
  simp [yg]
 rw [h1, z45]
 unfold follows
 rw [z3s, List.length_take, Nat.min_eq_left (by omega), zpq l k (by omega), zh4 l k hk]
theorem zqn (l : List EvR) : z45 l.length (z2j (yg l) l.length) ((yg l).drop l.length) = true := by
 rw [List.drop_of_length_le (by rw [z3s]; exact Nat.le_refl _)]; rfl
theorem zpg (H : He) (o : Int) (ev : List Ev) (la : Int) (l : List Hd) (k : Nat) (hk : k < l.length) : z36 H o ev la (l.drop k) = (if l[k].office = o ∧ la ≤ l[k].commit ∧ l[k].commit ≤ ev.length ∧ l[k].day = z2j ev l[k].commit.toNat ∧ root H.nd H.em ((z0c H ev).take l[k].commit.toNat) = l[k].root then z36 H o ev l[k].commit (l.drop (k + 1)) else false) := by
 rw [List.drop_eq_getElem_cons hk, z36]
theorem zfu {ops : Array Oper} {S : World → Prop} {o : Oper} {a : Act} {x y : Operand} {p q : Nat} {u : TypeId} {b : Bool} (hw : Region.wanted o (yielded ops a.tmps) = true) (ho : o.op = .binOp .neq 25 x y u) (hx : a.eval x = dgV p) (hy : a.eval y = dgV q) (hp : p < 2 ^ 128) (hq : q < 2 ^ 128) (hb : (!decide (p = q)) = b)
  (hg : ∀ W, (eqGuard .neq 25 x y (dgV p) (dgV q)).run Tryz.prog W = .ok () W) : YieldsIf Tryz.prog ops S o (.bool b) a := by
 refine .inl ⟨hw, fun w hS => ?_⟩
 unfold execOp
 simp only [ho, hx, hy, Sem.run_bind, hg, z5u hp hq, Result.andThen_ok, Sem.run_pure, hb]
theorem zuv {H : He} (L : Les H) (r : LgR) (w : World) (h : z0w w r) (hn : r.en ≤ 1000000) (hhn : r.hn ≤ 1000000) (htn : r.tn ≤ 1000) (hf : z5n r.es) (hg : GCon w) (hgb : GBru w) :
  Calls Tryz.prog 22 #[lgV r] w (BIs (zb1 H (z07 r)) w) := by
 obtain ⟨wa, hwa, hb0, q0⟩ := zei w r
 have HWA := y8 hwa
 have HQ0 := y8 (fun W (h : Below wa.heap.size wa W) => q0.below h)
 have HOF := y8 (fun W => zip r.o W)
 have HEL := y8 h.ev.len
 have HHL := y8 h.hd.len
 have HTL := y8 h.tp.len
 have HE := y8 (fun j (hj : j < r.es.length) W (hb : Below w.heap.size w W) => (h.ev.below hb).elem hj)
 have HHE := y8 (fun j (hj : j < r.hs.length) W (hb : Below w.heap.size w W) => (h.hd.below hb).elem hj)
 have HFO := y8 (fun j (hj : j < r.es.length) W (hb : Below w.heap.size w W) => zhp (r.es.take j) r.eA j r.ec r.es[j] W ((h.ev.below hb).take (by have := h.ev.len; omega)) (by have := h.ev.len; omega))
 have HLV := y8 (fun W (hb : Below w.heap.size w W) => zed L r r.en W (h.below hb) (Nat.le_refl _) hn hf (hg.below hb))
 have HDY := y8 (fun k (hk : k ≤ r.en) W (hb : Below w.heap.size w W) => zh6 r k W (h.below hb) hk hn)
 have HRT := y8 (fun l A n c W (hn' : n ≤ 1000000) (hr : RdD W A n l) (hnc : n ≤ c) (hcm : c ≤ maxLen) (hb : Below w.heap.size w W) => z9j L.nds n l A n c W (Nat.le_refl _) hn' hr hnc hcm (hg.below hb))
 have HRLt := y8 (fun l (hl : ∀ x ∈ l, x < 2 ^ 128) => zcn L.nds _ l (Nat.le_refl _) hl)
 have HLL := y8 (zib L (yg r.es))
 have HHD := y8 h.hl
 have HAP := y8 (fun s x A m c tl W (h : Below w.heap.size w W) (hm : m ≤ 1000) hq h1 h2 => zg6 L.nds s x A m c tl W hm hq h1 h2 (hg.below h) (hgb.below h))
 have HP := y8 (fun l' x (h : l'.length < 1099511627776) => zdb H.nd H.em l' x h)
 have HPF := y8 (fun l' (h : l'.length < 1099511627776) => (zjl H.nd H.em l' h).1)
 have HPL := y8 (fun l hl => zjm L.nds _ l (Nat.le_refl _) hl)
 have HEQ := y8 (fun a A n c W (hb : Below w.heap.size w W) (ha : RdD W A n a) (hn' : n ≤ 1000000) (hl : ∀ x ∈ a, x < 2 ^ 128) => zoq a r.ts A n c r.tA r.tn r.tc W ha (h.below hb).tp hn' (by omega) hl h.tl)
 have HK1 := y8 (fun k (hk : k < r.es.length) => zqo r.es k hk)
 have HK2 := y8 (zqn r.es)
 have HKH := y8 (fun la k (hk : k < r.hs.length) => zpg H r.o (yg r.es) la r.hs k hk)
 have HV : Hid (zb1 H (z07 r) = (decide (0 ≤ r.o ∧ r.o < 32 ∧ (yg r.es).length ≤ 65536) && (z45 0 0 (yg r.es) && (z36 H r.o (yg r.es) 0 r.hs && (decide (r.s = ((yg r.es).length : Int)) && decide (z12 H.nd H.em (z0c H (yg r.es)) = r.ts)))))) := y8 rfl
 have HLN := y8 (zec H (yg r.es))
 have HTK : Hid ((yg r.es).take r.en = yg r.es) := y8 (List.take_of_length_le (by rw [z3s, h.ev.len]; exact Nat.le_refl _))
 have HEN : Hid (∀ k, k ≤ r.en → k ≤ r.ec) := y8 (fun k hk => by have := h.ec; omega)
 have hec := h.ec
 have h5 := z7f r
 have h36 := z1k
 have h25 := z3r
 have c0 := z95 q0
 have c1 := z6m q0
 have HLE : Hid ((yg r.es).length = r.en) := y8 (by rw [z3s, h.ev.len])
 rw [HLE.out] at HV
 clear hwa q0 h hf hg hgb L
 generalize zb1 H (z07 r) = X at *
 unfold BIs
 by_cases hoff : 0 ≤ r.o ∧ r.o < 32
 rotate_left
 ·have dof : decide (0 ≤ r.o ∧ r.o < 32) = false := by rw [decide_eq_false_iff_not]; exact hoff
  have hX : X = false := by
   rw [HV.out, show decide (0 ≤ r.o ∧ r.o < 32 ∧ r.en ≤ 65536) = false by rw [decide_eq_false_iff_not]; intro h; exact hoff ⟨h.1, h.2.1⟩]; rfl
  subst hX
  rw [dof] at HOF
  clear HV HFO HLV HDY HRT HRLt HAP HP HPF HPL HEQ HK1 HK2 HKH HE HHE hoff
  go_enter Tryz.func22, Tryz.ntmps22
  go_upto_region 1 with fail
  change Code.wp _ _ _ _ (w.alloc (.cells (lgC r) 42))
  rw [← HWA.out]
  go_wp2_with fail
  refine (HOF.out _).mono ?_
  rintro e w1 ⟨rfl, hw1⟩
  subst hw1
  go_wp2_with fail
  go_ret
  exact ⟨rfl, hb0⟩
 have dof : decide (0 ≤ r.o ∧ r.o < 32) = true := by rw [decide_eq_true_eq]; exact hoff
 rw [dof] at HOF
 by_cases hbig : r.en ≤ 65536
 rotate_left
 ·have hX : X = false := by
   rw [HV.out, show decide (0 ≤ r.o ∧ r.o < 32 ∧ r.en ≤ 65536) = false by rw [decide_eq_false_iff_not]; intro h; exact hbig h.2.2]; rfl
  subst hX
  have dn : decide ((65536 : Int) < (r.en : Int)) = true := by rw [decide_eq_true_eq]; omega
  have dn2 : decide (65536 < r.en) = true := by rw [decide_eq_true_eq]; omega
  have HN : Hid (r.en ≤ 1000000) := y8 hn
  clear HV HFO HLV HDY HRT HRLt HAP HP HPF HPL HEQ HK1 HK2 HKH HE HHE hoff hbig hn dof hec
  obtain ⟨N, hN⟩ : ∃ N, r.en = N := ⟨_, rfl⟩
  rw [hN] at c1 dn dn2
  clear hN
  go_enter Tryz.func22, Tryz.ntmps22
  go_upto_region 1 with fail
  change Code.wp _ _ _ _ (w.alloc (.cells (lgC r) 42))
  rw [← HWA.out]
  go_wp2_with fail
  refine (HOF.out _).mono ?_
  rintro e w1 ⟨rfl, hw1⟩
  subst hw1
  go_wp2_with fail
  go_ret
  exact ⟨rfl, hb0⟩
 have HX : Hid (X = (z45 0 0 (yg r.es) && (z36 H r.o (yg r.es) 0 r.hs && (decide (r.s = (r.en : Int)) && decide (z12 H.nd H.em (z0c H (yg r.es)) = r.ts))))) := y8 (by
  rw [HV.out, show decide (0 ≤ r.o ∧ r.o < 32 ∧ r.en ≤ 65536) = true by rw [decide_eq_true_eq]; exact ⟨hoff.1, hoff.2, hbig⟩, Bool.true_and])
 have dn : decide ((65536 : Int) < (r.en : Int)) = false := by rw [decide_eq_false_iff_not]; omega
 have dn2 : decide (65536 < r.en) = false := by rw [decide_eq_false_iff_not]; omega
 clear HV hoff dof
 obtain ⟨N, hN⟩ : ∃ N, r.en = N := ⟨_, rfl⟩
 rw [hN] at c1 dn dn2 hn hec hbig HX HLE HEL HLV HDY HTK HEN
 have HNN := y8 hN
 obtain ⟨EA, hEA⟩ : ∃ x, r.eA = x := ⟨_, rfl⟩
 rw [hEA] at c1 HE HFO
 have HEA := y8 hEA
 obtain ⟨HA, hHA⟩ : ∃ x, r.hA = x := ⟨_, rfl⟩
 rw [hHA] at HHE
 have HHA := y8 hHA
 clear hN hEA hHA
 go_enter Tryz.func22, Tryz.ntmps22
 go_upto_region 1 with fail
 change Code.wp _ _ _ _ (w.alloc (.cells (lgC r) 42))
 rw [← HWA.out]
 go_wp2_with fail
 refine (HOF.out _).mono ?_
 rintro e w1 ⟨rfl, hw1⟩
 subst hw1
 go_wp2_with fail
 clear HOF dn dn2
 go_loopw [25] (fun v25 wr => ∃ k : Nat, v25 = .int .i64 (k : Int) ∧ k ≤ N ∧ Below w1.heap.size w1 wr ∧ Hid (z45 0 0 (yg r.es) = z45 k (z2j (yg r.es) k) ((yg r.es).drop k))) (fun v25 _ => N - (intOf v25).toNat)
 case atStart => exact ⟨0, rfl, by omega, Below.refl _ _, y8 rfl⟩
 case round =>
  obtain ⟨k, rfl, hk, hbw, HG⟩ := hrel
  by_cases hlt : k < N
  ·have hke : k < r.es.length := by rw [HEL.out]; exact hlt
   have dj : decide ((k : Int) < (N : Int)) = true := by rw [decide_eq_true_eq]; omega
   obtain ⟨ad, rfl, hce⟩ := HE.out k hke wr (y9 hb0 hbw)
   have HFk := y8 (HFO.out k hke)
   have HSk := y8 (HK1.out k hke)
   have hkc : k ≤ r.ec := by omega
   generalize r.es[k] = ev at *
   generalize follows (yg (r.es.take k)) ev.e = FK at *
   have y1 := z6m (HQ0.out _ hbw)
   rw [HNN.out, HEA.out] at y1
   have h25v := h25 ev
   clear HFO HLV HDY HRT HRLt HAP HP HPF HPL HEQ HK1 HKH HHE HE hke
   go_upto_region 6 with (first
    | ((with_reducible show sl 29); refine yk (us := evL ev) rfl rfl rfl z3d (by rw [z2w, h25v]) hce ?_)
    | ((with_reducible show sl 4); refine z1d rfl rfl zfw ?_; intro w3 g3 hg3 b3 hb3 lt3; have hg3' : wr.heap.size ≤ g3 := (by omega); clear hg3 lt3)
    | ((with_reducible show sn); refine z05 (vs := evC ev) rfl rfl rfl rfl b3 (by rw [z5r, z5r]) (by rw [z2w, z5r]) (zen _) ?_; intro w4 ht4 b4))
   have hb4 : Below wr.heap.size wr w4 := hb3.trans (ht4.below _ hg3')
   have hc4 := yh (xs := evL ev) b4
   replace y1 := cell_later hb4 y1
   replace hbw := y9 hbw hb4
   clear b3 hb3 ht4 b4 hg3' hce hb4
   have hS : Below w4.heap.size w4 w4.drew := (Below.refl _ _).drew
   rcases z3i FK with ⟨zf, e1, f1, d1⟩ | ⟨zf, e1, f1, d1⟩
   ·have HG2 : Hid (z45 0 0 (yg r.es) = z45 (k + 1) (z2j (yg r.es) (k + 1)) ((yg r.es).drop (k + 1))) := y8 (by rw [HG.out, HSk.out, if_pos zf])
    clear HG HSk zf HX
    refine yp 7 (by kernel_rfl) ?_
    refine WpT.tk 0 hS ?_
    simp only [nrm]
    refine WpT.tl 1 rfl (ye rfl rfl rfl (by kernel_rfl) y1) hS ?_
    simp only [nrm]
    refine WpT.tk 2 hS ?_
    simp only [nrm]
    refine WpT.tl 3 rfl (zd9 (s := 25) (by rfl) rfl (by kernel_rfl) (by kernel_rfl) (by rfl) (by rfl) hkc) hS ?_
    simp only [nrm]
    refine WpT.tl 4 rfl (yv (us := evL ev) rfl rfl rfl z3d (by rw [z2w, h25v]) hc4) hS ?_
    simp only [nrm]
    refine WpT.on 5 rfl (fun K hK => ?_)
    go_simp; refine (HFk.out _ (y9 hb0 (y9 hbw hS))).mono ?_; rintro e w5 ⟨rfl, hb5⟩; replace hS := y9 hS hb5
    refine hK _ _ hS ?_; clear hK K; try simp only [nrm]
    refine WpT.tk 6 hS ?_
    simp only [nrm]
    refine WpT.done (by kernel_rfl) ?_ _
    skip
    go_wp2_with fail
    exact ⟨⟨k + 1, by go_num, by omega, y9 hbw hS, HG2⟩, by simp [intOf]; omega⟩
   ·have hX : X = false := by rw [HX.out, HG.out, HSk.out, if_neg zf, Bool.false_and]
    subst hX
    clear HG HSk zf HX
    refine yp 7 (by kernel_rfl) ?_
    refine WpT.tk 0 hS ?_
    simp only [nrm]
    refine WpT.tl 1 rfl (ye rfl rfl rfl (by kernel_rfl) y1) hS ?_
    simp only [nrm]
    refine WpT.tk 2 hS ?_
    simp only [nrm]
    refine WpT.tl 3 rfl (zd9 (s := 25) (by rfl) rfl (by kernel_rfl) (by kernel_rfl) (by rfl) (by rfl) hkc) hS ?_
    simp only [nrm]
    refine WpT.tl 4 rfl (yv (us := evL ev) rfl rfl rfl z3d (by rw [z2w, h25v]) hc4) hS ?_
    simp only [nrm]
    refine WpT.on 5 rfl (fun K hK => ?_)
    go_simp; refine (HFk.out _ (y9 hb0 (y9 hbw hS))).mono ?_; rintro e w5 ⟨rfl, hb5⟩; replace hS := y9 hS hb5
    refine hK _ _ hS ?_; clear hK K; try simp only [nrm]
    refine WpT.tk 6 hS ?_
    simp only [nrm]
    refine WpT.done (by kernel_rfl) ?_ _
    skip
    go_wp2_with fail
    go_ret
    exact ⟨rfl, y9 hb0 (y9 hbw hS)⟩
  ·obtain rfl : k = N := by omega
   have HX2 : Hid (X = (z36 H r.o (yg r.es) 0 r.hs && (decide (r.s = (k : Int)) && decide (z12 H.nd H.em (z0c H (yg r.es)) = r.ts)))) := y8 (by
    have := HK2.out
    rw [HEL.out] at this
    rw [HX.out, HG.out, this, Bool.true_and])
   clear HX HG HK1 HK2 HFO HE
   have zr := z2f (HQ0.out _ hbw)
   have z1 := z6m (HQ0.out _ hbw)
   rw [HNN.out, HEA.out] at z1
   go_wp2_with ((with_reducible show sl 38); refine yk (us := lgL r) rfl rfl rfl z16 (by rw [z0b, h5]) zr ?_)
   refine (HLV.out _ (y9 hb0 hbw)).mono ?_
   rintro e w2 ⟨v2, rfl, o2, hb2⟩
   rw [HTK.out] at o2
   obtain ⟨A5, c5, rfl, n5, m5, r5⟩ := yq.formN o2 (HLN.out.trans HLE.out)
   replace hbw := y9 hbw hb2
   have y3 := z96 (HQ0.out _ hbw)
   rw [HHA.out] at y3
   have HR5 := y8 (fun W (hb : Below w2.heap.size w2 W) => r5.below hb)
   clear o2 r5 zr z1 hb2 HLV c0 c1
   go_wp2_with fail
   clear y3
   go_loopw [6, 46] (fun v6 v46 wr2 => ∃ (q : Nat) (la : Int), v6 = .int .i64 la ∧ v46 = .int .i64 (q : Int) ∧ q ≤ r.hn ∧ 0 ≤ la ∧ Hid (z36 H r.o (yg r.es) 0 r.hs = z36 H r.o (yg r.es) la (r.hs.drop q)) ∧ Below w2.heap.size w2 wr2) (fun _ v46 _ => r.hn - (intOf v46).toNat)
   case atStart => exact ⟨0, 0, rfl, rfl, by omega, by omega, y8 rfl, Below.refl _ _⟩
   case round =>
    obtain ⟨q, la, rfl, rfl, hq, hla, HH, hbw2⟩ := hrel
    by_cases hlq : q < r.hn
    ·have hqe : q < r.hs.length := by rw [HHL.out]; exact hlq
     have dj : decide ((q : Int) < (r.hn : Int)) = true := by rw [decide_eq_true_eq]; omega
     obtain ⟨hd_, rfl, hce⟩ := HHE.out q hqe wr (y9 hb0 (y9 hbw hbw2))
     have HSq := y8 (HKH.out la q hqe)
     have hhl := HHD.out _ (List.getElem_mem hqe)
     generalize r.hs[q] = hd at *
     have h36h := h36 hd
     have HRL : Hid (root H.nd H.em ((z0c H (yg r.es)).take hd.commit.toNat) < 2 ^ 128 ∧ hd.root < 2 ^ 128) := y8 ⟨HRLt.out _ (fun x hx => HLL.out x (List.mem_of_mem_take hx)), hhl.root⟩
     clear HHE hqe hhl HAP HP HPF HPL HEQ HKH HRLt
     go_upto_region 14 with (first
      | ((with_reducible show sl 49); refine yk (us := hdL hd) rfl rfl rfl yo (by rw [yl, h36h]) hce ?_)
      | ((with_reducible show sl 8); refine z18 (z := hdC z3a) (vs := hdC hd) rfl rfl rfl rfl (z4q _) (fun _ => rfl) (fun _ => rfl) (by rw [z4u, z4u]) (by rw [yl, z4u]) (z4j _) ?_; intro w3 g3 hg3 b3 hb3 lt3; clear hg3 lt3))
     replace hbw2 := y9 hbw2 hb3
     have y0 := z95 (HQ0.out _ (y9 hbw hbw2))
     have yr := z2f (HQ0.out _ (y9 hbw hbw2))
     have z0 := z0t b3
     have z1 := z0h b3
     have z2 := z0u b3
     have z3 := z11 b3
     have HB3 := y8 (fun W (hb : Below w3.heap.size w3 W) => z0h (b3.below hb))
     have hb0' := y9 hb0 (y9 hbw hbw2)
     clear b3 hb3 hce
     have hb0w := hb0
     replace hb0 := hb0'
     clear hb0'
     have hS : Below w3.heap.size w3 w3.drew := (Below.refl _ _).drew
     rcases z3l hd.office r.o with ⟨t1, e1, f1, d1⟩ | ⟨t1, e1, f1, d1⟩
     rotate_left
     ·have hX : X = false := by rw [HX2.out, HH.out, HSq.out, if_neg (fun h => t1 h.1), Bool.false_and]
      subst hX
      clear HX2 HH HSq t1
      refine yp 37 (by kernel_rfl) ?_
      refine WpT.tk 0 hS ?_
      simp only [nrm]
      refine WpT.tl 1 rfl (ye rfl rfl rfl (by kernel_rfl) z0) hS ?_
      simp only [nrm]
      refine WpT.tk 2 hS ?_
      simp only [nrm]
      refine WpT.tl 3 rfl (ye rfl rfl rfl (by kernel_rfl) y0) hS ?_
      simp only [nrm]
      refine WpT.tk 4 hS ?_
      simp only [nrm]
      refine WpT.tk 5 hS ?_
      simp only [nrm]
      refine WpT.of [(6, 56), (7, 57), (8, 58)] (hS) ?_
      simp only [nrm]
      refine WpT.of [(9, 59)] (hS) ?_
      simp only [nrm]
      refine WpT.tk 10 hS ?_
      simp only [nrm]
      refine WpT.tk 11 hS ?_
      simp only [nrm]
      refine WpT.of [(12, 62), (13, 63), (14, 64)] (hS) ?_
      simp only [nrm]
      refine WpT.of [(15, 65), (16, 66)] (hS) ?_
      simp only [nrm]
      refine WpT.tk 17 hS ?_
      simp only [nrm]
      refine WpT.tk 18 hS ?_
      simp only [nrm]
      refine WpT.of [(19, 69), (20, 70), (21, 71)] (hS) ?_
      simp only [nrm]
      refine WpT.of [(22, 72), (23, 73), (24, 74)] (hS) ?_
      simp only [nrm]
      refine WpT.of [(25, 75)] (hS) ?_
      simp only [nrm]
      refine WpT.tk 26 hS ?_
      simp only [nrm]
      refine WpT.tk 27 hS ?_
      simp only [nrm]
      refine WpT.of [(28, 78), (29, 79), (30, 80)] (hS) ?_
      simp only [nrm]
      refine WpT.of [(31, 81), (32, 82), (33, 83)] (hS) ?_
      simp only [nrm]
      refine WpT.of [(34, 84), (35, 85)] (hS) ?_
      simp only [nrm]
      refine WpT.tk 36 hS ?_
      simp only [nrm]
      refine WpT.done (by kernel_rfl) ?_ _
      skip
      go_wp2_with fail
      go_ret
      exact ⟨rfl, y9 hb0 hS⟩
     rcases z83 la hd.commit with ⟨t2, e2, f2⟩ | ⟨t2, e2, f2⟩
     rotate_left
     ·have hX : X = false := by rw [HX2.out, HH.out, HSq.out, if_neg (fun h => t2 h.2.1), Bool.false_and]
      subst hX
      clear HX2 HH HSq t1 t2
      refine yp 37 (by kernel_rfl) ?_
      refine WpT.tk 0 hS ?_
      simp only [nrm]
      refine WpT.tl 1 rfl (ye rfl rfl rfl (by kernel_rfl) z0) hS ?_
      simp only [nrm]
      refine WpT.tk 2 hS ?_
      simp only [nrm]
      refine WpT.tl 3 rfl (ye rfl rfl rfl (by kernel_rfl) y0) hS ?_
      simp only [nrm]
      refine WpT.tk 4 hS ?_
      simp only [nrm]
      refine WpT.tk 5 hS ?_
      simp only [nrm]
      refine WpT.tk 6 hS ?_
      simp only [nrm]
      refine WpT.tl 7 rfl (z2r (by rfl) rfl rfl (by kernel_rfl) z1) hS ?_
      simp only [nrm]
      refine WpT.tk 8 hS ?_
      simp only [nrm]
      refine WpT.tk 9 hS ?_
      simp only [nrm]
      refine WpT.tk 10 hS ?_
      simp only [nrm]
      refine WpT.tk 11 hS ?_
      simp only [nrm]
      refine WpT.of [(12, 62), (13, 63), (14, 64)] (hS) ?_
      simp only [nrm]
      refine WpT.of [(15, 65), (16, 66)] (hS) ?_
      simp only [nrm]
      refine WpT.tk 17 hS ?_
      simp only [nrm]
      refine WpT.tk 18 hS ?_
      simp only [nrm]
      refine WpT.of [(19, 69), (20, 70), (21, 71)] (hS) ?_
      simp only [nrm]
      refine WpT.of [(22, 72), (23, 73), (24, 74)] (hS) ?_
      simp only [nrm]
      refine WpT.of [(25, 75)] (hS) ?_
      simp only [nrm]
      refine WpT.tk 26 hS ?_
      simp only [nrm]
      refine WpT.tk 27 hS ?_
      simp only [nrm]
      refine WpT.of [(28, 78), (29, 79), (30, 80)] (hS) ?_
      simp only [nrm]
      refine WpT.of [(31, 81), (32, 82), (33, 83)] (hS) ?_
      simp only [nrm]
      refine WpT.of [(34, 84), (35, 85)] (hS) ?_
      simp only [nrm]
      refine WpT.tk 36 hS ?_
      simp only [nrm]
      refine WpT.done (by kernel_rfl) ?_ _
      skip
      go_wp2_with fail
      go_ret
      exact ⟨rfl, y9 hb0 hS⟩
     rcases z83 hd.commit (k : Int) with ⟨t3, e3, f3⟩ | ⟨t3, e3, f3⟩
     rotate_left
     ·have hX : X = false := by rw [HX2.out, HH.out, HSq.out, if_neg (fun h => t3 (by have := h.2.2.1; rw [HLE.out] at this; exact this)), Bool.false_and]
      subst hX
      clear HX2 HH HSq t1 t2 t3
      refine yp 37 (by kernel_rfl) ?_
      refine WpT.tk 0 hS ?_
      simp only [nrm]
      refine WpT.tl 1 rfl (ye rfl rfl rfl (by kernel_rfl) z0) hS ?_
      simp only [nrm]
      refine WpT.tk 2 hS ?_
      simp only [nrm]
      refine WpT.tl 3 rfl (ye rfl rfl rfl (by kernel_rfl) y0) hS ?_
      simp only [nrm]
      refine WpT.tk 4 hS ?_
      simp only [nrm]
      refine WpT.tk 5 hS ?_
      simp only [nrm]
      refine WpT.tk 6 hS ?_
      simp only [nrm]
      refine WpT.tl 7 rfl (z2r (by rfl) rfl rfl (by kernel_rfl) z1) hS ?_
      simp only [nrm]
      refine WpT.tk 8 hS ?_
      simp only [nrm]
      refine WpT.tk 9 hS ?_
      simp only [nrm]
      refine WpT.tk 10 hS ?_
      simp only [nrm]
      refine WpT.tk 11 hS ?_
      simp only [nrm]
      refine WpT.tk 12 hS ?_
      simp only [nrm]
      refine WpT.tl 13 rfl (z2r (by rfl) rfl rfl (by kernel_rfl) z1) hS ?_
      simp only [nrm]
      refine WpT.tk 14 hS ?_
      simp only [nrm]
      refine WpT.tk 15 hS ?_
      simp only [nrm]
      refine WpT.tk 16 hS ?_
      simp only [nrm]
      refine WpT.tk 17 hS ?_
      simp only [nrm]
      refine WpT.tk 18 hS ?_
      simp only [nrm]
      refine WpT.of [(19, 69), (20, 70), (21, 71)] (hS) ?_
      simp only [nrm]
      refine WpT.of [(22, 72), (23, 73), (24, 74)] (hS) ?_
      simp only [nrm]
      refine WpT.of [(25, 75)] (hS) ?_
      simp only [nrm]
      refine WpT.tk 26 hS ?_
      simp only [nrm]
      refine WpT.tk 27 hS ?_
      simp only [nrm]
      refine WpT.of [(28, 78), (29, 79), (30, 80)] (hS) ?_
      simp only [nrm]
      refine WpT.of [(31, 81), (32, 82), (33, 83)] (hS) ?_
      simp only [nrm]
      refine WpT.of [(34, 84), (35, 85)] (hS) ?_
      simp only [nrm]
      refine WpT.tk 36 hS ?_
      simp only [nrm]
      refine WpT.done (by kernel_rfl) ?_ _
      skip
      go_wp2_with fail
      go_ret
      exact ⟨rfl, y9 hb0 hS⟩
     obtain ⟨kc, hkc⟩ : ∃ kc : Nat, hd.commit = kc := ⟨hd.commit.toNat, by omega⟩
     have hkcn : kc ≤ k := by omega
     have HKC := y8 hkc
     have HDYk := y8 (HDY.out kc hkcn)
     have HSq2 : Hid (z36 H r.o (yg r.es) la (r.hs.drop q) = (if hd.day = z2j (yg r.es) kc ∧ root H.nd H.em ((z0c H (yg r.es)).take kc) = hd.root then z36 H r.o (yg r.es) (kc : Int) (r.hs.drop (q + 1)) else false)) := y8 (by
      rw [HSq.out]
      by_cases hh : hd.day = z2j (yg r.es) kc ∧ root H.nd H.em ((z0c H (yg r.es)).take kc) = hd.root
      ·rw [if_pos hh, if_pos ⟨t1, t2, by rw [HLE.out]; exact t3, by rw [hkc, Int.toNat_natCast]; exact hh.1, by rw [hkc, Int.toNat_natCast]; exact hh.2⟩, hkc]
      ·rw [if_neg hh, if_neg (fun h => hh ⟨by have := h.2.2.2.1; rwa [hkc, Int.toNat_natCast] at this, by have := h.2.2.2.2; rwa [hkc, Int.toNat_natCast] at this⟩)])
     rw [hkc, Int.toNat_natCast] at HRL
     rw [hkc] at z1 e2 f2 e3 f3 HB3 t2
     have f3n : decide (k < kc) = false := by rw [decide_eq_false_iff_not]; omega
     generalize z2j (yg r.es) kc = DK at *
     clear HSq t1 t3 hkc HDY
     rcases z3l hd.day DK with ⟨t4, e4, f4, d4⟩ | ⟨t4, e4, f4, d4⟩
     rotate_left
     ·have hX : X = false := by rw [HX2.out, HH.out, HSq2.out, if_neg (fun h => t4 h.1), Bool.false_and]
      subst hX
      clear HX2 HH HSq2 t4 t2
      refine yp 37 (by kernel_rfl) ?_
      refine WpT.tk 0 hS ?_
      simp only [nrm]
      refine WpT.tl 1 rfl (ye rfl rfl rfl (by kernel_rfl) z0) hS ?_
      simp only [nrm]
      refine WpT.tk 2 hS ?_
      simp only [nrm]
      refine WpT.tl 3 rfl (ye rfl rfl rfl (by kernel_rfl) y0) hS ?_
      simp only [nrm]
      refine WpT.tk 4 hS ?_
      simp only [nrm]
      refine WpT.tk 5 hS ?_
      simp only [nrm]
      refine WpT.tk 6 hS ?_
      simp only [nrm]
      refine WpT.tl 7 rfl (z2r (by rfl) rfl rfl (by kernel_rfl) z1) hS ?_
      simp only [nrm]
      refine WpT.tk 8 hS ?_
      simp only [nrm]
      refine WpT.tk 9 hS ?_
      simp only [nrm]
      refine WpT.tk 10 hS ?_
      simp only [nrm]
      refine WpT.tk 11 hS ?_
      simp only [nrm]
      refine WpT.tk 12 hS ?_
      simp only [nrm]
      refine WpT.tl 13 rfl (z2r (by rfl) rfl rfl (by kernel_rfl) z1) hS ?_
      simp only [nrm]
      refine WpT.tk 14 hS ?_
      simp only [nrm]
      refine WpT.tk 15 hS ?_
      simp only [nrm]
      refine WpT.tk 16 hS ?_
      simp only [nrm]
      refine WpT.tk 17 hS ?_
      simp only [nrm]
      refine WpT.tk 18 hS ?_
      simp only [nrm]
      refine WpT.tk 19 hS ?_
      simp only [nrm]
      refine WpT.tl 20 rfl (z2r (by rfl) rfl rfl (by kernel_rfl) z2) hS ?_
      simp only [nrm]
      refine WpT.tl 21 rfl (z1y (us := lgL r) (by rfl) rfl rfl z16 (by rw [z0b, h5]) yr) hS ?_
      simp only [nrm]
      refine WpT.tk 22 hS ?_
      simp only [nrm]
      refine WpT.tl 23 rfl (z2r (by rfl) rfl rfl (by kernel_rfl) z1) hS ?_
      simp only [nrm]
      refine WpT.on 24 rfl (fun K hK => ?_)
      go_simp; refine (HDYk.out _ (y9 hb0 hS)).mono ?_; rintro e w4 ⟨rfl, hb4⟩; replace hS := y9 hS hb4
      refine hK _ _ hS ?_; clear hK K; try simp only [nrm]
      refine WpT.tk 25 hS ?_
      simp only [nrm]
      refine WpT.tk 26 hS ?_
      simp only [nrm]
      refine WpT.tk 27 hS ?_
      simp only [nrm]
      refine WpT.of [(28, 78), (29, 79), (30, 80)] (hS) ?_
      simp only [nrm]
      refine WpT.of [(31, 81), (32, 82), (33, 83)] (hS) ?_
      simp only [nrm]
      refine WpT.of [(34, 84), (35, 85)] (hS) ?_
      simp only [nrm]
      refine WpT.tk 36 hS ?_
      simp only [nrm]
      refine WpT.done (by kernel_rfl) ?_ _
      skip
      go_wp2_with fail
      go_ret
      exact ⟨rfl, y9 hb0 hS⟩
     have hkc5 : kc ≤ c5 := by omega
     have HRTk := y8 (fun W (hb : Below w3.heap.size w3 W) => HRT.out ((z0c H (yg r.es)).take kc) A5 kc c5 W (by omega) ((HR5.out _ (y9 hbw2 hb)).take hkcn) hkc5 m5 (y9 hb0 hb))
     unfold z5m at HRTk
     generalize root H.nd H.em ((z0c H (yg r.es)).take kc) = RK at *
     by_cases hrk : RK = hd.root
     rotate_left
     ·have hX : X = false := by rw [HX2.out, HH.out, HSq2.out, if_neg (fun h => hrk h.2), Bool.false_and]
      subst hX
      have hrt : (!decide (RK = hd.root)) = true := by simp [hrk]
      clear HX2 HH HSq2 t4 t2 hrk
      refine yp 37 (by kernel_rfl) ?_
      refine WpT.tk 0 hS ?_
      simp only [nrm]
      refine WpT.tl 1 rfl (ye rfl rfl rfl (by kernel_rfl) z0) hS ?_
      simp only [nrm]
      refine WpT.tk 2 hS ?_
      simp only [nrm]
      refine WpT.tl 3 rfl (ye rfl rfl rfl (by kernel_rfl) y0) hS ?_
      simp only [nrm]
      refine WpT.tk 4 hS ?_
      simp only [nrm]
      refine WpT.tk 5 hS ?_
      simp only [nrm]
      refine WpT.tk 6 hS ?_
      simp only [nrm]
      refine WpT.tl 7 rfl (z2r (by rfl) rfl rfl (by kernel_rfl) z1) hS ?_
      simp only [nrm]
      refine WpT.tk 8 hS ?_
      simp only [nrm]
      refine WpT.tk 9 hS ?_
      simp only [nrm]
      refine WpT.tk 10 hS ?_
      simp only [nrm]
      refine WpT.tk 11 hS ?_
      simp only [nrm]
      refine WpT.tk 12 hS ?_
      simp only [nrm]
      refine WpT.tl 13 rfl (z2r (by rfl) rfl rfl (by kernel_rfl) z1) hS ?_
      simp only [nrm]
      refine WpT.tk 14 hS ?_
      simp only [nrm]
      refine WpT.tk 15 hS ?_
      simp only [nrm]
      refine WpT.tk 16 hS ?_
      simp only [nrm]
      refine WpT.tk 17 hS ?_
      simp only [nrm]
      refine WpT.tk 18 hS ?_
      simp only [nrm]
      refine WpT.tk 19 hS ?_
      simp only [nrm]
      refine WpT.tl 20 rfl (z2r (by rfl) rfl rfl (by kernel_rfl) z2) hS ?_
      simp only [nrm]
      refine WpT.tl 21 rfl (z1y (us := lgL r) (by rfl) rfl rfl z16 (by rw [z0b, h5]) yr) hS ?_
      simp only [nrm]
      refine WpT.tk 22 hS ?_
      simp only [nrm]
      refine WpT.tl 23 rfl (z2r (by rfl) rfl rfl (by kernel_rfl) z1) hS ?_
      simp only [nrm]
      refine WpT.on 24 rfl (fun K hK => ?_)
      go_simp; refine (HDYk.out _ (y9 hb0 hS)).mono ?_; rintro e w4 ⟨rfl, hb4⟩; replace hS := y9 hS hb4
      refine hK _ _ hS ?_; clear hK K; try simp only [nrm]
      refine WpT.tk 25 hS ?_
      simp only [nrm]
      refine WpT.tk 26 hS ?_
      simp only [nrm]
      refine WpT.tk 27 hS ?_
      simp only [nrm]
      refine WpT.tk 28 hS ?_
      simp only [nrm]
      refine WpT.tk 29 hS ?_
      simp only [nrm]
      refine WpT.tl 30 rfl (z2r (by rfl) rfl rfl (by kernel_rfl) z1) hS ?_
      simp only [nrm]
      refine WpT.tl 31 rfl (zd9 (s := 16) (by rfl) rfl (by kernel_rfl) (by kernel_rfl) (by rfl) (by rfl) hkc5) hS ?_
      simp only [nrm]
      refine WpT.tk 33 hS ?_
      simp only [nrm]
      refine WpT.tl 34 rfl (z1y (us := bv (dg hd.root)) (by rfl) rfl rfl yc (by rw [yb, yf]) z3) hS ?_
      simp only [nrm]
      refine WpT.on 32 rfl (fun K hK => ?_)
      go_simp; refine (HRTk.out _ hS).mono ?_; rintro e w5 ⟨rfl, hb5⟩; replace hS := y9 hS hb5
      refine hK _ _ hS ?_; clear hK K; try simp only [nrm]
      refine WpT.tl 35 rfl (zfu (by rfl) rfl (by rfl) (by rfl) HRL.out.1 HRL.out.2 hrt (fun W => by kernel_rfl)) hS ?_
      simp only [nrm]
      refine WpT.tk 36 hS ?_
      simp only [nrm]
      refine WpT.done (by kernel_rfl) ?_ _
      skip
      go_wp2_with fail
      go_ret
      exact ⟨rfl, y9 hb0 hS⟩
     ·have hrt : (!decide (RK = hd.root)) = false := by simp [hrk]
      have HN2 : Hid (z36 H r.o (yg r.es) 0 r.hs = z36 H r.o (yg r.es) (kc : Int) (r.hs.drop (q + 1))) := y8 (by rw [HH.out, HSq2.out, if_pos ⟨t4, hrk⟩])
      clear HX2 HH HSq2 t4 hrk
      refine yp 37 (by kernel_rfl) ?_
      refine WpT.tk 0 hS ?_
      simp only [nrm]
      refine WpT.tl 1 rfl (ye rfl rfl rfl (by kernel_rfl) z0) hS ?_
      simp only [nrm]
      refine WpT.tk 2 hS ?_
      simp only [nrm]
      refine WpT.tl 3 rfl (ye rfl rfl rfl (by kernel_rfl) y0) hS ?_
      simp only [nrm]
      refine WpT.tk 4 hS ?_
      simp only [nrm]
      refine WpT.tk 5 hS ?_
      simp only [nrm]
      refine WpT.tk 6 hS ?_
      simp only [nrm]
      refine WpT.tl 7 rfl (z2r (by rfl) rfl rfl (by kernel_rfl) z1) hS ?_
      simp only [nrm]
      refine WpT.tk 8 hS ?_
      simp only [nrm]
      refine WpT.tk 9 hS ?_
      simp only [nrm]
      refine WpT.tk 10 hS ?_
      simp only [nrm]
      refine WpT.tk 11 hS ?_
      simp only [nrm]
      refine WpT.tk 12 hS ?_
      simp only [nrm]
      refine WpT.tl 13 rfl (z2r (by rfl) rfl rfl (by kernel_rfl) z1) hS ?_
      simp only [nrm]
      refine WpT.tk 14 hS ?_
      simp only [nrm]
      refine WpT.tk 15 hS ?_
      simp only [nrm]
      refine WpT.tk 16 hS ?_
      simp only [nrm]
      refine WpT.tk 17 hS ?_
      simp only [nrm]
      refine WpT.tk 18 hS ?_
      simp only [nrm]
      refine WpT.tk 19 hS ?_
      simp only [nrm]
      refine WpT.tl 20 rfl (z2r (by rfl) rfl rfl (by kernel_rfl) z2) hS ?_
      simp only [nrm]
      refine WpT.tl 21 rfl (z1y (us := lgL r) (by rfl) rfl rfl z16 (by rw [z0b, h5]) yr) hS ?_
      simp only [nrm]
      refine WpT.tk 22 hS ?_
      simp only [nrm]
      refine WpT.tl 23 rfl (z2r (by rfl) rfl rfl (by kernel_rfl) z1) hS ?_
      simp only [nrm]
      refine WpT.on 24 rfl (fun K hK => ?_)
      go_simp; refine (HDYk.out _ (y9 hb0 hS)).mono ?_; rintro e w4 ⟨rfl, hb4⟩; replace hS := y9 hS hb4
      refine hK _ _ hS ?_; clear hK K; try simp only [nrm]
      refine WpT.tk 25 hS ?_
      simp only [nrm]
      refine WpT.tk 26 hS ?_
      simp only [nrm]
      refine WpT.tk 27 hS ?_
      simp only [nrm]
      refine WpT.tk 28 hS ?_
      simp only [nrm]
      refine WpT.tk 29 hS ?_
      simp only [nrm]
      refine WpT.tl 30 rfl (z2r (by rfl) rfl rfl (by kernel_rfl) z1) hS ?_
      simp only [nrm]
      refine WpT.tl 31 rfl (zd9 (s := 16) (by rfl) rfl (by kernel_rfl) (by kernel_rfl) (by rfl) (by rfl) hkc5) hS ?_
      simp only [nrm]
      refine WpT.tk 33 hS ?_
      simp only [nrm]
      refine WpT.tl 34 rfl (z1y (us := bv (dg hd.root)) (by rfl) rfl rfl yc (by rw [yb, yf]) z3) hS ?_
      simp only [nrm]
      refine WpT.on 32 rfl (fun K hK => ?_)
      go_simp; refine (HRTk.out _ hS).mono ?_; rintro e w5 ⟨rfl, hb5⟩; replace hS := y9 hS hb5
      refine hK _ _ hS ?_; clear hK K; try simp only [nrm]
      refine WpT.tl 35 rfl (zfu (by rfl) rfl (by rfl) (by rfl) HRL.out.1 HRL.out.2 hrt (fun W => by kernel_rfl)) hS ?_
      simp only [nrm]
      refine WpT.tk 36 hS ?_
      simp only [nrm]
      refine WpT.done (by kernel_rfl) ?_ _
      skip
      have z1x := HB3.out _ hS
      go_wp2_with fail
      exact ⟨⟨q + 1, (kc : Int), rfl, by go_num, by omega, by omega, HN2, y9 hbw2 hS⟩, by simp [intOf]; omega⟩
    ·obtain rfl : q = r.hn := by omega
     have HX3 : Hid (X = (decide (r.s = (k : Int)) && decide (z12 H.nd H.em (z0c H (yg r.es)) = r.ts))) := y8 (by
      rw [HX2.out, HH.out, List.drop_of_length_le (by rw [HHL.out]; exact Nat.le_refl _)]
      rfl)
     clear HX2 HH HKH HHE HDY HRT HRLt
     replace hbw := y9 hbw hbw2
     have HR6 := y8 (fun W (h : Below wr.heap.size wr W) => HR5.out _ (y9 hbw2 h))
     have HB6 := y8 (fun W (h : Below wr.heap.size wr W) => y9 hb0 (y9 hbw h))
     have HQ6 := y8 (fun W (h : Below wr.heap.size wr W) => HQ0.out _ (y9 hbw h))
     clear HR5 hbw hbw2 hla
     have HLK : Hid ((z0c H (yg r.es)).length = k) := y8 (HLN.out.trans HLE.out)
     generalize z0c H (yg r.es) = LV at *
     go_wp2_with ((with_reducible show sl 9); refine z1d rfl rfl zbe ?_; intro w6 g9 hg9 b9 hb6 lt9; have HG9 : Hid (wr.heap.size ≤ g9 ∧ g9 < w6.heap.size) := y8 ⟨by omega, lt9⟩; clear hg9 lt9)
     have HW6 := y8 (fun W (h : Below g9 w6 W) => (hb6.trans (h.mono HG9.out.1)))
     have HT0 : Hid (∃ A m c, Blk w6 g9 39 (pkC ((0 : Nat) : Int) A m c) ∧ m = (z12 H.nd H.em (LV.take 0)).length ∧ yq w6 w6.heap.size (.slice A m c) (z12 H.nd H.em (LV.take 0)) ∧ Below g9 w6 w6) := y8 ⟨none, 0, 0, b9, by rw [List.take_zero, z38]; rfl, by rw [List.take_zero, z38]; exact yq.nil _ _, Below.refl _ _⟩
     clear b9 hb6
     go_loopw [92] (fun v92 wr => ∃ j : Nat, v92 = .int .i64 (j : Int) ∧ j ≤ k ∧ Hid (∃ A m c, Blk wr g9 39 (pkC (j : Int) A m c) ∧ m = (z12 H.nd H.em (LV.take j)).length ∧ yq wr w6.heap.size (.slice A m c) (z12 H.nd H.em (LV.take j)) ∧ Below g9 w6 wr)) (fun v92 _ => k - (intOf v92).toNat)
     case atStart => exact ⟨0, rfl, by omega, HT0⟩
     case round =>
      obtain ⟨j, rfl, hj, HJ⟩ := hrel
      obtain ⟨A7, m7, c7, b7, hm7, o7, hbl⟩ := HJ.out
      clear HJ HT0
      have hbX := HW6.out _ hbl
      by_cases hjk : j < k
      ·have hjl : j < LV.length := by rw [HLK.out]; exact hjk
       have dj : decide ((j : Int) < (k : Int)) = true := by rw [decide_eq_true_eq]; omega
       obtain ⟨ad, rfl, hcd⟩ := (HR6.out _ hbX).elem hjl
       have hl2 : (LV.take j).length = j := by rw [List.length_take]; omega
       have hj40 : j < 1099511627776 := by omega
       have HPj := y8 (HP.out (LV.take j) LV[j] (by rw [hl2]; exact hj40))
       have HM : Hid (m7 ≤ 1000) := y8 (by have := HPF.out (LV.take j) (by rw [hl2]; exact hj40); omega)
       have HTJ : Hid (LV.take (j + 1) = LV.take j ++ [LV[j]]) := y8 (List.take_succ_eq_append_getElem hjl)
       rw [hl2] at HPj
       have HRD : Hid (RdD wr A7 m7 (z12 H.nd H.em (LV.take j)) ∧ m7 ≤ c7 ∧ c7 ≤ maxLen) := y8 (by
        obtain ⟨A', c', e, h1, h2, h3⟩ := yq.formN o7 hm7.symm
        injection e with e1 e2 e3
        subst e1; subst e3; exact ⟨h3, h1, h2⟩)
       have HAj := y8 (fun W (h : Below wr.heap.size wr W) => HAP.out (j : Int) LV[j] A7 m7 c7 (z12 H.nd H.em (LV.take j)) W (HB6.out _ (y9 hbX h)) HM.out (HRD.out.1.below h) HRD.out.2.1 HRD.out.2.2)
       rw [HPj.out] at HAj
       rw [← HTJ.out] at HAj
       have HLT7 : Hid (g9 < wr.heap.size ∧ w6.heap.size ≤ wr.heap.size) := y8 ⟨b7.lt, hbl.size⟩
       generalize LV[j] = x at *
       generalize hTM : z12 H.nd H.em (LV.take (j + 1)) = TM at *
       have HTM := y8 hTM
       clear o7 hm7 HPj HTJ HRD HM hjl hl2 hTM hj40
       unfold z7s at HAj
       have hcp : ∀ j' u, ([.int .i64 (j : Int), .slice A7 m7 c7] : List Value)[j']? = some u → wr.cell? ((⟨g9, 0, none⟩ : Addr).add j') = some u := yh (xs := [.int .i64 (j : Int), .slice A7 m7 c7]) b7
       go_wp2_with (first
        | ((with_reducible show sl 95); refine yk (us := bv (dg x)) rfl rfl rfl yc (by rw [yb, yf]) hcd ?_)
        | ((with_reducible show sl 11); refine z6x (n := x) rfl rfl rfl rfl (fun _ => rfl) (fun _ => rfl) ?_; intro w7 g11 hg11 b11 hb7; clear hg11; replace hcp := fun j' u h => cell_later hb7 (hcp j' u h); have hc11 := yh (xs := bv (dg x)) b11)
        | ((with_reducible show sl 97); refine yk (us := [.int .i64 (j : Int), .slice A7 m7 c7]) rfl rfl rfl z5a (by rw [z2q]; rfl) hcp ?_)
        | ((with_reducible show sl 98); refine yk (us := bv (dg x)) rfl rfl rfl yc (by rw [yb, yf]) hc11 ?_))
       refine (HAj.out _ hb7).mono ?_
       rintro e w8 ⟨A8, m8, c8, rfl, o8, hb8⟩
       have o9 : yq w8 w6.heap.size (.slice A8 m8 c8) TM := yq.lower o8 (by have := HLT7.out; have := hb7.size; omega)
       have hb78 := y9 hb7 hb8
       have b8 := b7.below hb78
       clear hcp hcd hc11 b11 b7 o8 hb7 hb8
       go_wp2_with ((with_reducible show sn); refine z05 (vs := pkC ((j + 1 : Nat) : Int) A8 m8 c8) rfl rfl rfl rfl b8 rfl (by rw [z2q]; rfl) (z6p _ _ _ _) ?_; intro w10 ht10 b10)
       exact ⟨⟨j + 1, by go_num, by omega, y8 ⟨A8, m8, c8, b10, by rw [HTM.out]; exact zj3 o9, by rw [HTM.out]; exact ht10.own o9 (fun e => by have := (World.ownsRow.lt o9 _ e).1; have := HG9.out; omega), (hbl.trans (hb78.mono (by have := HLT7.out; omega))).trans (ht10.below _ (Nat.le_refl _))⟩⟩, by simp [intOf]; omega⟩
      ·obtain rfl : j = k := by omega
       have HL : Hid (LV.take j = LV) := y8 (List.take_of_length_le (by rw [HLK.out]; exact Nat.le_refl _))
       rw [HL.out] at hm7 o7
       have e0 : wr.cell? ⟨g9, 0, none⟩ = some (.int .i64 (j : Int)) := by rw [b7.cell 0]; rfl
       have e1 : wr.cell? ⟨g9, 1, none⟩ = some (.slice A7 m7 c7) := by rw [b7.cell 1]; rfl
       have x2 := lg_c2 (HQ6.out _ hbX)
       have x3 := zq4 (HQ6.out _ hbX)
       have hbF := HB6.out _ hbX
       obtain ⟨A', c', he, k1, k2, k3⟩ := yq.formN o7 hm7.symm
       injection he with i1 i2 i3
       subst i1
       subst i3
       have hp40 := HPF.out LV (by rw [HLK.out]; omega)
       have HEQk := y8 (HEQ.out (z12 H.nd H.em LV) A7 m7 c7 wr hbF k3 (by omega) (HPL.out LV HLL.out))
       clear HPF HPL HEQ HP HAP HW6 HR6 HB6 HQ6 o7 hm7 b7 hbl hbX k1 k2 k3 hp40
       generalize decide (z12 H.nd H.em LV = r.ts) = PB at *
       rcases z3l (j : Int) r.s with ⟨t1, q1, q2, q3⟩ | ⟨t1, q1, q2, q3⟩
       ·have hX : X = PB := by rw [HX3.out, show decide (r.s = (j : Int)) = true by rw [decide_eq_true_eq]; exact t1.symm, Bool.true_and]
        subst hX
        clear HX3 t1
        go_wp2_with fail
        refine HEQk.out.mono ?_
        rintro e w9 ⟨rfl, hb9⟩
        go_wp2_with fail
        go_ret
        exact ⟨rfl, y9 hbF hb9⟩
       ·have hX : X = false := by rw [HX3.out, show decide (r.s = (j : Int)) = false by rw [decide_eq_false_iff_not]; exact fun e => t1 e.symm, Bool.false_and]
        subst hX
        clear HX3 t1
        go_wp2_with fail
        go_ret
        exact ⟨rfl, hbF⟩
def z0a : Key := ⟨1073741826, 1, ⟨#[99]⟩, 0, 1048577⟩
theorem zmu (a b d : Int) (s : ByteArray) (W : World) : (Instr.build 44 #[(0, .int .i64 a), (1, .int .i64 b), (2, .string s), (4, .int .i64 d)]).run Tryz.prog W = .ok (z0v ⟨a, b, s, 0, d⟩) W := by kernel_rfl
theorem zw4 (W : World) : (zeroValue 44).run Tryz.prog W = .ok (z0v z3z) W := by kernel_rfl
theorem zpr (w : World) : Calls Tryz.prog 49 #[.int .i64 2] w fun e w' => e = .returned (z0v z0a) ∧ Below w.heap.size w w' := by
 obtain ⟨wa, hwa, hb0, q1⟩ : ∃ wa : World, wa = w.alloc (.cells (z0p z3z) 44) ∧ Below w.heap.size w wa ∧ Blk wa w.heap.size 44 (z0p z3z) := ⟨_, rfl, (Below.refl w.heap.size w).alloc (Nat.le_refl _) _, Blk.new _ _ _⟩
 have HWA := y8 hwa
 clear hwa
 go_enter Tryz.func49, Tryz.ntmps49
 go_upto_region 1 with (refine z21 rfl rfl (zw4 _) ?_)
 change Code.wp _ _ _ _ (w.alloc (.cells (z0p z3z) 44))
 rw [← HWA.out]
 go_wp2_with (first
  | ((with_reducible show sl 10); refine zfn (l := [99]) rfl rfl yx (by kernel_rfl) rfl (Rd.new1 _ _ _) ?_)
  | ((with_reducible show sl 11); refine z89 rfl rfl rfl rfl rfl rfl (zmu 1073741826 1 1048577 ⟨#[99]⟩) ?_)
  | ((with_reducible show sn); refine z05 (vs := z0p z0a) rfl rfl rfl rfl (q1.alloc _) rfl (by kernel_rfl) (by simp [Value.oneCell']) ?_; intro w9 ht9 b9))
 exact z09 rfl rfl rfl b9 z76 (by kernel_rfl) ⟨rfl, (hb0.alloc (by have := q1.lt; omega) _).trans (ht9.below _ (Nat.le_refl _))⟩
end
end Go.Proofs.YtcapckngikekpaaGreatDoor
