/-
  Known of the functions of this seat's laws, joined. Conditions: each theorem's own.
-/
import Derived.Test.YtcapckngikekpaaGreatDoorF13
import Derived.Test.YtcapckngikekpaaGreatDoorCards
import Derived.Test.YtcapckngikekpaaGreatDoorTie
import Derived.ProofKit
import Derived.OpenShut
import Derived.ShutString
import Derived.SliceStrings
import Derived.Carry
import Derived.Deep.DeepHandedRow
import Derived.Lib.LaidTab
import Derived.Stop.LaidErr
import Derived.WideKeyPair
namespace Go.Proofs.YtcapckngikekpaaGreatDoor
set_option linter.unusedSimpArgs false
set_option linter.unusedVariables false
set_option maxRecDepth 100000
set_option maxHeartbeats 16000000
section
open Go.RowKit Exch Merk Ring
theorem zv2 {H : He} (L : Les H) (hne : H.nd (H.lf (z52 H)) (sB H) ≠ H.nd (sA H) (sB H)) (w : World) (hg : GCon w) (hrc : RCon w) (hgb : GBru w) :
  Calls Tryz.prog 11 #[] w (BIs true w) := by
 have HNE := ya hne
 have HNW : Hid (∀ W, Calls Tryz.prog 18 #[.int .i64 2] W fun e w' => e = .returned (.tuple #[lgV (z15 2), .int .i64 0]) ∧ Below W.heap.size W w') := ya (fun W => by
  have := zri 2 W
  rw [if_pos (by decide), if_pos (by decide)] at this
  exact this)
 have HKY := ya (fun W => zqt W)
 have HAPP := ya (fun (r : LgR) (M : Lg) (v : EvR) (W : World) (hb : Below w.heap.size w W) (h : z0l W r) (e : yx r = M) (hv : z1d W v) (hf : z0x v.e ∧ z16 v.e) (h1 : M.events.length ≤ 100) (h2 : M.tops.length ≤ 100) => (by
  have z := z5q.of h e
  have := zmv L r v W h hv (by rw [z.en]; omega) (by rw [z.tn]; omega) hf.1 hf.2 (hg.below hb) (hgb.below hb)
  rw [e] at this; exact this : Calls Tryz.prog 23 #[lgV r, evV v] W (z86 r v (z56 H M v.e) W)))
 have HSEA := ya (fun (r : LgR) (M : Lg) (W : World) (hb : Below w.heap.size w W) (h : z0l W r) (e : yx r = M) (ho : M.office = 2) (hf : ∀ e ∈ M.events, z0x e ∧ z16 e) (h1 : M.events.length ≤ 100) (h2 : M.tops.length ≤ 100) (h3 : M.heads.length ≤ 100) => (by
  have z := z5q.of h e
  have := zv5 L r z0h W h (by rw [z.en]; omega) (by rw [z.hn]; omega) (by rw [z.tn]; omega) (zau z.ev hf) zm8 (by decide) (by rw [z.off, ho]; decide) (hg.below hb)
  rw [e] at this; exact this : Calls Tryz.prog 24 #[lgV r, z10 z0h] W (z8x r (z70 H M z0h) W)))
 have HRCP := ya (fun (r : LgR) (M : Lg) (W : World) (hb : Below w.heap.size w W) (h : z0l W r) (e : yx r = M) (ho : M.office = 2) (hf : ∀ e ∈ M.events, z0x e ∧ z16 e) (h1 : M.events.length ≤ 100) => (by
  have z := z5q.of h e
  have := zl2 L r z0h 1 W h (by rw [z.en]; omega) (zau z.ev hf) zm8 (by decide) (by rw [z.off, ho]; decide) (hg.below hb)
  rw [e] at this; exact this : Calls Tryz.prog 29 #[lgV r, z10 z0h, .int .i64 1] W (z87 (z51 H M z0h 1) W)))
 have HF4 : ∀ e ∈ (sL4 H).events, z0x e ∧ z16 e := by intro e he; simp only [sL4, List.mem_cons, List.not_mem_nil, or_false] at he; rcases he with rfl | rfl; exact zav; exact zim
 have HHI : ∀ (r : LgR), z5q r (sL4 H) → z5o r := fun r z x hx => by
  rw [z.hs] at hx; rw [z.en]
  simp only [sL4, List.mem_cons, List.not_mem_nil, or_false] at hx
  rcases hx with rfl | rfl
  ·exact ⟨by show (0 : Int) ≤ 1; decide, by show (1 : Int) ≤ 2; decide⟩
  ·exact ⟨by show (0 : Int) ≤ 2; decide, by show (2 : Int) ≤ 2; decide⟩
 have HPRF := ya (fun (r : LgR) (W : World) (hb : Below w.heap.size w W) (h : z0l W r) (e : yx r = sL4 H) (hl : z0k (sHb H)) => (by
  have z := z5q.of h e
  have := zky L r 1 (sHb H) W h (by rw [z.en]; show 2 ≤ 1000000; omega) (by rw [z.hn]; show 2 ≤ 1000000; omega) (zau z.ev HF4) (HHI r z) hl (hg.below hb)
  rw [e, zur] at this; exact this : Calls Tryz.prog 27 #[lgV r, .int .i64 1, hdV (sHb H)] W (ShIs (sSh H, 0) W)))
 have HCNS := ya (fun (r : LgR) (W : World) (hb : Below w.heap.size w W) (h : z0l W r) (e : yx r = sL4 H) (hla : z0k (sHa H)) (hlb : z0k (sHb H)) => (by
  have z := z5q.of h e
  have := zhz L r (sHa H) (sHb H) W h (by rw [z.en]; show 2 ≤ 1000000; omega) (by rw [z.hn]; show 2 ≤ 1000000; omega) (zau z.ev HF4) (HHI r z) hla hlb (hg.below hb)
  rw [e, zun] at this; exact this : Calls Tryz.prog 28 #[lgV r, hdV (sHa H), hdV (sHb H)] W (z35 ([sB H], 0) W)))
 have HVAL := ya (fun (r : LgR) (W : World) (hb : Below w.heap.size w W) (h : z0l W r) (e : yx r = sL4 H) => (by
  have z := z5q.of h e
  have := zw3 L r W h (by rw [z.en]; show 2 ≤ 1000000; omega) (by rw [z.hn]; show 2 ≤ 1000000; omega) (by rw [z.tn]; show 1 ≤ 1000; omega) (zau z.ev HF4) (hg.below hb) (hgb.below hb)
  rw [e, zuz] at this; exact this : Calls Tryz.prog 22 #[lgV r] W (BIs true W)))
 have HF1 : Hid (∀ e ∈ (sL1 H).events, z0x e ∧ z16 e) := ya (by intro e he; simp only [sL1, List.mem_cons, List.not_mem_nil, or_false] at he; subst he; exact zav)
 have HF3 : Hid (∀ e ∈ (sL3 H).events, z0x e ∧ z16 e) := ya HF4
 have HLF := ya (fun f W (hf : z7b f) (hb : Below w.heap.size w W) => zg1 L f W hf.all (hrc.below hb))
 have hfb : z7b (z52 H) ∧ z7b (ym H z1n) := ⟨⟨z65 (by rfl)⟩, ⟨z65 (by rfl)⟩⟩
 have hfh : z3y (sHa H) ∧ z3y (sHb H) := ⟨⟨z65 (by rfl)⟩, ⟨z65 (by rfl)⟩⟩
 have hfr : z1j [(sRc H).office, (sRc H).serial] := z65 (by rfl)
 have hfl : (sRc H).face.blind < 2 ^ 128 := zas L z1n
 have hrl : (sRc H).sig < 2 ^ 128 := L.rlt ⟨#[99]⟩ 2 1 (sA H)
 have HFB := ya hfb
 have HLL := ya L.llt
 have HCS := ya (fun (A : Option Addr) (s : ShR) (W : World) (hb : Below w.heap.size w W) (hr : RdK W A 1 [z0h]) (hs : z28 W s) (e : s.s = sSh H) => (by
  have := zht L [z0h] A 1 1 s W (by omega) hr z5e.1 z5e.2 (by rw [e]; exact hfb.2) (by rw [e]; exact hfh.2) hs (by have := hs.rd.len; rw [e] at this; have h1 : (sSh H).path.length = 1 := rfl; omega) (hg.below hb)
  rw [e, zux] at this; exact this : Calls Tryz.prog 38 #[.slice A 1 1, shV s] W fun e w' => e = .returned (.int .i64 0) ∧ Below W.heap.size W w'))
 have HCH := ya (fun (A B : Option Addr) (c : Nat) (W : World) (hb : Below w.heap.size w W) (hr : RdK W A 1 [z0h]) (hp : RdD W B 1 [sB H]) (h1 : 1 ≤ c) (h2 : c ≤ maxLen) (hla : z0k (sHa H)) (hlb : z0k (sHb H)) => (by
  have := zoa L [z0h] A 1 1 (sHa H) (sHb H) [sB H] B 1 c W (by omega) hr z5e.1 z5e.2 hfh.1 hfh.2 hla hlb (by omega) hp (fun x hx => by rw [List.mem_singleton.1 hx]; exact L.llt _) h1 h2 (hg.below hb)
  rw [zup] at this; exact this : Calls Tryz.prog 40 #[.slice A 1 1, hdV (sHa H), hdV (sHb H), .slice B 1 c] W fun e w' => e = .returned (.int .i64 0) ∧ Below W.heap.size W w'))
 have HCR := ya (fun (A : Option Addr) (W : World) (hb : Below w.heap.size w W) (hr : RdK W A 1 [z0h]) => (by
  have := zhs L [z0h] A 1 1 (sRc H) W (by omega) hr z5e.1 z5e.2 hfr hfb.2.all hrl (hg.below hb)
  rw [zul] at this; exact this : Calls Tryz.prog 42 #[.slice A 1 1, rcV (sRc H)] W fun e w' => e = .returned (.int .i64 0) ∧ Below W.heap.size W w'))
 have HRF := ya (fun (A : Option Addr) (s : ShR) (W : World) (hb : Below w.heap.size w W) (hr : RdK W A 1 [z0h]) (hs : z28 W s) (e : s.s = sSh H) => (by
  have := zlb L [z0h] A 1 1 (sRc H) s W (by omega) hr z5e.1 z5e.2 hfr hfb.2 hrl hfl (by rw [e]; exact hfb.2) (by rw [e]; exact hfh.2) hs (by have := hs.rd.len; rw [e] at this; have h1 : (sSh H).path.length = 1 := rfl; omega) (hg.below hb)
  rw [e, zut] at this; exact this : Calls Tryz.prog 44 #[.slice A 1 1, rcV (sRc H), shV s] W fun e w' => e = .returned (.bool false) ∧ Below W.heap.size W w'))
 have HRB := ya (fun (A : Option Addr) (s : ShR) (W : World) (hb : Below w.heap.size w W) (hr : RdK W A 1 [z0h]) (hs : z28 W s) (e : s.s = z6y H) => (by
  have := zlb L [z0h] A 1 1 (sRc H) s W (by omega) hr z5e.1 z5e.2 hfr hfb.2 hrl hfl (by rw [e]; exact hfb.1) (by rw [e]; exact hfh.2) hs (by have := hs.rd.len; rw [e] at this; have h1 : (z6y H).path.length = 1 := rfl; omega) (hg.below hb)
  rw [e, zuu H hne] at this; exact this : Calls Tryz.prog 44 #[.slice A 1 1, rcV (sRc H), shV s] W fun e w' => e = .returned (.bool false) ∧ Below W.heap.size W w'))
 have HFK := ya (fun (A : Option Addr) (W : World) (hb : Below w.heap.size w W) (hr : RdK W A 1 [z0h]) (hla : z0k (sHa H)) (hlb : z0k (sHb H)) => (by
  have := zq9 L [z0h] A 1 1 (sHa H) (sHb H) W (by omega) hr z5e.1 z5e.2 hfh.1 hfh.2 hla hlb (hg.below hb)
  rw [zuo] at this; exact this : Calls Tryz.prog 46 #[.slice A 1 1, hdV (sHa H), hdV (sHb H)] W fun e w' => e = .returned (.bool false) ∧ Below W.heap.size W w'))
 have HOP := ya (fun (v : EvR) (W : World) (hb : Below w.heap.size w W) (hv : z1d W v) (e : v.e = z1n) => (by
  have := zs1 L (ym H z1n) v W hfl hv (by rw [e]; exact zav.1) (by rw [e]; exact zav.2) (hg.below hb)
  rw [e, decide_eq_true rfl] at this; exact this : Calls Tryz.prog 16 #[fcV (ym H z1n), evV v] W fun e w' => e = .returned (.bool true) ∧ Below W.heap.size W w'))
 obtain ⟨NN, hNN⟩ : ∃ x, x = z9w := ⟨_, rfl⟩
 have HD8 := ya (fun W => (by rw [hNN]; exact znu W : (Instr.build 25 #[(0, .int .u8 8)]).run Tryz.prog W = .ok (dgV NN) W))
 have HNN : Hid ((⟨1, 1, 5, 7, 3, 9, 0, [1, 2], [], NN⟩ : Ev) = z1n) := ya (by rw [hNN]; rfl)
 have HNL : Hid (NN < 2 ^ 128) := ya (by rw [hNN]; exact zue)
 clear hNN
 have hlg5 := z5b
 have hsz : ∀ r' : LgR, (lgC r').size = 5 := z5a
 have hsh : ∀ h' : Hd, (hdC h').size = 36 := z4v
 have hs25 : ∀ r' : EvR, (evC r').size = 25 := z47
 have hs41 : ∀ r' : Rc, (rcC r').size = 41 := zd4
 have hs60 : ∀ r' : ShR, (shC r').size = 60 := zdh
 have h25 := z2t
 have h36 := z1v
 have h41 := z50
 have h60 := z71
 have h23 := z39
 clear hg hrc hgb hne L hfb hfh hfr hfl hrl HF4 HHI
 unfold BIs at *
 unfold isD at HLF
 go_enter Tryz.func11, Tryz.ntmps11
 go_wp2_with fail
 refine (HNW.out _).mono ?_
 rintro e w1 ⟨rfl, hb1⟩
 go_upto_region 3 with (first
  | ((with_reducible show sl 1); refine z17 (z := lgC (z15 0)) (vs := lgC (z15 2)) rfl rfl rfl rfl (z79 _) (fun _ => rfl) (fun _ => rfl) rfl (by rw [yy, hsz]) (z2v _) ?_; intro w2 g1 hg1 b1 hb2 lt2; have HG1 : Hid (w.heap.size ≤ g1 ∧ g1 < w2.heap.size) := ya ⟨by have := hb1.size; omega, lt2⟩; clear hg1 lt2)
  | ((with_reducible show sl 27); refine zwu (p := 1) (q := 2) (by rfl) rfl rfl rfl ?_; intro w3 gv hgv rv hb3; have HGV : Hid (g1 < gv) := ya (by have := HG1.out; omega); clear hgv)
  | ((with_reducible show sl 28); refine z2l rfl rfl rfl HD8.out ?_)
  | ((with_reducible show sl 29); refine zwl rfl rfl rfl rfl rfl rfl rfl rfl rfl rfl (znv _ NN) ?_)
  | ((with_reducible show sl 3); refine z17 (z := evC z8p) (vs := evC ⟨⟨1, 1, 5, 7, 3, 9, 0, [1, 2], [], NN⟩, some ⟨gv, 0, none⟩, 2, 2, none, 0, 0⟩) rfl rfl rfl rfl (ze2 _) (fun _ => rfl) (fun _ => rfl) (by rw [hs25, hs25]) (by rw [z1z, hs25]) (zcw _) ?_; intro w4 g3 hg3 b3 hb4 lt4; have HN3 : Hid (g3 ≠ g1) := ya (by have := HG1.out; have := hb3.size; omega); clear hg3 lt4))
 have hb24 := yb hb3 hb4
 replace b1 := b1.below hb24
 have hev : z1d w4 ⟨⟨1, 1, 5, 7, 3, 9, 0, [1, 2], [], NN⟩, some ⟨gv, 0, none⟩, 2, 2, none, 0, 0⟩ := ⟨rfl, rv.below hb4, Nat.le_refl _, by simp [maxLen], ⟨rfl, Rd.none_ _⟩, Nat.le_refl _, Nat.zero_le _, HNL.out⟩
 have HGV4 : Hid (gv < w4.heap.size) := ya (by have := rv.get (k := 0) (by omega); obtain ⟨ad, e, hc⟩ := this; injection e with e; subst e; have := hb4.size; exact Nat.lt_of_lt_of_le (zo2 hc) this)
 have HEA : Hid (z85 g1 ⟨⟨1, 1, 5, 7, 3, 9, 0, [1, 2], [], NN⟩, some ⟨gv, 0, none⟩, 2, 2, none, 0, 0⟩) := ya ⟨fun _ ad e h => by injection e with e; subst e; have := HGV.out; exact absurd h (by show gv ≠ g1; omega), fun _ => z2r.none g1⟩
 have HEU : Hid (∀ g, w4.heap.size ≤ g → z85 g ⟨⟨1, 1, 5, 7, 3, 9, 0, [1, 2], [], NN⟩, some ⟨gv, 0, none⟩, 2, 2, none, 0, 0⟩) := ya (fun g hg => ⟨fun _ ad e h => by injection e with e; subst e; have := HGV4.out; exact absurd h (by show gv ≠ g; omega), fun _ => z2r.none g⟩)
 have hbw : Below w.heap.size w w4 := yb (yb hb1 hb2) hb24
 have hok : z0l w4 (z15 2) := z0l.new w4 2
 clear rv hb1 hb2 hb3 hb4 hb24
 obtain ⟨eR, heR⟩ : ∃ x : EvR, x = ⟨⟨1, 1, 5, 7, 3, 9, 0, [1, 2], [], NN⟩, some ⟨gv, 0, none⟩, 2, 2, none, 0, 0⟩ := ⟨_, rfl⟩
 have HER : Hid (eR.e = z1n) := ya (by rw [heR]; exact HNN.out)
 rw [← heR] at b3 hev HEA HEU ⊢
 have HFE : Hid (z0x eR.e ∧ z16 eR.e) := ya (by rw [HER.out]; exact zav)
 clear heR HGV HGV4
 have hlr := z11 b1
 have hle := yv (xs := evL eR) b3
 have hAP1 : Hid (Calls Tryz.prog 23 #[lgV (z15 2), evV eR] w4 (z86 (z15 2) eR (sL1 H, 0) w4)) := ya (by
  have := HAPP.out (z15 2) sL0 eR w4 hbw hok rfl hev HFE.out (by decide) (by decide)
  rw [HER.out, zuf] at this
  exact this)
 go_wp2_with (first
  | ((with_reducible show sl 31); refine yj (us := lgL (z15 2)) rfl rfl rfl z04 (by rw [yy, hlg5]) hlr ?_)
  | ((with_reducible show sl 32); refine yj (us := evL eR) rfl rfl rfl z29 (by rw [z1z, h25]) hle ?_))
 refine hAP1.out.mono ?_
 rintro e w5 ⟨r1, rfl, he1, hok1, hb5, haw1⟩
 have HAW1 := ya (haw1 g1 (.inl b1.lt) (z1q.new g1 2) HEA.out)
 have HUN1 : Hid (∀ g, w5.heap.size ≤ g → z1q g r1) := ya (fun g hg => haw1 g (.inr hg) (z1q.new g 2) (HEU.out g (by have := hb5.size; omega)))
 replace b1 := b1.below hb5
 clear hok haw1 hlr hle hAP1
 go_upto_region 4 with ((with_reducible show sn); refine z01 (vs := lgC r1) rfl rfl rfl rfl b1 (by rw [hsz, hsz]) (by rw [yy, hsz]) (z2v _) ?_; intro w6 ht6 b6)
 have kp : Kp g1 w4 w6 := (Kp.of hb5).turn ht6
 replace hok1 := hok1.turned ht6 HAW1.out
 replace HUN1 : Hid (∀ g, w6.heap.size ≤ g → z1q g r1) := ya (fun g hg => HUN1.out g (by rw [← ht6.size]; exact hg))
 clear b1 hb5 ht6
 replace b3 := kp.blk b3 HN3.out
 replace hev := kp.ev hev HEA.out
 replace HEU := ya (fun g (hg : w6.heap.size ≤ g) => HEU.out g (by have := kp.size; omega))
 replace hbw := hbw.trans (kp.below _ HG1.out.1 hbw.size)
 clear kp
 have hlr := z11 b6
 have hRC := ya (fun W (hb : Below w6.heap.size w6 W) => (by
  have := HRCP.out r1 (sL1 H) W (yb hbw hb) (hok1.below hb) he1 rfl HF1.out (by show 1 ≤ 100; omega)
  rw [zus] at this
  exact this : Calls Tryz.prog 29 #[lgV r1, z10 z0h, .int .i64 1] W (z87 (sRc H, 0) W)))
 unfold z87 at hRC
 go_cut [5, 6] (fun v5 v6 wx => ∃ g5, v5 = .pointer (some ⟨g5, 0, none⟩) ∧ v6 = .int .i64 0 ∧ w6.heap.size ≤ g5 ∧ Blk wx g5 69 (rcC (sRc H)) ∧ Below w6.heap.size w6 wx)
 case first =>
  have hS : Below w6.heap.size w6 w6.drew := (Below.refl _ _).drew
  refine yq 7 (by kernel_rfl) ?_
  refine WpT.tl 0 rfl (z07 (us := lgL r1) rfl rfl rfl z04 (by rw [yy, hlg5]) hlr) hS ?_
  simp only [nrm]
  refine WpT.fork (i := 1) (j := 6) rfl rfl (by kernel_rfl) (fun K hK => ?_) (fun K hK => ?_)
  ·go_simp; refine (HKY.out _).mono ?_; rintro e w8 ⟨rfl, hb8⟩; (try replace bV := bV.below hb8); replace hS := yb hS hb8
   refine hK _ _ hS ?_; clear hK K; try simp only [nrm]
   refine WpT.fork (i := 2) (j := 6) rfl rfl (by kernel_rfl) (fun K hK => ?_) (fun K hK => ?_)
   ·go_simp; refine (hRC.out _ hS).mono ?_; rintro e w9 ⟨rfl, hb9⟩; (try replace bV := bV.below hb9); replace hS := yb hS hb9
    refine hK _ _ hS ?_; clear hK K; try simp only [nrm]
    refine WpT.tk 3 hS ?_
    simp only [nrm]
    refine WpT.tk 4 hS ?_
    simp only [nrm]
    refine WpT.tp 5 (hS) ?_
    simp only [nrm]
    refine WpT.on 6 rfl (fun K hK => ?_)
    refine z3g rfl z82 ?_; intro wV gV hgV bV hbV; have hgB : w6.heap.size ≤ gV := (by have := hS.size; omega); clear hgV; replace hS := yb hS hbV
    refine hK _ _ hS ?_; clear hK K; try simp only [nrm]
    refine WpT.ta 7 rfl (fun K hK => ?_)
    refine z09 (vs := rcC (sRc H)) rfl (by rfl) (by rfl) bV (by rw [hs41, hs41]) (by rw [z1p, hs41]) (z5c _) ?_; intro w13 ht13 b13
    refine hK _ _ ?_; clear hK K; try simp only [nrm]
    refine WpT.ta 8 rfl (fun K hK => ?_)
    go_simp; (try go_bits)
    refine hK _ _ ?_; clear hK K; try simp only [nrm]
    refine WpT.done (by kernel_rfl) ?_ _
    go_wp2_with fail; go_meet; exact ⟨gV, rfl, rfl, hgB, b13, hS.trans (ht13.below _ hgB)⟩
   ·refine z3g rfl z82 ?_; intro wV gV hgV bV hbV; have hgB : w6.heap.size ≤ gV := (by have := hS.size; omega); clear hgV; replace hS := yb hS hbV
    refine hK _ _ hS ?_; clear hK K; try simp only [nrm]
    refine WpT.on 2 rfl (fun K hK => ?_)
    go_simp; refine (hRC.out _ hS).mono ?_; rintro e w9 ⟨rfl, hb9⟩; (try replace bV := bV.below hb9); replace hS := yb hS hb9
    refine hK _ _ hS ?_; clear hK K; try simp only [nrm]
    refine WpT.tk 3 hS ?_
    simp only [nrm]
    refine WpT.tk 4 hS ?_
    simp only [nrm]
    refine WpT.tp 5 (hS) ?_
    simp only [nrm]
    refine WpT.ta 7 rfl (fun K hK => ?_)
    refine z09 (vs := rcC (sRc H)) rfl (by rfl) (by rfl) bV (by rw [hs41, hs41]) (by rw [z1p, hs41]) (z5c _) ?_; intro w13 ht13 b13
    refine hK _ _ ?_; clear hK K; try simp only [nrm]
    refine WpT.ta 8 rfl (fun K hK => ?_)
    go_simp; (try go_bits)
    refine hK _ _ ?_; clear hK K; try simp only [nrm]
    refine WpT.done (by kernel_rfl) ?_ _
    go_wp2_with fail; go_meet; exact ⟨gV, rfl, rfl, hgB, b13, hS.trans (ht13.below _ hgB)⟩
  ·refine z3g rfl z82 ?_; intro wV gV hgV bV hbV; have hgB : w6.heap.size ≤ gV := (by have := hS.size; omega); clear hgV; replace hS := yb hS hbV
   refine hK _ _ hS ?_; clear hK K; try simp only [nrm]
   refine WpT.on 1 rfl (fun K hK => ?_)
   go_simp; refine (HKY.out _).mono ?_; rintro e w8 ⟨rfl, hb8⟩; (try replace bV := bV.below hb8); replace hS := yb hS hb8
   refine hK _ _ hS ?_; clear hK K; try simp only [nrm]
   refine WpT.on 2 rfl (fun K hK => ?_)
   go_simp; refine (hRC.out _ hS).mono ?_; rintro e w9 ⟨rfl, hb9⟩; (try replace bV := bV.below hb9); replace hS := yb hS hb9
   refine hK _ _ hS ?_; clear hK K; try simp only [nrm]
   refine WpT.tk 3 hS ?_
   simp only [nrm]
   refine WpT.tk 4 hS ?_
   simp only [nrm]
   refine WpT.tp 5 (hS) ?_
   simp only [nrm]
   refine WpT.ta 7 rfl (fun K hK => ?_)
   refine z09 (vs := rcC (sRc H)) rfl (by rfl) (by rfl) bV (by rw [hs41, hs41]) (by rw [z1p, hs41]) (z5c _) ?_; intro w13 ht13 b13
   refine hK _ _ ?_; clear hK K; try simp only [nrm]
   refine WpT.ta 8 rfl (fun K hK => ?_)
   go_simp; (try go_bits)
   refine hK _ _ ?_; clear hK K; try simp only [nrm]
   refine WpT.done (by kernel_rfl) ?_ _
   go_wp2_with fail; go_meet; exact ⟨gV, rfl, rfl, hgB, b13, hS.trans (ht13.below _ hgB)⟩
 case rest =>
 obtain ⟨g5, rfl, rfl, hg5, b5, hb7⟩ := hcut
 have HN5 : Hid (g5 ≠ g1) := ya (by have := b6.lt; omega)
 replace b6 := b6.below hb7
 replace hok1 := hok1.below hb7
 replace HUN1 : Hid (∀ g, wc.heap.size ≤ g → z1q g r1) := ya (fun g hg => HUN1.out g (by have := hb7.size; omega))
 replace b3 := b3.below hb7
 replace hev := hev.below hb7
 replace HEU := ya (fun g (hg : wc.heap.size ≤ g) => HEU.out g (by have := hb7.size; omega))
 replace hbw := yb hbw hb7
 clear hb7 hlr hg5 hRC
 obtain ⟨w7, hw7⟩ : ∃ x : World, x = wc := ⟨_, rfl⟩
 rw [← hw7] at b6 hok1 HUN1 b3 hev HEU hbw b5 ⊢
 clear hw7
 go_upto_region 5 with fail
 have hlr := z11 b6
 have hSL := ya (fun W (hb : Below w7.heap.size w7 W) => (by
  have := HSEA.out r1 (sL1 H) W (yb hbw hb) (hok1.below hb) he1 rfl HF1.out (by show 1 ≤ 100; omega) (by show 1 ≤ 100; omega) (by show 0 ≤ 100; omega)
  rw [zuv] at this
  exact this : Calls Tryz.prog 24 #[lgV r1, z10 z0h] W (z8x r1 (sL2 H, sHa H, 0) W)))
 have HB1 := ya (fun W (hb : Below w7.heap.size w7 W) => b6.below hb)
 have HL1 : Hid (g1 < w7.heap.size) := ya b6.lt
 unfold z8x at hSL
 go_cut [7, 8] (fun v7 v8 wx => ∃ (g7 : Nat) (r' : LgR), v7 = .pointer (some ⟨g7, 0, none⟩) ∧ v8 = .int .i64 0 ∧ w7.heap.size ≤ g7 ∧ Blk wx g7 51 (hdC (sHa H)) ∧ Blk wx g1 42 (lgC r') ∧ z0l wx r' ∧ yx r' = sL2 H ∧ z1q g1 r' ∧ (∀ g, wx.heap.size ≤ g → z1q g r') ∧ z0k (sHa H) ∧ Kp g1 w7 wx)
 case first =>
  have hS : Below w7.heap.size w7 w7.drew := (Below.refl _ _).drew
  refine yq 8 (by kernel_rfl) ?_
  refine WpT.tl 0 rfl (z07 (us := lgL r1) rfl rfl rfl z04 (by rw [yy, hlg5]) hlr) hS ?_
  simp only [nrm]
  refine WpT.fork (i := 1) (j := 7) rfl rfl (by kernel_rfl) (fun K hK => ?_) (fun K hK => ?_)
  ·go_simp; refine (HKY.out _).mono ?_; rintro e w8 ⟨rfl, hb8⟩; (try replace bV := bV.below hb8); replace hS := yb hS hb8
   refine hK _ _ hS ?_; clear hK K; try simp only [nrm]
   refine WpT.fork (i := 2) (j := 7) rfl rfl (by kernel_rfl) (fun K hK => ?_) (fun K hK => ?_)
   ·go_simp; refine (hSL.out _ hS).mono ?_; rintro e w9 ⟨r', rfl, he', hok', hlt', hb9, haw'⟩; have haw2 := haw' g1 (.inl (by have := HL1.out; have := hS.size; omega)) HAW1.out; have hun2 : ∀ g, w9.heap.size ≤ g → z1q g r' := (fun g hg => haw' g (.inr hg) (HUN1.out g (by have := hS.size; have := hb9.size; omega))); (try have hawV := haw' gV (.inl bV.lt) (HUN1.out gV hgB)); (try replace bV := bV.below hb9); replace hS := yb hS hb9
    refine hK _ _ hS ?_; clear hK K; try simp only [nrm]
    refine WpT.tk 3 hS ?_
    simp only [nrm]
    refine WpT.tk 4 hS ?_
    simp only [nrm]
    refine WpT.tp 5 (hS) ?_
    simp only [nrm]
    refine WpT.tp 6 (hS) ?_
    simp only [nrm]
    refine WpT.on 7 rfl (fun K hK => ?_)
    refine z3g rfl z4p ?_; intro wV gV hgV bV hbV; have hgB : w7.heap.size ≤ gV := (by have := hS.size; omega); (try have hawV := hun2 gV hgV); (try replace hun2 : ∀ g, wV.heap.size ≤ g → z1q g r' := (fun g hg => hun2 g (by have := hbV.size; omega))); clear hgV; (try replace hok' := z0l.below hok' hbV); replace hS := yb hS hbV
    refine hK _ _ hS ?_; clear hK K; try simp only [nrm]
    refine WpT.ta 8 rfl (fun K hK => ?_)
    refine z09 (vs := lgC r') rfl (by rfl) (by rfl) (HB1.out _ hS) (by rw [hsz, hsz]) (by rw [yy, hsz]) (z2v _) ?_; intro w12 ht12 b12; have bV2 := ht12.blk bV (by have := HL1.out; omega); have hok2 := hok'.turned ht12 haw2; have kp2 := (Kp.of (g := g1) hS).turn ht12
    refine hK _ _ ?_; clear hK K; try simp only [nrm]
    refine WpT.ta 9 rfl (fun K hK => ?_)
    refine z09 (vs := hdC (sHa H)) rfl (by rfl) (by rfl) bV2 (by rw [hsh, hsh]) (by rw [yt, hsh]) (z4m _) ?_; intro w13 ht13 b13; have b14 := ht13.blk b12 (by have := HL1.out; omega); have hok3 := hok2.turned ht13 hawV
    refine hK _ _ ?_; clear hK K; try simp only [nrm]
    refine WpT.ta 10 rfl (fun K hK => ?_)
    go_simp; (try go_bits)
    refine hK _ _ ?_; clear hK K; try simp only [nrm]
    refine WpT.done (by kernel_rfl) ?_ _
    go_wp2_with fail; go_meet; exact ⟨gV, r', rfl, rfl, hgB, b13, b14, hok3, he', haw2, fun g hg => hun2 g (by rw [← ht12.size, ← ht13.size]; exact hg), hlt', kp2.turnNew ht13 hgB⟩
   ·refine z3g rfl z4p ?_; intro wV gV hgV bV hbV; have hgB : w7.heap.size ≤ gV := (by have := hS.size; omega); (try have hawV := hun2 gV hgV); (try replace hun2 : ∀ g, wV.heap.size ≤ g → z1q g r' := (fun g hg => hun2 g (by have := hbV.size; omega))); clear hgV; (try replace hok' := z0l.below hok' hbV); replace hS := yb hS hbV
    refine hK _ _ hS ?_; clear hK K; try simp only [nrm]
    refine WpT.on 2 rfl (fun K hK => ?_)
    go_simp; refine (hSL.out _ hS).mono ?_; rintro e w9 ⟨r', rfl, he', hok', hlt', hb9, haw'⟩; have haw2 := haw' g1 (.inl (by have := HL1.out; have := hS.size; omega)) HAW1.out; have hun2 : ∀ g, w9.heap.size ≤ g → z1q g r' := (fun g hg => haw' g (.inr hg) (HUN1.out g (by have := hS.size; have := hb9.size; omega))); (try have hawV := haw' gV (.inl bV.lt) (HUN1.out gV hgB)); (try replace bV := bV.below hb9); replace hS := yb hS hb9
    refine hK _ _ hS ?_; clear hK K; try simp only [nrm]
    refine WpT.tk 3 hS ?_
    simp only [nrm]
    refine WpT.tk 4 hS ?_
    simp only [nrm]
    refine WpT.tp 5 (hS) ?_
    simp only [nrm]
    refine WpT.tp 6 (hS) ?_
    simp only [nrm]
    refine WpT.ta 8 rfl (fun K hK => ?_)
    refine z09 (vs := lgC r') rfl (by rfl) (by rfl) (HB1.out _ hS) (by rw [hsz, hsz]) (by rw [yy, hsz]) (z2v _) ?_; intro w12 ht12 b12; have bV2 := ht12.blk bV (by have := HL1.out; omega); have hok2 := hok'.turned ht12 haw2; have kp2 := (Kp.of (g := g1) hS).turn ht12
    refine hK _ _ ?_; clear hK K; try simp only [nrm]
    refine WpT.ta 9 rfl (fun K hK => ?_)
    refine z09 (vs := hdC (sHa H)) rfl (by rfl) (by rfl) bV2 (by rw [hsh, hsh]) (by rw [yt, hsh]) (z4m _) ?_; intro w13 ht13 b13; have b14 := ht13.blk b12 (by have := HL1.out; omega); have hok3 := hok2.turned ht13 hawV
    refine hK _ _ ?_; clear hK K; try simp only [nrm]
    refine WpT.ta 10 rfl (fun K hK => ?_)
    go_simp; (try go_bits)
    refine hK _ _ ?_; clear hK K; try simp only [nrm]
    refine WpT.done (by kernel_rfl) ?_ _
    go_wp2_with fail; go_meet; exact ⟨gV, r', rfl, rfl, hgB, b13, b14, hok3, he', haw2, fun g hg => hun2 g (by rw [← ht12.size, ← ht13.size]; exact hg), hlt', kp2.turnNew ht13 hgB⟩
  ·refine z3g rfl z4p ?_; intro wV gV hgV bV hbV; have hgB : w7.heap.size ≤ gV := (by have := hS.size; omega); (try have hawV := hun2 gV hgV); (try replace hun2 : ∀ g, wV.heap.size ≤ g → z1q g r' := (fun g hg => hun2 g (by have := hbV.size; omega))); clear hgV; (try replace hok' := z0l.below hok' hbV); replace hS := yb hS hbV
   refine hK _ _ hS ?_; clear hK K; try simp only [nrm]
   refine WpT.on 1 rfl (fun K hK => ?_)
   go_simp; refine (HKY.out _).mono ?_; rintro e w8 ⟨rfl, hb8⟩; (try replace bV := bV.below hb8); replace hS := yb hS hb8
   refine hK _ _ hS ?_; clear hK K; try simp only [nrm]
   refine WpT.on 2 rfl (fun K hK => ?_)
   go_simp; refine (hSL.out _ hS).mono ?_; rintro e w9 ⟨r', rfl, he', hok', hlt', hb9, haw'⟩; have haw2 := haw' g1 (.inl (by have := HL1.out; have := hS.size; omega)) HAW1.out; have hun2 : ∀ g, w9.heap.size ≤ g → z1q g r' := (fun g hg => haw' g (.inr hg) (HUN1.out g (by have := hS.size; have := hb9.size; omega))); (try have hawV := haw' gV (.inl bV.lt) (HUN1.out gV hgB)); (try replace bV := bV.below hb9); replace hS := yb hS hb9
   refine hK _ _ hS ?_; clear hK K; try simp only [nrm]
   refine WpT.tk 3 hS ?_
   simp only [nrm]
   refine WpT.tk 4 hS ?_
   simp only [nrm]
   refine WpT.tp 5 (hS) ?_
   simp only [nrm]
   refine WpT.tp 6 (hS) ?_
   simp only [nrm]
   refine WpT.ta 8 rfl (fun K hK => ?_)
   refine z09 (vs := lgC r') rfl (by rfl) (by rfl) (HB1.out _ hS) (by rw [hsz, hsz]) (by rw [yy, hsz]) (z2v _) ?_; intro w12 ht12 b12; have bV2 := ht12.blk bV (by have := HL1.out; omega); have hok2 := hok'.turned ht12 haw2; have kp2 := (Kp.of (g := g1) hS).turn ht12
   refine hK _ _ ?_; clear hK K; try simp only [nrm]
   refine WpT.ta 9 rfl (fun K hK => ?_)
   refine z09 (vs := hdC (sHa H)) rfl (by rfl) (by rfl) bV2 (by rw [hsh, hsh]) (by rw [yt, hsh]) (z4m _) ?_; intro w13 ht13 b13; have b14 := ht13.blk b12 (by have := HL1.out; omega); have hok3 := hok2.turned ht13 hawV
   refine hK _ _ ?_; clear hK K; try simp only [nrm]
   refine WpT.ta 10 rfl (fun K hK => ?_)
   go_simp; (try go_bits)
   refine hK _ _ ?_; clear hK K; try simp only [nrm]
   refine WpT.done (by kernel_rfl) ?_ _
   go_wp2_with fail; go_meet; exact ⟨gV, r', rfl, rfl, hgB, b13, b14, hok3, he', haw2, fun g hg => hun2 g (by rw [← ht12.size, ← ht13.size]; exact hg), hlt', kp2.turnNew ht13 hgB⟩
 case rest =>
 obtain ⟨g7, r2, rfl, rfl, hgx, b7, c2, hok2, he2, haw2, hun2, hlt2, kp⟩ := hcut
 have HN7 : Hid (g7 ≠ g1) := ya (by have := HL1.out; omega)
 have HAW2 := ya haw2
 have HUN2 := ya hun2
 have HLT2 := ya hlt2
 replace b3 := kp.blk b3 HN3.out
 replace b5 := kp.blk b5 HN5.out
 replace hev := kp.ev hev HEA.out
 replace HEU := ya (fun g (hg : wc.heap.size ≤ g) => HEU.out g (by have := kp.size; omega))
 replace hbw := hbw.trans (kp.below _ HG1.out.1 hbw.size)
 clear kp hlr hSL HB1 HL1 hgx haw2 hun2 hlt2 b6 hok1 HAW1 HUN1 he1
 obtain ⟨w10, hnw⟩ : ∃ x : World, x = wc := ⟨_, rfl⟩
 rw [← hnw] at b3 b5 b7 c2 hok2 HUN2 hev HEU hbw ⊢
 clear hnw
 have hlr := z11 c2
 have hAP2 : Hid (Calls Tryz.prog 23 #[lgV r2, evV (z4i z3e)] w10 (z86 r2 (z4i z3e) (sL3 H, 0) w10)) := ya (by
  have := HAPP.out r2 (sL2 H) (z4i z3e) w10 hbw hok2 he2 (ze8 w10 5 2 9) zim (by show 1 ≤ 100; omega) (by show 1 ≤ 100; omega)
  rw [show (z4i z3e).e = z3e from rfl, zug] at this
  exact this)
 have HL1 : Hid (g1 < w10.heap.size) := ya c2.lt
 go_wp2_with (first
  | ((with_reducible show sl 50); refine yj (us := lgL r2) rfl rfl rfl z04 (by rw [yy, hlg5]) hlr ?_)
  | ((with_reducible show sl 51); refine z75 rfl rfl rfl rfl rfl (zef 5 2 9) ?_))
 refine hAP2.out.mono ?_
 rintro e w11 ⟨r3, rfl, he3, hok3, hb11, haw3⟩
 have HAW3 := ya (haw3 g1 (.inl HL1.out) HAW2.out (zhd g1 z3e))
 have HUN3 : Hid (∀ g, w11.heap.size ≤ g → z1q g r3) := ya (fun g hg => haw3 g (.inr hg) (HUN2.out g (by have := hb11.size; omega)) (zhd g z3e))
 replace c2 := c2.below hb11
 clear hok2 haw3 hlr hAP2 HAW2 HUN2 he2
 go_upto_region 7 with ((with_reducible show sn); refine z01 (vs := lgC r3) rfl rfl rfl rfl c2 (by rw [hsz, hsz]) (by rw [yy, hsz]) (z2v _) ?_; intro w12 ht12 c3)
 have kp : Kp g1 w10 w12 := (Kp.of hb11).turn ht12
 replace hok3 := hok3.turned ht12 HAW3.out
 replace HUN3 : Hid (∀ g, w12.heap.size ≤ g → z1q g r3) := ya (fun g hg => HUN3.out g (by rw [← ht12.size]; exact hg))
 clear c2 hb11 ht12
 replace b3 := kp.blk b3 HN3.out
 replace b5 := kp.blk b5 HN5.out
 replace b7 := kp.blk b7 HN7.out
 replace hev := kp.ev hev HEA.out
 replace HEU := ya (fun g (hg : w12.heap.size ≤ g) => HEU.out g (by have := kp.size; omega))
 replace hbw := hbw.trans (kp.below _ HG1.out.1 hbw.size)
 clear kp HL1
 have hlr := z11 c3
 have hSL := ya (fun W (hb : Below w12.heap.size w12 W) => (by
  have := HSEA.out r3 (sL3 H) W (yb hbw hb) (hok3.below hb) he3 rfl HF3.out (by show 2 ≤ 100; omega) (by show 1 ≤ 100; omega) (by show 1 ≤ 100; omega)
  rw [zuw] at this
  exact this : Calls Tryz.prog 24 #[lgV r3, z10 z0h] W (z8x r3 (sL4 H, sHb H, 0) W)))
 have HB1 := ya (fun W (hb : Below w12.heap.size w12 W) => c3.below hb)
 have HL1 : Hid (g1 < w12.heap.size) := ya c3.lt
 unfold z8x at hSL
 go_cut [10, 11] (fun v7 v8 wx => ∃ (g7 : Nat) (r' : LgR), v7 = .pointer (some ⟨g7, 0, none⟩) ∧ v8 = .int .i64 0 ∧ w12.heap.size ≤ g7 ∧ Blk wx g7 51 (hdC (sHb H)) ∧ Blk wx g1 42 (lgC r') ∧ z0l wx r' ∧ yx r' = sL4 H ∧ z1q g1 r' ∧ (∀ g, wx.heap.size ≤ g → z1q g r') ∧ z0k (sHb H) ∧ Kp g1 w12 wx)
 case first =>
  have hS : Below w12.heap.size w12 w12.drew := (Below.refl _ _).drew
  refine yq 8 (by kernel_rfl) ?_
  refine WpT.tl 0 rfl (z07 (us := lgL r3) rfl rfl rfl z04 (by rw [yy, hlg5]) hlr) hS ?_
  simp only [nrm]
  refine WpT.fork (i := 1) (j := 7) rfl rfl (by kernel_rfl) (fun K hK => ?_) (fun K hK => ?_)
  ·go_simp; refine (HKY.out _).mono ?_; rintro e w8 ⟨rfl, hb8⟩; (try replace bV := bV.below hb8); replace hS := yb hS hb8
   refine hK _ _ hS ?_; clear hK K; try simp only [nrm]
   refine WpT.fork (i := 2) (j := 7) rfl rfl (by kernel_rfl) (fun K hK => ?_) (fun K hK => ?_)
   ·go_simp; refine (hSL.out _ hS).mono ?_; rintro e w9 ⟨r', rfl, he', hok', hlt', hb9, haw'⟩; have haw2 := haw' g1 (.inl (by have := HL1.out; have := hS.size; omega)) HAW3.out; have hun2 : ∀ g, w9.heap.size ≤ g → z1q g r' := (fun g hg => haw' g (.inr hg) (HUN3.out g (by have := hS.size; have := hb9.size; omega))); (try have hawV := haw' gV (.inl bV.lt) (HUN3.out gV hgB)); (try replace bV := bV.below hb9); replace hS := yb hS hb9
    refine hK _ _ hS ?_; clear hK K; try simp only [nrm]
    refine WpT.tk 3 hS ?_
    simp only [nrm]
    refine WpT.tk 4 hS ?_
    simp only [nrm]
    refine WpT.tp 5 (hS) ?_
    simp only [nrm]
    refine WpT.tp 6 (hS) ?_
    simp only [nrm]
    refine WpT.on 7 rfl (fun K hK => ?_)
    refine z3g rfl z4p ?_; intro wV gV hgV bV hbV; have hgB : w12.heap.size ≤ gV := (by have := hS.size; omega); (try have hawV := hun2 gV hgV); (try replace hun2 : ∀ g, wV.heap.size ≤ g → z1q g r' := (fun g hg => hun2 g (by have := hbV.size; omega))); clear hgV; (try replace hok' := z0l.below hok' hbV); replace hS := yb hS hbV
    refine hK _ _ hS ?_; clear hK K; try simp only [nrm]
    refine WpT.ta 8 rfl (fun K hK => ?_)
    refine z09 (vs := lgC r') rfl (by rfl) (by rfl) (HB1.out _ hS) (by rw [hsz, hsz]) (by rw [yy, hsz]) (z2v _) ?_; intro w12 ht12 b12; have bV2 := ht12.blk bV (by have := HL1.out; omega); have hok2 := hok'.turned ht12 haw2; have kp2 := (Kp.of (g := g1) hS).turn ht12
    refine hK _ _ ?_; clear hK K; try simp only [nrm]
    refine WpT.ta 9 rfl (fun K hK => ?_)
    refine z09 (vs := hdC (sHb H)) rfl (by rfl) (by rfl) bV2 (by rw [hsh, hsh]) (by rw [yt, hsh]) (z4m _) ?_; intro w13 ht13 b13; have b14 := ht13.blk b12 (by have := HL1.out; omega); have hok3 := hok2.turned ht13 hawV
    refine hK _ _ ?_; clear hK K; try simp only [nrm]
    refine WpT.ta 10 rfl (fun K hK => ?_)
    go_simp; (try go_bits)
    refine hK _ _ ?_; clear hK K; try simp only [nrm]
    refine WpT.done (by kernel_rfl) ?_ _
    go_wp2_with fail; go_meet; exact ⟨gV, r', rfl, rfl, hgB, b13, b14, hok3, he', haw2, fun g hg => hun2 g (by rw [← ht12.size, ← ht13.size]; exact hg), hlt', kp2.turnNew ht13 hgB⟩
   ·refine z3g rfl z4p ?_; intro wV gV hgV bV hbV; have hgB : w12.heap.size ≤ gV := (by have := hS.size; omega); (try have hawV := hun2 gV hgV); (try replace hun2 : ∀ g, wV.heap.size ≤ g → z1q g r' := (fun g hg => hun2 g (by have := hbV.size; omega))); clear hgV; (try replace hok' := z0l.below hok' hbV); replace hS := yb hS hbV
    refine hK _ _ hS ?_; clear hK K; try simp only [nrm]
    refine WpT.on 2 rfl (fun K hK => ?_)
    go_simp; refine (hSL.out _ hS).mono ?_; rintro e w9 ⟨r', rfl, he', hok', hlt', hb9, haw'⟩; have haw2 := haw' g1 (.inl (by have := HL1.out; have := hS.size; omega)) HAW3.out; have hun2 : ∀ g, w9.heap.size ≤ g → z1q g r' := (fun g hg => haw' g (.inr hg) (HUN3.out g (by have := hS.size; have := hb9.size; omega))); (try have hawV := haw' gV (.inl bV.lt) (HUN3.out gV hgB)); (try replace bV := bV.below hb9); replace hS := yb hS hb9
    refine hK _ _ hS ?_; clear hK K; try simp only [nrm]
    refine WpT.tk 3 hS ?_
    simp only [nrm]
    refine WpT.tk 4 hS ?_
    simp only [nrm]
    refine WpT.tp 5 (hS) ?_
    simp only [nrm]
    refine WpT.tp 6 (hS) ?_
    simp only [nrm]
    refine WpT.ta 8 rfl (fun K hK => ?_)
    refine z09 (vs := lgC r') rfl (by rfl) (by rfl) (HB1.out _ hS) (by rw [hsz, hsz]) (by rw [yy, hsz]) (z2v _) ?_; intro w12 ht12 b12; have bV2 := ht12.blk bV (by have := HL1.out; omega); have hok2 := hok'.turned ht12 haw2; have kp2 := (Kp.of (g := g1) hS).turn ht12
    refine hK _ _ ?_; clear hK K; try simp only [nrm]
    refine WpT.ta 9 rfl (fun K hK => ?_)
    refine z09 (vs := hdC (sHb H)) rfl (by rfl) (by rfl) bV2 (by rw [hsh, hsh]) (by rw [yt, hsh]) (z4m _) ?_; intro w13 ht13 b13; have b14 := ht13.blk b12 (by have := HL1.out; omega); have hok3 := hok2.turned ht13 hawV
    refine hK _ _ ?_; clear hK K; try simp only [nrm]
    refine WpT.ta 10 rfl (fun K hK => ?_)
    go_simp; (try go_bits)
    refine hK _ _ ?_; clear hK K; try simp only [nrm]
    refine WpT.done (by kernel_rfl) ?_ _
    go_wp2_with fail; go_meet; exact ⟨gV, r', rfl, rfl, hgB, b13, b14, hok3, he', haw2, fun g hg => hun2 g (by rw [← ht12.size, ← ht13.size]; exact hg), hlt', kp2.turnNew ht13 hgB⟩
  ·refine z3g rfl z4p ?_; intro wV gV hgV bV hbV; have hgB : w12.heap.size ≤ gV := (by have := hS.size; omega); (try have hawV := hun2 gV hgV); (try replace hun2 : ∀ g, wV.heap.size ≤ g → z1q g r' := (fun g hg => hun2 g (by have := hbV.size; omega))); clear hgV; (try replace hok' := z0l.below hok' hbV); replace hS := yb hS hbV
   refine hK _ _ hS ?_; clear hK K; try simp only [nrm]
   refine WpT.on 1 rfl (fun K hK => ?_)
   go_simp; refine (HKY.out _).mono ?_; rintro e w8 ⟨rfl, hb8⟩; (try replace bV := bV.below hb8); replace hS := yb hS hb8
   refine hK _ _ hS ?_; clear hK K; try simp only [nrm]
   refine WpT.on 2 rfl (fun K hK => ?_)
   go_simp; refine (hSL.out _ hS).mono ?_; rintro e w9 ⟨r', rfl, he', hok', hlt', hb9, haw'⟩; have haw2 := haw' g1 (.inl (by have := HL1.out; have := hS.size; omega)) HAW3.out; have hun2 : ∀ g, w9.heap.size ≤ g → z1q g r' := (fun g hg => haw' g (.inr hg) (HUN3.out g (by have := hS.size; have := hb9.size; omega))); (try have hawV := haw' gV (.inl bV.lt) (HUN3.out gV hgB)); (try replace bV := bV.below hb9); replace hS := yb hS hb9
   refine hK _ _ hS ?_; clear hK K; try simp only [nrm]
   refine WpT.tk 3 hS ?_
   simp only [nrm]
   refine WpT.tk 4 hS ?_
   simp only [nrm]
   refine WpT.tp 5 (hS) ?_
   simp only [nrm]
   refine WpT.tp 6 (hS) ?_
   simp only [nrm]
   refine WpT.ta 8 rfl (fun K hK => ?_)
   refine z09 (vs := lgC r') rfl (by rfl) (by rfl) (HB1.out _ hS) (by rw [hsz, hsz]) (by rw [yy, hsz]) (z2v _) ?_; intro w12 ht12 b12; have bV2 := ht12.blk bV (by have := HL1.out; omega); have hok2 := hok'.turned ht12 haw2; have kp2 := (Kp.of (g := g1) hS).turn ht12
   refine hK _ _ ?_; clear hK K; try simp only [nrm]
   refine WpT.ta 9 rfl (fun K hK => ?_)
   refine z09 (vs := hdC (sHb H)) rfl (by rfl) (by rfl) bV2 (by rw [hsh, hsh]) (by rw [yt, hsh]) (z4m _) ?_; intro w13 ht13 b13; have b14 := ht13.blk b12 (by have := HL1.out; omega); have hok3 := hok2.turned ht13 hawV
   refine hK _ _ ?_; clear hK K; try simp only [nrm]
   refine WpT.ta 10 rfl (fun K hK => ?_)
   go_simp; (try go_bits)
   refine hK _ _ ?_; clear hK K; try simp only [nrm]
   refine WpT.done (by kernel_rfl) ?_ _
   go_wp2_with fail; go_meet; exact ⟨gV, r', rfl, rfl, hgB, b13, b14, hok3, he', haw2, fun g hg => hun2 g (by rw [← ht12.size, ← ht13.size]; exact hg), hlt', kp2.turnNew ht13 hgB⟩
 case rest =>
 obtain ⟨g10, r4, rfl, rfl, hgx, b10, c4, hok4, he4, haw4, hun4, hlt4, kp⟩ := hcut
 have HN10 : Hid (g10 ≠ g1) := ya (by have := HL1.out; omega)
 have HAW4 := ya haw4
 have HUN4 := ya hun4
 have HLT4 := ya hlt4
 replace b3 := kp.blk b3 HN3.out
 replace b5 := kp.blk b5 HN5.out
 replace b7 := kp.blk b7 HN7.out
 replace hev := kp.ev hev HEA.out
 replace HEU := ya (fun g (hg : wc.heap.size ≤ g) => HEU.out g (by have := kp.size; omega))
 replace hbw := hbw.trans (kp.below _ HG1.out.1 hbw.size)
 clear kp hlr hSL HB1 HL1 hgx haw4 hun4 hlt4 c3 hok3 HAW3 HUN3 he3
 obtain ⟨w14, hnw⟩ : ∃ x : World, x = wc := ⟨_, rfl⟩
 rw [← hnw] at b3 b5 b7 b10 c4 hok4 HUN4 hev HEU hbw ⊢
 clear hnw
 have hlr := z11 c4
 have hlb := yv (xs := hdL (sHb H)) b10
 go_wp2_with (first
  | ((with_reducible show sl 63); refine yj (us := lgL r4) rfl rfl rfl z04 (by rw [yy, hlg5]) hlr ?_)
  | ((with_reducible show sl 64); refine yj (us := hdL (sHb H)) rfl rfl rfl yz (by rw [yt, h36]) hlb ?_))
 refine (HPRF.out r4 w14 hbw hok4 he4 HLT4.out).mono ?_
 rintro e w15 ⟨s12, rfl, hs12, hsk, -, hb15⟩
 go_upto_region 9 with ((with_reducible show sl 12); refine z17 (z := shC z0u) (vs := shC s12) rfl rfl rfl rfl (zh0 _) (fun _ => rfl) (fun _ => rfl) (by rw [hs60, hs60]) (by rw [z2y, hs60]) (z7r _) ?_; intro w16 g12 hg12 b12 hb16 lt16; clear hg12 lt16)
 have hbx := yb hb15 hb16
 replace hsk := hsk.below hb16
 replace b3 := b3.below hbx
 replace b5 := b5.below hbx
 replace b7 := b7.below hbx
 replace b10 := b10.below hbx
 replace c4 := c4.below hbx
 replace hev := hev.below hbx
 replace HEU := ya (fun g (hg : w16.heap.size ≤ g) => HEU.out g (by have := hbx.size; omega))
 replace hok4 := hok4.below hbx
 replace hbw := yb hbw hbx
 clear hbx hb15 hb16 hlr hlb
 have hlr := z11 c4
 have hla := yv (xs := hdL (sHa H)) b7
 have hlb := yv (xs := hdL (sHb H)) b10
 go_wp2_with (first
  | ((with_reducible show sl 69); refine yj (us := lgL r4) rfl rfl rfl z04 (by rw [yy, hlg5]) hlr ?_)
  | ((with_reducible show sl 70); refine yj (us := hdL (sHa H)) rfl rfl rfl yz (by rw [yt, h36]) hla ?_)
  | ((with_reducible show sl 71); refine yj (us := hdL (sHb H)) rfl rfl rfl yz (by rw [yt, h36]) hlb ?_))
 refine (HCNS.out r4 w16 hbw hok4 he4 HLT2.out HLT4.out).mono ?_
 rintro e w17 ⟨v14, rfl, o14, hb17⟩
 obtain ⟨A14, c14, rfl, n14, m14, r14⟩ := yg.formN o14 (n := 1) rfl
 clear o14
 replace b3 := b3.below hb17
 replace b5 := b5.below hb17
 replace b7 := b7.below hb17
 replace b10 := b10.below hb17
 replace c4 := c4.below hb17
 replace b12 := b12.below hb17
 replace hev := hev.below hb17
 replace HEU := ya (fun g (hg : w17.heap.size ≤ g) => HEU.out g (by have := hb17.size; omega))
 replace hok4 := hok4.below hb17
 replace hsk := hsk.below hb17
 replace hbw := yb hbw hb17
 clear hb17 hlr hla hlb
 have hlr := z11 c4
 have hAP : Hid (Calls Tryz.prog 23 #[lgV r4, evV (z4i z6g)] w17 (z86 r4 (z4i z6g) (sL4 H, 9) w17)) := ya (by
  have := HAPP.out r4 (sL4 H) (z4i z6g) w17 hbw hok4 he4 (ze8 w17 5 4 9) zq6 (by show 2 ≤ 100; omega) (by show 1 ≤ 100; omega)
  rw [show (z4i z6g).e = z6g from rfl, zui] at this
  exact this)
 go_wp2_with (first
  | ((with_reducible show sl 76); refine yj (us := lgL r4) rfl rfl rfl z04 (by rw [yy, hlg5]) hlr ?_)
  | ((with_reducible show sl 77); refine z75 rfl rfl rfl rfl rfl (zef 5 4 9) ?_))
 refine hAP.out.mono ?_
 rintro e w18 ⟨rx, rfl, -, -, hbx, -⟩
 go_upto_region 11 with ((with_reducible show sl 16); refine z17 (z := lgC (z15 0)) (vs := lgC rx) rfl rfl rfl rfl (z79 _) (fun _ => rfl) (fun _ => rfl) (by rw [hsz, hsz]) (by rw [yy, hsz]) (z2v _) ?_; intro w19 gx hgx bx hby ltx; clear hgx ltx bx)
 replace hbx := yb hbx hby
 replace b3 := b3.below hbx
 replace b5 := b5.below hbx
 replace b7 := b7.below hbx
 replace b10 := b10.below hbx
 replace c4 := c4.below hbx
 replace b12 := b12.below hbx
 replace hev := hev.below hbx
 replace HEU := ya (fun g (hg : w19.heap.size ≤ g) => HEU.out g (by have := hbx.size; omega))
 replace hok4 := hok4.below hbx
 replace hsk := hsk.below hbx
 replace r14 := r14.below hbx
 replace hbw := yb hbw hbx
 clear hbx hby hlr hAP
 have hlr := z11 c4
 have hAP : Hid (Calls Tryz.prog 23 #[lgV r4, evV (z4i z6f)] w19 (z86 r4 (z4i z6f) (sL4 H, 9) w19)) := ya (by
  have := HAPP.out r4 (sL4 H) (z4i z6f) w19 hbw hok4 he4 (ze8 w19 5 3 8) zq5 (by show 2 ≤ 100; omega) (by show 1 ≤ 100; omega)
  rw [show (z4i z6f).e = z6f from rfl, zuh] at this
  exact this)
 go_wp2_with (first
  | ((with_reducible show sl 82); refine yj (us := lgL r4) rfl rfl rfl z04 (by rw [yy, hlg5]) hlr ?_)
  | ((with_reducible show sl 83); refine z75 rfl rfl rfl rfl rfl (zef 5 3 8) ?_))
 refine hAP.out.mono ?_
 rintro e w20 ⟨rx, rfl, -, -, hbx, -⟩
 go_upto_region 12 with ((with_reducible show sl 18); refine z17 (z := lgC (z15 0)) (vs := lgC rx) rfl rfl rfl rfl (z79 _) (fun _ => rfl) (fun _ => rfl) (by rw [hsz, hsz]) (by rw [yy, hsz]) (z2v _) ?_; intro w21 gx hgx bx hby ltx; clear hgx ltx bx)
 replace hbx := yb hbx hby
 replace b3 := b3.below hbx
 replace b5 := b5.below hbx
 replace b7 := b7.below hbx
 replace b10 := b10.below hbx
 replace c4 := c4.below hbx
 replace b12 := b12.below hbx
 replace hev := hev.below hbx
 replace HEU := ya (fun g (hg : w21.heap.size ≤ g) => HEU.out g (by have := hbx.size; omega))
 replace hok4 := hok4.below hbx
 replace hsk := hsk.below hbx
 replace r14 := r14.below hbx
 replace hbw := yb hbw hbx
 clear hbx hby hlr hAP
 go_wp2_with fail
 refine (HKY.out _).mono ?_
 rintro e w22 ⟨rfl, hb22⟩
 have hN12 : s12.s.face = ym H z1n := by rw [hs12]; rfl
 have b12x : Blk w22 g12 63 (shC s12) := b12.below hb22
 have hl12 := yv (xs := shL s12) b12x
 have hl60 := h60 s12
 go_upto_region 16 with (first
  | ((with_reducible show sl 126); refine zws rfl rfl rfl ?_; intro w23 gr hr hb23; replace hl12 := fun j u h => cell_later hb23 (hl12 j u h))
  | ((with_reducible show sl 127); refine yj (us := shL s12) rfl rfl rfl z4h (by rw [z2y, hl60]) hl12 ?_)
  | ((with_reducible show sl 21); refine z17 (z := shC z0u) (vs := shC s12) rfl rfl rfl rfl (zh0 _) (fun _ => rfl) (fun _ => rfl) (by rw [hs60, hs60]) (by rw [z2y, hs60]) (z7r _) ?_; intro w24 g21 hg21 b21 hb24 lt24; have hg21' : w23.heap.size ≤ g21 := (by omega); clear hg21 lt24))
 have HG21 : Hid (w23.heap.size ≤ g21) := ya hg21'
 have hb23' := yb hb22 hb23
 clear hg21' hl12 b12x
 go_upto_region 17 with ((with_reducible show sn); refine z18 (cs' := shC ⟨⟨{ s12.s.face with til := 8 }, s12.s.path, s12.s.head⟩, s12.A, s12.n, s12.c⟩) rfl rfl (by kernel_rfl) rfl rfl rfl b21 (by rw [hs60]; omega) (zrp s12 8) ?_; intro w25 ht25 b25)
 have hb25 : Below w23.heap.size w23 w25 := hb24.trans (ht25.below _ HG21.out)
 replace hr := hr.below hb25
 have hbx := yb hb23' hb25
 replace b3 := b3.below hbx
 replace b5 := b5.below hbx
 replace b7 := b7.below hbx
 replace b10 := b10.below hbx
 replace c4 := c4.below hbx
 replace b12 := b12.below hbx
 replace hev := hev.below hbx
 replace HEU := ya (fun g (hg : w25.heap.size ≤ g) => HEU.out g (by have := hbx.size; omega))
 replace hok4 := hok4.below hbx
 replace hsk := hsk.below hbx
 replace r14 := r14.below hbx
 replace hbw := yb hbw hbx
 clear hbx hb22 hb23 hb24 hb25 hb23' ht25 b21
 obtain ⟨bR, hbR⟩ : ∃ x : ShR, x = ⟨⟨{ s12.s.face with til := 8 }, s12.s.path, s12.s.head⟩, s12.A, s12.n, s12.c⟩ := ⟨_, rfl⟩
 have HBR : Hid (bR.s = z6y H) := ya (by rw [hbR]; show (⟨{ s12.s.face with til := 8 }, s12.s.path, s12.s.head⟩ : Sh) = _; rw [hs12]; rfl)
 have hbk : z28 w25 bR := by rw [hbR]; exact ⟨hsk.rd, hsk.nc, hsk.cm, hsk.lt, hsk.bl, hsk.hd⟩
 rw [← hbR] at b25
 have HS12 := ya hs12
 have hf12 := z6h b12
 have hf25 := z6h b25
 have hfe : bR.s.face = z52 H := by rw [HBR.out]; rfl
 rw [hN12] at hf12
 rw [hfe] at hf25
 have HN12 := ya hN12
 clear hbR hs12 hfe hN12
 have hLA := ya (fun W (hb : Below w25.heap.size w25 W) => HLF.out (ym H z1n) W HFB.out.2 (yb hbw hb))
 have hLB := ya (fun W (hb : Below w25.heap.size w25 W) => HLF.out (z52 H) W HFB.out.1 (yb hbw hb))
 have HLT : Hid (H.lf (z52 H) < 2 ^ 128 ∧ H.lf (ym H z1n) < 2 ^ 128) := ya ⟨HLL.out _, HLL.out _⟩
 have h23a := h23 (ym H z1n)
 have h23b := h23 (z52 H)
 generalize H.lf (z52 H) = LB at *
 generalize H.lf (ym H z1n) = LA at *
 obtain ⟨ot, hot⟩ : ∃ x, (!decide (LB = LA)) = x := ⟨_, rfl⟩
 have hS : Below w25.heap.size w25 w25.drew := (Below.refl _ _).drew
 refine yq 7 (by kernel_rfl) ?_
 refine WpT.tk 0 hS ?_
 simp only [nrm]
 refine WpT.tl 1 rfl (z07 (us := fcL (z52 H)) rfl rfl rfl z1a (by rw [z0d, h23b]) hf25) hS ?_
 simp only [nrm]
 refine WpT.tk 3 hS ?_
 simp only [nrm]
 refine WpT.tl 4 rfl (z07 (us := fcL (ym H z1n)) rfl rfl rfl z1a (by rw [z0d, h23a]) hf12) hS ?_
 simp only [nrm]
 refine WpT.on 2 rfl (fun K hK => ?_)
 go_simp; refine (hLB.out _ hS).mono ?_; rintro e w4 ⟨rfl, hb4⟩; replace hS := yb hS hb4
 refine hK _ _ hS ?_; clear hK K; try simp only [nrm]
 refine WpT.on 5 rfl (fun K hK => ?_)
 go_simp; refine (hLA.out _ hS).mono ?_; rintro e w26 ⟨rfl, hb5⟩; replace hS := yb hS hb5
 refine hK _ _ hS ?_; clear hK K; try simp only [nrm]
 refine WpT.tl 6 rfl (zbw (by rfl) rfl (by rfl) (by rfl) HLT.out.1 HLT.out.2 hot (fun W => by kernel_rfl)) hS ?_
 simp only [nrm]
 refine WpT.ta 7 rfl (fun K hK => ?_)
 go_simp; (try go_bits)
 refine hK _ _ ?_; clear hK K; try simp only [nrm]
 refine WpT.done (by kernel_rfl) ?_ _
 skip
 replace hbk := hbk.below hS
 replace hr := hr.below hS
 replace b25 := b25.below hS
 replace b3 := b3.below hS
 replace b5 := b5.below hS
 replace b7 := b7.below hS
 replace b10 := b10.below hS
 replace c4 := c4.below hS
 replace b12 := b12.below hS
 replace hev := hev.below hS
 replace HEU := ya (fun g (hg : w26.heap.size ≤ g) => HEU.out g (by have := hS.size; omega))
 replace hok4 := hok4.below hS
 replace hsk := hsk.below hS
 replace r14 := r14.below hS
 replace hbw := yb hbw hS
 clear hS hf12 hf25 hLA hLB hot
 rcases ot with _ | _
 ·go_wp2_with fail
  go_ret
  exact ⟨rfl, hbw⟩
 have HP1 : Hid (s12.n = 1) := ya (by have := hsk.rd.len; rw [HS12.out] at this; exact this.symm)
 have x23 := zdi b12
 rw [HP1.out] at x23
 have hl12 := yv (xs := shL s12) b12
 go_wp2_with ((with_reducible show sl 145); refine z0s (us := shL s12) (by rfl) rfl rfl z4h (by rw [z2y, hl60]) hl12 ?_)
 refine (HCS.out _ s12 w26 hbw hr hsk HS12.out).mono ?_
 rintro e w27 ⟨rfl, hbx⟩
 replace b3 := b3.below hbx
 replace b5 := b5.below hbx
 replace b7 := b7.below hbx
 replace b10 := b10.below hbx
 replace c4 := c4.below hbx
 replace b12 := b12.below hbx
 replace b25 := b25.below hbx
 replace hev := hev.below hbx
 replace HEU := ya (fun g (hg : w27.heap.size ≤ g) => HEU.out g (by have := hbx.size; omega))
 replace hok4 := hok4.below hbx
 replace hsk := hsk.below hbx
 replace r14 := r14.below hbx
 replace hr := hr.below hbx
 replace hbk := hbk.below hbx
 replace hbw := yb hbw hbx
 clear hbx
 clear hl12 x23
 have hla := yv (xs := hdL (sHa H)) b7
 have hlb := yv (xs := hdL (sHb H)) b10
 go_wp2_with (first
  | ((with_reducible show sl 151); refine z0s (us := hdL (sHa H)) (by rfl) rfl rfl yz (by rw [yt, h36]) hla ?_)
  | ((with_reducible show sl 152); refine z0s (us := hdL (sHb H)) (by rfl) rfl rfl yz (by rw [yt, h36]) hlb ?_))
 refine (HCH.out _ _ _ w27 hbw hr r14 n14 m14 HLT2.out HLT4.out).mono ?_
 rintro e w28 ⟨rfl, hbx⟩
 replace b3 := b3.below hbx
 replace b5 := b5.below hbx
 replace b7 := b7.below hbx
 replace b10 := b10.below hbx
 replace c4 := c4.below hbx
 replace b12 := b12.below hbx
 replace b25 := b25.below hbx
 replace hev := hev.below hbx
 replace HEU := ya (fun g (hg : w28.heap.size ≤ g) => HEU.out g (by have := hbx.size; omega))
 replace hok4 := hok4.below hbx
 replace hsk := hsk.below hbx
 replace r14 := r14.below hbx
 replace hr := hr.below hbx
 replace hbk := hbk.below hbx
 replace hbw := yb hbw hbx
 clear hbx
 clear hla hlb
 have hl5 := yv (xs := rcL (sRc H)) b5
 go_wp2_with ((with_reducible show sl 159); refine z0s (us := rcL (sRc H)) (by rfl) rfl rfl z36 (by rw [z1p, h41]) hl5 ?_)
 refine (HCR.out _ w28 hbw hr).mono ?_
 rintro e w29 ⟨rfl, hbx⟩
 replace b3 := b3.below hbx
 replace b5 := b5.below hbx
 replace b7 := b7.below hbx
 replace b10 := b10.below hbx
 replace c4 := c4.below hbx
 replace b12 := b12.below hbx
 replace b25 := b25.below hbx
 replace hev := hev.below hbx
 replace HEU := ya (fun g (hg : w29.heap.size ≤ g) => HEU.out g (by have := hbx.size; omega))
 replace hok4 := hok4.below hbx
 replace hsk := hsk.below hbx
 replace r14 := r14.below hbx
 replace hr := hr.below hbx
 replace hbk := hbk.below hbx
 replace hbw := yb hbw hbx
 clear hbx
 replace hl5 := yv (xs := rcL (sRc H)) b5
 have hl12 := yv (xs := shL s12) b12
 go_wp2_with (first
  | ((with_reducible show sl 165); refine z0s (us := rcL (sRc H)) (by rfl) rfl rfl z36 (by rw [z1p, h41]) hl5 ?_)
  | ((with_reducible show sl 166); refine z0s (us := shL s12) (by rfl) rfl rfl z4h (by rw [z2y, hl60]) hl12 ?_))
 refine (HRF.out _ s12 w29 hbw hr hsk HS12.out).mono ?_
 rintro e w30 ⟨rfl, hbx⟩
 replace b3 := b3.below hbx
 replace b5 := b5.below hbx
 replace b7 := b7.below hbx
 replace b10 := b10.below hbx
 replace c4 := c4.below hbx
 replace b12 := b12.below hbx
 replace b25 := b25.below hbx
 replace hev := hev.below hbx
 replace HEU := ya (fun g (hg : w30.heap.size ≤ g) => HEU.out g (by have := hbx.size; omega))
 replace hok4 := hok4.below hbx
 replace hsk := hsk.below hbx
 replace r14 := r14.below hbx
 replace hr := hr.below hbx
 replace hbk := hbk.below hbx
 replace hbw := yb hbw hbx
 clear hbx
 replace hl5 := yv (xs := rcL (sRc H)) b5
 replace hl12 := yv (xs := shL bR) b25
 have hl60b := h60 bR
 go_wp2_with (first
  | ((with_reducible show sl 172); refine z0s (us := rcL (sRc H)) (by rfl) rfl rfl z36 (by rw [z1p, h41]) hl5 ?_)
  | ((with_reducible show sl 173); refine z0s (us := shL bR) (by rfl) rfl rfl z4h (by rw [z2y, hl60b]) hl12 ?_))
 refine (HRB.out _ bR w30 hbw hr hbk HBR.out).mono ?_
 rintro e w31 ⟨rfl, hbx⟩
 replace b3 := b3.below hbx
 replace b5 := b5.below hbx
 replace b7 := b7.below hbx
 replace b10 := b10.below hbx
 replace c4 := c4.below hbx
 replace b12 := b12.below hbx
 replace b25 := b25.below hbx
 replace hev := hev.below hbx
 replace HEU := ya (fun g (hg : w31.heap.size ≤ g) => HEU.out g (by have := hbx.size; omega))
 replace hok4 := hok4.below hbx
 replace hsk := hsk.below hbx
 replace r14 := r14.below hbx
 replace hr := hr.below hbx
 replace hbk := hbk.below hbx
 replace hbw := yb hbw hbx
 clear hbx
 clear hl5 hl12
 have hf12 := z6h b12
 rw [HN12.out] at hf12
 have hle := yv (xs := evL eR) b3
 go_wp2_with (first
  | ((with_reducible show sl 179); refine z0s (us := fcL (ym H z1n)) (by rfl) rfl rfl z1a (by rw [z0d, h23a]) hf12 ?_)
  | ((with_reducible show sl 180); refine z0s (us := evL eR) (by rfl) rfl rfl z29 (by rw [z1z, h25]) hle ?_))
 refine (HOP.out eR w31 hbw hev HER.out).mono ?_
 rintro e w32 ⟨rfl, hbx⟩
 replace b3 := b3.below hbx
 replace b5 := b5.below hbx
 replace b7 := b7.below hbx
 replace b10 := b10.below hbx
 replace c4 := c4.below hbx
 replace b12 := b12.below hbx
 replace b25 := b25.below hbx
 replace hev := hev.below hbx
 replace HEU := ya (fun g (hg : w32.heap.size ≤ g) => HEU.out g (by have := hbx.size; omega))
 replace hok4 := hok4.below hbx
 replace hsk := hsk.below hbx
 replace r14 := r14.below hbx
 replace hr := hr.below hbx
 replace hbk := hbk.below hbx
 replace hbw := yb hbw hbx
 clear hbx
 clear hf12 hle
 have hlr := z11 c4
 go_wp2_with ((with_reducible show sl 184); refine z0s (us := lgL r4) (by rfl) rfl rfl z04 (by rw [yy, hlg5]) hlr ?_)
 refine (HVAL.out r4 w32 hbw hok4 he4).mono ?_
 rintro e w33 ⟨rfl, hbx⟩
 replace b3 := b3.below hbx
 replace b5 := b5.below hbx
 replace b7 := b7.below hbx
 replace b10 := b10.below hbx
 replace c4 := c4.below hbx
 replace b12 := b12.below hbx
 replace b25 := b25.below hbx
 replace hev := hev.below hbx
 replace HEU := ya (fun g (hg : w33.heap.size ≤ g) => HEU.out g (by have := hbx.size; omega))
 replace hok4 := hok4.below hbx
 replace hsk := hsk.below hbx
 replace r14 := r14.below hbx
 replace hr := hr.below hbx
 replace hbk := hbk.below hbx
 replace hbw := yb hbw hbx
 clear hbx
 clear hlr
 have hla := yv (xs := hdL (sHa H)) b7
 have hlb := yv (xs := hdL (sHb H)) b10
 go_wp2_with (first
  | ((with_reducible show sl 189); refine z0s (us := hdL (sHa H)) (by rfl) rfl rfl yz (by rw [yt, h36]) hla ?_)
  | ((with_reducible show sl 190); refine z0s (us := hdL (sHb H)) (by rfl) rfl rfl yz (by rw [yt, h36]) hlb ?_))
 refine (HFK.out _ w33 hbw hr HLT2.out HLT4.out).mono ?_
 rintro e w34 ⟨rfl, hbx⟩
 go_wp2_with fail
 go_ret
 exact ⟨rfl, yb hbw hbx⟩
theorem hneW : z1c.nd (z1c.lf (z52 z1c)) (sB z1c) ≠ z1c.nd (sA z1c) (sB z1c) := by decide +kernel
theorem sane (w : World) (hg : GCon w) (hrc : RCon w) (hgb : GBru w) : Calls Tryz.prog 11 #[] w (BIs true w) := zv2 lds hneW w hg hrc hgb
section
variable (r : Rc) (W : World)
theorem zkq : (Go.part 3 (rcC r) 0).run Tryz.prog W = .ok (.int .i64 r.office) W := by kernel_rfl
theorem zkr : (Go.part 29 (rcC r) 1).run Tryz.prog W = .ok (fcV r.face) W := by kernel_rfl
theorem zks : (Go.part 3 (rcC r) 24).run Tryz.prog W = .ok (.int .i64 r.serial) W := by kernel_rfl
theorem zkt : (Go.part 49 (rcC r) 25).run Tryz.prog W = .ok (dgV r.sig) W := by kernel_rfl
end
theorem rc_eq (a b : Rc) : ((a.office == b.office) && (decide (a.face = b.face) && ((a.serial == b.serial) && (decide (a.sig = b.sig) && true)))) = decide (a = b) := by
 rw [Bool.eq_iff_iff]
 obtain ⟨a0, a1, a2, a3⟩ := a
 obtain ⟨b0, b1, b2, b3⟩ := b
 simp
theorem zpm (d : Nat) {a b : Rc} (ha : a.face.blind < 2 ^ 128) (hb : b.face.blind < 2 ^ 128) (sa : a.sig < 2 ^ 128) (sb : b.sig < 2 ^ 128) (w : World) : (Op.equalIn (d + 4) 69 (rcV a) (rcV b)).run Tryz.prog w = .ok (decide (a = b)) w := by
 rw [← rc_eq a b]
 refine zeu (d := d + 3) (L := [(0, 3, "Office"), (1, 29, "Face"), (24, 3, "Serial"), (25, 49, "Seal")]) (by kernel_rfl) (by kernel_rfl) (by kernel_rfl) ?_
 refine .cons (by decide) (zkq a w) (zkq b w) (run_equalIn_int w (d + 2) _ .i64 .i64 _ _ z53) ?_
 refine .cons (by decide) (zkr a w) (zkr b w) (zet d ha hb w) ?_
 refine .cons (by decide) (zks a w) (zks b w) (run_equalIn_int w (d + 2) _ .i64 .i64 _ _ z53) ?_
 exact .cons (by decide) (zkt a w) (zkt b w) (zig (d + 1) sa sb w) .nil
theorem zpn {a b : Rc} (ha : a.face.blind < 2 ^ 128) (hb : b.face.blind < 2 ^ 128) (sa : a.sig < 2 ^ 128) (sb : b.sig < 2 ^ 128) (w : World) : (binOp .eql 69 (rcV a) (rcV b)).run Tryz.prog w = .ok (.bool (decide (a = b))) w := by
 rw [run_eql_struct, zpm 9996 ha hb sa sb w]; rfl
theorem zwp {ops : Array Oper} {a : Act} {o : Oper} {w : World} {rest : List Oper} {Q : Exit → Act → World → Prop} {x y : Operand} {p : Rc} {u : TypeId} (hw : Region.wanted o (yielded ops a.tmps) = true) (ho : o.op = .binOp .eql 69 x y u) (hx : a.eval x = rcV p) (hy : a.eval y = rcV p) (hp : p.face.blind < 2 ^ 128) (hs : p.sig < 2 ^ 128)
  (hg : ∀ W, (eqGuard .eql 69 x y (rcV p) (rcV p)).run Tryz.prog W = .ok () W) (h : wpList Tryz.prog ops Q rest (a.put o.dst (.bool true)) w) : wpList Tryz.prog ops Q (o :: rest) a w := by
 refine z8n hw fun K hK => ?_
 unfold Oper.wp execOp
 simp only [ho, hx, hy, Sem.run_bind, hg, zpn hp hp hs hs, decide_true, Result.andThen_ok, Sem.run_pure]
 exact hK _ _ h
theorem zsp {H : He} (L : Les H) (l : Lg) (k : Key) (c : Int) : (z51 H l k c).1.face.blind < 2 ^ 128 ∧ (z51 H l k c).1.sig < 2 ^ 128 := by
 have hfc : ∀ x : Option Ev, ((x.map (ym H)).getD z0g).blind < 2 ^ 128 := fun x => by
  cases x with
  | none => show (0 : Nat) < 2 ^ 128; decide
  | some e => exact zas L e
 unfold z51
 split
 ·split
  ·exact ⟨hfc _, L.rlt _ _ _ _⟩
  ·exact ⟨by show (0 : Nat) < 2 ^ 128; decide, by show (0 : Nat) < 2 ^ 128; decide⟩
 ·exact ⟨by show (0 : Nat) < 2 ^ 128; decide, by show (0 : Nat) < 2 ^ 128; decide⟩
theorem zeq (nd : Nat → Nat → Nat) (em : Nat) : ∀ (K : Nat) (l : List Nat) (m : Nat) (mark : Bool), l.length ≤ K → (Merk.csy nd em l m mark).length ≤ l.length + 1
 | K, l, m, mark, hK => by
  rw [Merk.csy]
  split
  ·split
   ·exact Nat.zero_le _
   ·rw [List.length_singleton]; omega
  ·by_cases h2 : 2 ≤ l.length
   ·have h3 := Merk.split_lt h2
    have h4 := Merk.split_pos l.length
    rw [dif_pos h2]
    cases K with
    | zero => omega
    | succ K =>
     split
     ·have := zeq nd em K (l.take (Merk.split l.length)) m mark (by rw [List.length_take]; omega)
      rw [List.length_take] at this
      rw [List.length_append, List.length_singleton]; omega
     ·have := zeq nd em K (l.drop (Merk.split l.length)) (m - Merk.split l.length) false (by rw [List.length_drop]; omega)
      rw [List.length_drop] at this
      rw [List.length_append, List.length_singleton]; omega
   ·rw [dif_neg h2]; exact Nat.zero_le _
theorem zpa {H : He} (L : Les H) (l : Lg) (a b : Hd) : (z4j H l a b).1.length ≤ l.events.length + 1 ∧ ∀ x ∈ (z4j H l a b).1, x < 2 ^ 128 := by
 unfold z4j
 split
 ·split
  ·refine ⟨?_, zp9 L.nds _ _ (fun x hx => ?_)⟩
   ·unfold z2s
    split
    ·split
     ·exact Nat.zero_le _
     ·refine Nat.le_trans (zeq H.nd H.em _ _ _ _ (Nat.le_refl _)) ?_
      rw [List.length_take, zay]; omega
    ·exact Nat.zero_le _
   ·obtain ⟨e, _, rfl⟩ := List.mem_map.1 (List.mem_of_mem_take hx)
    exact L.llt _
  ·exact ⟨Nat.zero_le _, fun x hx => absurd hx List.not_mem_nil⟩
 ·exact ⟨Nat.zero_le _, fun x hx => absurd hx List.not_mem_nil⟩
theorem pv_e {W : World} {g : Nat} {r : ShR} {A : Option Addr} {n c : Nat} {e : Int} (b : Blk W g 73 (pvC r A n c e)) : W.cell? ⟨g, 61, none⟩ = some (.int .i64 e) := by
 rw [b.cell 61, List.getElem?_toArray]
 unfold pvL
 rw [List.getElem?_append_right (by rw [z71]; omega), z71]
 rfl
theorem pv_p {W : World} {g : Nat} {r : ShR} {A : Option Addr} {n c : Nat} {e : Int} (b : Blk W g 73 (pvC r A n c e)) : W.cell? ⟨g, 60, none⟩ = some (.slice A n c) := by
 rw [b.cell 60, List.getElem?_toArray]
 unfold pvL
 rw [List.getElem?_append_right (by rw [z71]; omega), z71]
 rfl
theorem pv_s {W : World} {g : Nat} {r : ShR} {A : Option Addr} {n c : Nat} {e : Int} (b : Blk W g 73 (pvC r A n c e)) : ∀ j u, (shL r)[j]? = some u → W.cell? ((⟨g, 0, none⟩ : Addr).add j) = some u :=
 z5w (xs := pvL r A n c e) b 0 _ (fun j u hj => by
  have hlt := (List.getElem?_eq_some_iff.1 hj).1
  unfold pvL
  rw [Nat.zero_add, List.getElem?_append_left hlt]
  exact hj)
theorem gv_e {W : World} {g : Nat} {r : Rc} {e : Int} (b : Blk W g 77 (gvC r e)) : W.cell? ⟨g, 41, none⟩ = some (.int .i64 e) := by
 rw [b.cell 41, List.getElem?_toArray]
 unfold gvL
 rw [List.getElem?_append_right (by rw [z50]; omega), z50]
 rfl
theorem gv_r {W : World} {g : Nat} {r : Rc} {e : Int} (b : Blk W g 77 (gvC r e)) : ∀ j u, (rcL r)[j]? = some u → W.cell? ((⟨g, 0, none⟩ : Addr).add j) = some u :=
 z5w (xs := gvL r e) b 0 _ (fun j u hj => by
  have hlt := (List.getElem?_eq_some_iff.1 hj).1
  unfold gvL
  rw [Nat.zero_add, List.getElem?_append_left hlt]
  exact hj)
theorem walkLedgerProvesAsSpecified (r : LgR) (c : Int) (ha : Hd) (hb : Hd) (k : Key) (w : World) (h : z0l w r) (hwf : ∀ x ∈ r.es, z0x x.e) (hhf : ∀ h ∈ r.hs, z3y h) (ho1 : -9223372036854775808 ≤ r.o) (ho2 : r.o ≤ 9223372036854775807) (la : z0k ha) (fa : z3y ha) (lb : z0k hb) (fb : z3y hb) (hk : WfK k) (hg : GCon w) (hrc : RCon w) (hgb : GBru w) :
  Calls Tryz.prog 5 #[lgV r, .int .i64 c, hdV ha, hdV hb, z10 k] w (BIs true w) := by
 obtain ⟨wa, hwa, hb0, q0, q1, q2, q3⟩ := bx4 w (lgC r) (hdC ha) (hdC hb) (z0f k) 42 51 51 44
 have HWA := ya hwa
 have HQ0 := ya (fun W (h : Below wa.heap.size wa W) => q0.below h)
 have HQ1 := ya (fun W (h : Below wa.heap.size wa W) => q1.below h)
 have HQ2 := ya (fun W (h : Below wa.heap.size wa W) => q2.below h)
 have HQ3 := ya (fun W (h : Below wa.heap.size wa W) => q3.below h)
 have HSA := ya (fun W (hb : Below w.heap.size w W) => sane W (hg.below hb) (hrc.below hb) (hgb.below hb))
 have HFL := ya (fun W (hb : Below w.heap.size w W) => zt9 r W (h.below hb))
 have HRV := ya (fun (hf : z5p r) W (hb : Below w.heap.size w W) => ztr lds r W (h.below hb) (by have := hf.en; omega) (by have := hf.hn; omega) (by have := hf.tn; omega) (fun x hx => ⟨hwf x hx, hf.fine x hx⟩) (hrc.below hb))
 have HHI := ya (fun (hval : zby z1c (yx r)) => (show z5o r from fun x hx => by rw [(z5q.of h rfl).en]; exact hval.heads x hx))
 have HPR := ya (fun (hf : z5p r) (hi : z5o r) W (hB : Below w.heap.size w W) => zky lds r c hb W (h.below hB) (by have := hf.en; omega) (by have := hf.hn; omega) (fun x hx => ⟨hwf x hx, hf.fine x hx⟩) hi lb (hg.below hB))
 have HRP := ya (fun (hf : z5p r) (hi : z5o r) W (hB : Below w.heap.size w W) => ztl lds r c hb W (h.below hB) (by have := hf.en; omega) (by have := hf.hn; omega) (fun x hx => ⟨hwf x hx, hf.fine x hx⟩) hi lb (hrc.below hB))
 have HCN := ya (fun (hf : z5p r) (hi : z5o r) W (hB : Below w.heap.size w W) => zhz lds r ha hb W (h.below hB) (by have := hf.en; omega) (by have := hf.hn; omega) (fun x hx => ⟨hwf x hx, hf.fine x hx⟩) hi la lb (hg.below hB))
 have HRC := ya (fun (hf : z5p r) (hi : z5o r) W (hB : Below w.heap.size w W) => zsv lds r ha hb W (h.below hB) (by have := hf.en; omega) (by have := hf.hn; omega) (fun x hx => ⟨hwf x hx, hf.fine x hx⟩) hi la lb (hrc.below hB))
 have HRE := ya (fun (hf : z5p r) (hval : zby z1c (yx r)) (hks : k.secret.size ≤ 100) W (hB : Below w.heap.size w W) => zl2 lds r k c W (h.below hB) (by have := hf.en; omega) (fun x hx => ⟨hwf x hx, hf.fine x hx⟩) hk (by omega) hval.off (hg.below hB))
 have HRR := ya (fun (hf : z5p r) (hval : zby z1c (yx r)) (hks : k.secret.size ≤ 100) W (hB : Below w.heap.size w W) => ztn lds r k c W (h.below hB) (by have := hf.en; omega) (fun x hx => ⟨hwf x hx, hf.fine x hx⟩) hk (by omega) hval.off (hrc.below hB))
 have HSH := ya (fun (a b : ShR) (p : Sh) W (ea : a.s = p) (eb : b.s = p) (ka : z28 W a) (kb : z28 W b) (na : a.n ≤ 1000000) (nb : b.n ≤ 1000000) => zv0 a b W (eb.trans ea.symm) ka kb na nb)
 have HSM := ya (fun (l : List Nat) (A : Option Addr) (n c : Nat) (B : Option Addr) (m d : Nat) W (ra : RdD W A n l) (rb : RdD W B m l) (hn : n ≤ 1000000) (hm : m ≤ 1000000) (hl : ∀ x ∈ l, x < 2 ^ 128) => zge l l A n c B m d W ra rb hn hm hl hl)
 have HRL := ya (zsp lds (yx r) k c)
 have HCL := ya (fun (hf : z5p r) => (show (z4j z1c (yx r) ha hb).1.length ≤ 1001 ∧ ∀ x ∈ (z4j z1c (yx r) ha hb).1, x < 2 ^ 128 by
  have h1 := zpa lds (yx r) ha hb
  have h2 := (zr4 h hwf hf).1.en
  exact ⟨by omega, h1.2⟩))
 have HIF := ya (zq2 r h.ev.len)
 have HVF := ya (zw5 z1c (yx r))
 have h5 := z5b
 have h36 := z1v
 have h41 := z50
 have h60 := z71
 have hsz := zdh
 have hpz := zfu
 have hgz := zir
 have hrz := zd4
 have zr := z11 q0
 have hck2 := kv_c2 q3
 clear hwa q0 q1 q2 q3 h hwf hhf ho1 ho2 fa fb la lb hk hg hrc hgb
 unfold BIs at *
 generalize z9b r = FL at *
 obtain ⟨ksz, hsl⟩ : ∃ x, k.secret.size = x := ⟨_, rfl⟩
 rw [hsl] at HRE HRR
 cases FL with
 | false =>
  clear HRV HHI HPR HRP HCN HRC HRE HRR HSH HSM HRL HCL HIF HVF
  go_enter Tryz.func5, Tryz.ntmps5
  go_upto_region 1 with fail
  change Code.wp _ _ _ _ ((((w.alloc (.cells (lgC r) 42)).alloc (.cells (hdC ha) 51)).alloc (.cells (hdC hb) 51)).alloc (.cells (z0f k) 44))
  rw [← HWA.out]
  go_wp2_with ((with_reducible show sl 22); refine yj (us := lgL r) rfl rfl rfl z04 (by rw [yy, h5]) zr ?_)
  refine (HFL.out _ hb0).mono ?_
  rintro e w1 ⟨rfl, hb1⟩
  replace hck2 := cell_later hb1 hck2
  replace zr := fun j u h => cell_later hb1 (zr j u h)
  replace hb0 := yb hb0 hb1
  go_wp2_with fail
  refine (HSA.out _ hb0).mono ?_
  rintro e w3 ⟨rfl, hb3⟩
  go_wp2_with fail
  go_ret
  exact ⟨rfl, yb hb0 hb3⟩
 | true =>
  by_cases hbig : 100 < ksz
  ·have d1 : decide ((100 : Int) < (ksz : Int)) = true := by rw [decide_eq_true_eq]; omega
   have d1n : decide (100 < ksz) = true := by rw [decide_eq_true_eq]; omega
   clear HRV HHI HPR HRP HCN HRC HRE HRR HSH HSM HRL HCL HIF HVF hbig
   go_enter Tryz.func5, Tryz.ntmps5
   go_upto_region 1 with fail
   change Code.wp _ _ _ _ ((((w.alloc (.cells (lgC r) 42)).alloc (.cells (hdC ha) 51)).alloc (.cells (hdC hb) 51)).alloc (.cells (z0f k) 44))
   rw [← HWA.out]
   go_wp2_with ((with_reducible show sl 22); refine yj (us := lgL r) rfl rfl rfl z04 (by rw [yy, h5]) zr ?_)
   refine (HFL.out _ hb0).mono ?_
   rintro e w1 ⟨rfl, hb1⟩
   replace hck2 := cell_later hb1 hck2
   replace zr := fun j u h => cell_later hb1 (zr j u h)
   replace hb0 := yb hb0 hb1
   go_wp2_with fail
   refine (HSA.out _ hb0).mono ?_
   rintro e w3 ⟨rfl, hb3⟩
   go_wp2_with fail
   go_ret
   exact ⟨rfl, yb hb0 hb3⟩
  have d1 : decide ((100 : Int) < (ksz : Int)) = false := by rw [decide_eq_false_iff_not]; omega
  have d1n : decide (100 < ksz) = false := by rw [decide_eq_false_iff_not]; omega
  have hf : z5p r := HIF.out rfl
  have HRV2 := ya (HRV.out hf)
  have HPR2 := ya (HPR.out hf)
  have HRP2 := ya (HRP.out hf)
  have HCN2 := ya (HCN.out hf)
  have HRC2 := ya (HRC.out hf)
  have HRE2 := ya (fun hval => HRE.out hf hval (by omega))
  have HRR2 := ya (fun hval => HRR.out hf hval (by omega))
  have HCL2 := ya (HCL.out hf)
  clear HRV HPR HRP HCN HRC HRE HRR HCL HIF hf hbig
  generalize z5i z1c (yx r) = V at *
  generalize z6c z1c (yx r) c hb = PP at *
  generalize z4j z1c (yx r) ha hb = PC at *
  generalize z51 z1c (yx r) k c = PR at *
  go_enter Tryz.func5, Tryz.ntmps5
  go_upto_region 1 with fail
  change Code.wp _ _ _ _ ((((w.alloc (.cells (lgC r) 42)).alloc (.cells (hdC ha) 51)).alloc (.cells (hdC hb) 51)).alloc (.cells (z0f k) 44))
  rw [← HWA.out]
  go_wp2_with ((with_reducible show sl 22); refine yj (us := lgL r) rfl rfl rfl z04 (by rw [yy, h5]) zr ?_)
  refine (HFL.out _ hb0).mono ?_
  rintro e w1 ⟨rfl, hb1⟩
  replace hck2 := cell_later hb1 hck2
  replace zr := fun j u h => cell_later hb1 (zr j u h)
  replace hb0 := yb hb0 hb1
  go_wp2_with ((with_reducible show sl 33); refine yj (us := lgL r) rfl rfl rfl z04 (by rw [yy, h5]) zr ?_)
  refine (HRV2.out _ hb0).mono ?_
  rintro e w2 ⟨rfl, hb2⟩
  replace hb1 := yb hb1 hb2
  replace hb0 := yb hb0 hb2
  clear hb2 zr hck2 d1 d1n HRV2
  cases V with
  | false =>
   clear HHI HPR2 HRP2 HCN2 HRC2 HRE2 HRR2 HSH HSM HRL HCL2 HVF
   go_wp2_with fail
   refine (HSA.out _ hb0).mono ?_
   rintro e w3 ⟨rfl, hb3⟩
   go_wp2_with fail
   go_ret
   exact ⟨rfl, yb hb0 hb3⟩
  | true =>
   have hval := HVF.out rfl
   have hi := HHI.out hval
   have HPR3 := ya (HPR2.out hi)
   have HRP3 := ya (HRP2.out hi)
   have HCN3 := ya (HCN2.out hi)
   have HRC3 := ya (HRC2.out hi)
   have HRE3 := ya (HRE2.out hval)
   have HRR3 := ya (HRR2.out hval)
   clear HPR2 HRP2 HCN2 HRC2 HRE2 HRR2 HVF HHI hval hi
   unfold ShIs at HPR3
   unfold zbz at HRP3
   unfold z35 at HCN3
   unfold z8w at HRC3
   unfold z87 at HRE3
   unfold zbx at HRR3
   obtain ⟨EP, hEP⟩ : ∃ x, PP.2 = x := ⟨_, rfl⟩
   obtain ⟨EC, hEC⟩ : ∃ x, PC.2 = x := ⟨_, rfl⟩
   obtain ⟨ER, hER⟩ : ∃ x, PR.2 = x := ⟨_, rfl⟩
   rw [hEP] at HPR3 HRP3
   rw [hEC] at HCN3 HRC3
   rw [hER] at HRE3 HRR3
   obtain ⟨ny, hny⟩ : ∃ x, PC.1.length = x := ⟨_, rfl⟩
   rw [hny] at HRC3 HCL2
   have HNY := ya hny
   clear hEP hEC hER hny
   have zr := z11 (HQ0.out _ hb1)
   have hcb := yv (xs := hdL hb) (HQ2.out _ hb1)
   go_wp2_with (first
    | ((with_reducible show sl 39); refine yj (us := lgL r) rfl rfl rfl z04 (by rw [yy, h5]) zr ?_)
    | ((with_reducible show sl 41); refine yj (us := hdL hb) rfl rfl rfl yz (by rw [yt, h36]) hcb ?_))
   refine (HPR3.out _ hb0).mono ?_
   rintro e w3 ⟨s1, rfl, es1, ks1, ns1, hb3⟩
   go_upto_region 8 with ((with_reducible show sl 13); refine z17 (z := shC z0u) (vs := shC s1) rfl rfl rfl rfl (zh0 _) (fun _ => rfl) (fun _ => rfl) (by rw [hsz, hsz]) (by rw [z2y, hsz]) (z7r _) ?_; intro w4 g13 hg13 b13 hb4 lt4; clear hg13 lt4)
   replace ks1 := ks1.below hb4
   replace hb1 := yb hb1 (yb hb3 hb4)
   replace hb0 := yb hb0 (yb hb3 hb4)
   replace zr := z11 (HQ0.out _ hb1)
   replace hcb := yv (xs := hdL hb) (HQ2.out _ hb1)
   have hca := yv (xs := hdL ha) (HQ1.out _ hb1)
   clear hb3 hb4 HPR3
   go_wp2_with (first
    | ((with_reducible show sl 46); refine yj (us := lgL r) rfl rfl rfl z04 (by rw [yy, h5]) zr ?_)
    | ((with_reducible show sl 47); refine yj (us := hdL ha) rfl rfl rfl yz (by rw [yt, h36]) hca ?_)
    | ((with_reducible show sl 48); refine yj (us := hdL hb) rfl rfl rfl yz (by rw [yt, h36]) hcb ?_))
   refine (HCN3.out _ hb0).mono ?_
   rintro e w5 ⟨v5, rfl, o5, hb5⟩
   obtain ⟨A5, c5, rfl, n5, m5, r5⟩ := yg.formN o5 HNY.out
   clear o5
   replace ks1 := ks1.below hb5
   replace b13 := b13.below hb5
   replace hb1 := yb hb1 hb5
   replace hb0 := yb hb0 hb5
   replace zr := z11 (HQ0.out _ hb1)
   have hcy := yv (xs := kv k) (HQ3.out _ hb1)
   clear hb5 HCN3 hca hcb
   go_wp2_with (first
    | ((with_reducible show sl 53); refine yj (us := lgL r) rfl rfl rfl z04 (by rw [yy, h5]) zr ?_)
    | ((with_reducible show sl 54); refine z2q rfl rfl rfl hcy ?_))
   refine (HRE3.out _ hb0).mono ?_
   rintro e w6 ⟨rfl, hb6⟩
   go_upto_region 10 with ((with_reducible show sl 17); refine z17 (z := rcC z19) (vs := rcC PR.1) rfl rfl rfl rfl (z82 _) (fun _ => rfl) (fun _ => rfl) (by rw [hrz, hrz]) (by rw [z1p, hrz]) (z5c _) ?_; intro w7 g17 hg17 b17 hb7 lt7; clear hg17 lt7)
   have hbX := yb hb6 hb7
   replace ks1 := ks1.below hbX
   replace b13 := b13.below hbX
   replace r5 := r5.below hbX
   replace hb1 := yb hb1 hbX
   replace hb0 := yb hb0 hbX
   replace zr := z11 (HQ0.out _ hb1)
   have hcb := yv (xs := hdL hb) (HQ2.out _ hb1)
   clear hb6 hb7 hbX HRE3 hcy
   go_wp2_with (first
    | ((with_reducible show sl 59); refine yj (us := lgL r) rfl rfl rfl z04 (by rw [yy, h5]) zr ?_)
    | ((with_reducible show sl 61); refine yj (us := hdL hb) rfl rfl rfl yz (by rw [yt, h36]) hcb ?_))
   refine (HRP3.out _ hb0).mono ?_
   rintro e w8 ⟨s2, rfl, es2, ks2, ns2, hb8⟩
   go_upto_region 11 with ((with_reducible show sl 19); refine z17 (z := pvC z0u none 0 0 0) (vs := pvC s2 none 0 0 EP) rfl rfl rfl rfl (ze3 _) (fun _ => rfl) (fun _ => rfl) (by rw [hpz, hpz]) (by rw [z3o, hpz]) (z6a _ _ _ _ _) ?_; intro w9 g19 hg19 b19 hb9 lt9; clear hg19 lt9)
   have hbX := yb hb8 hb9
   replace ks1 := ks1.below hbX
   replace ks2 := ks2.below hb9
   replace b13 := b13.below hbX
   replace b17 := b17.below hbX
   replace r5 := r5.below hbX
   replace hb1 := yb hb1 hbX
   replace hb0 := yb hb0 hbX
   replace zr := z11 (HQ0.out _ hb1)
   replace hcb := yv (xs := hdL hb) (HQ2.out _ hb1)
   have hca := yv (xs := hdL ha) (HQ1.out _ hb1)
   clear hb8 hb9 hbX HRP3
   go_wp2_with (first
    | ((with_reducible show sl 63); refine yj (us := lgL r) rfl rfl rfl z04 (by rw [yy, h5]) zr ?_)
    | ((with_reducible show sl 64); refine yj (us := hdL ha) rfl rfl rfl yz (by rw [yt, h36]) hca ?_)
    | ((with_reducible show sl 65); refine yj (us := hdL hb) rfl rfl rfl yz (by rw [yt, h36]) hcb ?_))
   refine (HRC3.out _ hb0).mono ?_
   rintro e w10 ⟨A6, n6, c6, rfl, hn6, o6, hb10⟩
   subst hn6
   obtain ⟨A7, c7, he7, n7, m7, r6⟩ := yg.formN o6 HNY.out
   injection he7 with i1 i2 i3
   subst i1
   subst i3
   go_upto_region 12 with ((with_reducible show sl 20); refine z17 (z := pvC z0u none 0 0 0) (vs := pvC z0u A6 n6 c6 EC) rfl rfl rfl rfl (ze3 _) (fun _ => rfl) (fun _ => rfl) (by rw [hpz, hpz]) (by rw [z3o, hpz]) (z6a _ _ _ _ _) ?_; intro w11 g20 hg20 b20 hb11 lt11; clear hg20 lt11)
   have hbX := yb hb10 hb11
   replace ks1 := ks1.below hbX
   replace ks2 := ks2.below hbX
   replace b13 := b13.below hbX
   replace b17 := b17.below hbX
   replace b19 := b19.below hbX
   replace r5 := r5.below hbX
   replace r6 := r6.below hb11
   replace hb1 := yb hb1 hbX
   replace hb0 := yb hb0 hbX
   replace zr := z11 (HQ0.out _ hb1)
   have hcy := yv (xs := kv k) (HQ3.out _ hb1)
   clear hb10 hb11 hbX HRC3 hca hcb o6
   go_wp2_with (first
    | ((with_reducible show sl 67); refine yj (us := lgL r) rfl rfl rfl z04 (by rw [yy, h5]) zr ?_)
    | ((with_reducible show sl 68); refine z2q rfl rfl rfl hcy ?_))
   refine (HRR3.out _ hb0).mono ?_
   rintro e w12 ⟨rfl, hb12⟩
   go_upto_region 13 with ((with_reducible show sl 21); refine z17 (z := gvC z19 0) (vs := gvC PR.1 ER) rfl rfl rfl rfl (zmm _) (fun _ => rfl) (fun _ => rfl) (by rw [hgz, hgz]) (by rw [z72, hgz]) (zb7 _ _) ?_; intro w13 g21 hg21 b21 hb13 lt13; clear hg21 lt13)
   have hbX := yb hb12 hb13
   replace ks1 := ks1.below hbX
   replace ks2 := ks2.below hbX
   replace b13 := b13.below hbX
   replace b17 := b17.below hbX
   replace b19 := b19.below hbX
   replace b20 := b20.below hbX
   replace r5 := r5.below hbX
   replace r6 := r6.below hbX
   replace hb0 := yb hb0 hbX
   clear hb12 hb13 hbX HRR3 hcy zr hb1 HQ0 HQ1 HQ2 HQ3
   go_wp2_with fail
   refine (HSA.out _ hb0).mono ?_
   rintro e w14 ⟨rfl, hb14⟩
   have HKS1 := ya (ks1.below hb14)
   have HKS2 := ya (ks2.below hb14)
   have HR5 := ya (r5.below hb14)
   have HR6 := ya (r6.below hb14)
   have HB17 := ya (b17.below hb14)
   have HB20 := ya (b20.below hb14)
   have HB21 := ya (b21.below hb14)
   have HES := ya (show s1.s = PP.1 ∧ s2.s = PP.1 ∧ s1.n ≤ 1000000 ∧ s2.n ≤ 1000000 from ⟨es1, es2, ns1, ns2⟩)
   have x13 := yv (xs := shL s1) (b13.below hb14)
   have x19 := pv_s (b19.below hb14)
   have e19 := pv_e (b19.below hb14)
   have n1 : (EP == EP) = true := by rw [beq_iff_eq]
   have n2 : (EC == EC) = true := by rw [beq_iff_eq]
   have n3 : (ER == ER) = true := by rw [beq_iff_eq]
   replace hb0 := yb hb0 hb14
   clear ks1 ks2 r5 r6 b13 b17 b19 b20 b21 es1 es2 ns1 ns2 hb14
   go_wp2_with (first
    | ((with_reducible show sl 79); refine z0s (us := shL s1) (by rfl) rfl rfl z4h (by rw [z2y, h60]) x13 ?_)
    | ((with_reducible show sl 81); refine z0s (us := shL s2) (by rfl) rfl rfl z4h (by rw [z2y, h60]) x19 ?_))
   refine (HSH.out s1 s2 PP.1 _ HES.out.1 HES.out.2.1 HKS1.out HKS2.out HES.out.2.2.1 HES.out.2.2.2).mono ?_
   rintro e w15 ⟨rfl, hb15⟩
   have e20 := pv_e (HB20.out.below hb15)
   have p20 := pv_p (HB20.out.below hb15)
   replace hb0 := yb hb0 hb15
   clear x13 x19 e19 HKS1 HKS2 HES
   go_wp2_with fail
   refine (HSM.out PC.1 A5 n6 c5 A6 n6 c6 _ (HR5.out.below hb15) (HR6.out.below hb15) (by have := HCL2.out.1; omega) (by have := HCL2.out.1; omega) HCL2.out.2).mono ?_
   rintro e w16 ⟨rfl, hb16⟩
   have hbX := yb hb15 hb16
   have e21 := gv_e (HB21.out.below hbX)
   have x21 := gv_r (HB21.out.below hbX)
   have x17 := yv (xs := rcL PR.1) (HB17.out.below hbX)
   have hrl := HRL.out
   replace hb0 := yb hb0 hb16
   clear e20 p20 HR5 HR6 HB20 HB21 HB17 HRL hb15 hb16 hbX
   rw [show decide True = true from rfl]
   go_wp2_with (first
    | ((with_reducible show sl 103); refine z0s (us := rcL PR.1) (by rfl) rfl rfl z36 (by rw [z1p, h41]) x17 ?_)
    | ((with_reducible show sl 105); refine z0s (us := rcL PR.1) (by rfl) rfl rfl z36 (by rw [z1p, h41]) x21 ?_)
    | ((with_reducible show sl 106); refine zwp (p := PR.1) (by rfl) rfl rfl rfl hrl.1 hrl.2 (fun W => by kernel_rfl) ?_))
   go_ret
   exact ⟨rfl, hb0⟩
end
section
set_option maxRecDepth 20000
open Go.ChangeShapes Go.WideShapes Go.ChangeAt Go.RowKit Sha Exch Merk Ring
theorem own : ownKnob Tryz.prog.godebug = none := by kernel_rfl
theorem laidOut : laidOutB Tryz.prog = true := by kernel_rfl
theorem gCon : Tryz.prog.globalNamed "antiquary/hash.constants" = some 2 := by kernel_rfl
theorem gConT : (Tryz.prog.globals[2]?).map (·.type) = some 214 := by kernel_rfl
theorem con_of {W : World} {rest : List (String × DataW Unit)} (h : laidMet Tryz.prog (("antiquary/hash.constants", Rows.laid_antiquary_hash_constants) :: rest) W) : GCon W := by
 have t : Lib.TabIs Tryz.prog W "antiquary/hash.constants" .u32 (K.map fun n => ((n : Nat) : Int)) :=
  Lib.tabIs_of_head (rest := rest) gCon gConT (n := 64) (e := 186) (by kernel_rfl) (by kernel_rfl) (by kernel_rfl) (by kernel_rfl) h
 unfold Lib.TabIs World.var? at t
 rw [gCon] at t
 simp only [Option.bind_some] at t
 split at t
 ·rename_i cs T fr hh
  injection t with t
  refine ⟨T, fr, ?_⟩
  rw [hh, t]
  simp [wv]
 ·cases t
def zcp (cs : Array Value) : Obj → Obj
 | .cells _ t frozen => .cells cs t frozen
 | o => o
noncomputable def zj3 (os : Os) : World :=
 { World.holding Tryz.prog os ⟨#[], #[], []⟩ with heap := (World.holding Tryz.prog os ⟨#[], #[], []⟩).heap.modify 2 (zcp (K.map fun n => Value.int .u32 (n : Nat)).toArray) }
theorem gRef : Tryz.prog.globalNamed "antiquary/antiquaryref02.constants" = some 3 := by kernel_rfl
theorem gRefT : (Tryz.prog.globals[3]?).map (·.type) = some 214 := by kernel_rfl
theorem rcon_of {W : World} {rest : List (String × DataW Unit)} (h : laidMet Tryz.prog (("antiquary/antiquaryref02.constants", Rows.laid_antiquary_antiquaryref02_constants) :: rest) W) : RCon W := by
 have t : Lib.TabIs Tryz.prog W "antiquary/antiquaryref02.constants" .u32 (K.map fun n => ((n : Nat) : Int)) :=
  Lib.tabIs_of_head (rest := rest) gRef gRefT (n := 64) (e := 186) (by kernel_rfl) (by kernel_rfl) (by kernel_rfl) (by kernel_rfl) h
 intro k hk
 have hlen : K.length = 64 := by decide
 rw [t.cell gRef k (by simp [hlen, hk])]
 simp [hlen, hk]
theorem gBru : Tryz.prog.globalNamed "math/bits.deBruijn64tab" = some 1 := by kernel_rfl
theorem gBruT : (Tryz.prog.globals[1]?).map (·.type) = some 188 := by kernel_rfl
theorem bru_of {W : World} {rest : List (String × DataW Unit)} (h : laidMet Tryz.prog (("math/bits.deBruijn64tab", Rows.laid_math_bits_deBruijn64tab) :: rest) W) : GBru W := by
 have t : Lib.TabIs Tryz.prog W "math/bits.deBruijn64tab" .u8 (Lib.deBruijn64tab.map fun n => ((n : Nat) : Int)) :=
  Lib.tabIs_of_head (rest := rest) gBru gBruT (n := 64) (e := 5) (by kernel_rfl) (by kernel_rfl) (by kernel_rfl) (by kernel_rfl) h
 intro k hk
 have hlen : Lib.deBruijn64tab.length = 64 := by decide
 rw [t.cell gBru k (by simp [hlen, hk])]
 simp [hlen, hk]
noncomputable def laidWorldR (os : Os) : World :=
 { zj3 os with heap := (((zj3 os).heap.modify 3 (zcp (K.map fun n => Value.int .u32 (n : Nat)).toArray)).modify 1 (zcp (Lib.deBruijn64tab.map fun n => Value.int .u8 (n : Nat)).toArray)).modify 0 (zcp (Lib.deBruijn32tab.map fun n => Value.int .u8 (n : Nat)).toArray) }
def zbd : TypeDesc → List (Nat × TypeId)
 | .struct fs => fs.toList.map fun f => (f.offset, f.type)
 | _ => []
theorem zey {d : Option TypeDesc} {l : List (Nat × TypeId)} (h : d.map zbd = some l) (hl : l ≠ []) : ∃ fs : Array Field, d = some (.struct fs) ∧ fs.toList.map (fun f => (f.offset, f.type)) = l := by
 cases d with
 | none => simp at h
 | some d =>
  simp only [Option.map_some, Option.some.injEq] at h
  cases d <;> simp only [zbd] at h <;> try (exact absurd h.symm hl)
  rename_i fs
  exact ⟨fs, rfl, h⟩
section
variable {H : Type} {enc : TypeId × Value → H} {W : World} {P : Program}
theorem zbk {base fuel : Nat} {t : TypeId} {L : List (Nat × TypeId)} {cs : List Value} {x : DataW H × List MemPlace} (hu : (P.underlying t).map zbd = some L) (hL : L ≠ []) (h : DataW.trod enc P W base (fun _ => true) true fuel t cs = some x) :
  cs.length = P.cellsOf t ∧ ∀ (i o : Nat) (ty : TypeId), L[i]? = some (o, ty) → ∃ n y, DataW.trod enc P W base (fun _ => true) true n ty ((cs.drop o).take (P.cellsOf ty)) = some y := by
 obtain ⟨fs, hs, hf⟩ := zey hu hL
 obtain ⟨xs, n, _, _, hcl, hxl, hx⟩ := DataW.trod_struct hs h
 refine ⟨hcl, fun i o ty hi => ?_⟩
 rw [← hf, List.getElem?_map, Option.map_eq_some_iff] at hi
 obtain ⟨f, h1, h2⟩ := hi
 injection h2 with e1 e2
 subst e1; subst e2
 have h3 : fs[i]? = some f := by rw [← h1]; simp
 have h4 := hx i f h3
 rw [List.getElem?_eq_getElem (by rw [hxl]; exact (Array.getElem?_eq_some_iff.1 h3).1)] at h4
 exact ⟨n, _, h4⟩
theorem zk2 {base fuel k : Nat} {t e : TypeId} (hu : P.underlying t = some (.array k e)) (he : P.underlying e = some (.int .u8)) (hc : P.cellsOf e = 1) (hct : P.cellsOf t = k) {cs : List Value} {x : DataW H × List MemPlace}
  (h : DataW.trod enc P W base (fun _ => true) true fuel t cs = some x) : ∃ L : List UInt8, cs = bv L ∧ L.length = k := by
 obtain ⟨xs, m, _, _, hl, hxl, hrow⟩ := DataW.trod_array hu h
 rw [hct] at hl
 have each : ∀ i, i < k → ∃ b : UInt8, cs[i]? = some (.int .u8 (b.toNat : Nat)) := fun i hi => by
  have h1 := hrow i hi
  rw [hc, Nat.mul_one] at h1
  rw [List.getElem?_eq_getElem (by omega)] at h1
  obtain ⟨n, e1, _, hw⟩ := DataW.trod_int he h1
  have hn : 0 ≤ n ∧ n < 256 := by simp [Lit.wf, IntKind.min, IntKind.max, IntKind.bits, IntKind.signed] at hw; omega
  refine ⟨UInt8.ofNat n.toNat, ?_⟩
  have e2 : cs[i]? = some (.int .u8 n) := by
   have h3 : (cs.drop i)[0]? = some (.int .u8 n) := by
    have : ((cs.drop i).take 1)[0]? = some (.int .u8 n) := by rw [e1]; rfl
    rwa [List.getElem?_take_of_lt (by omega)] at this
   rwa [List.getElem?_drop, Nat.add_zero] at h3
  rw [e2]
  have : ((UInt8.ofNat n.toNat).toNat : Int) = n := by simp; omega
  rw [this]
 haveI : Inhabited UInt8 := ⟨0⟩
 obtain ⟨f, hf2⟩ := Go.Deep.choose_lt each
 refine ⟨(List.range k).map f, ?_, by simp⟩
 apply List.ext_getElem?
 intro i
 by_cases hi : i < k
 ·rw [hf2 i hi]
  simp [bv, hi]
 ·rw [List.getElem?_eq_none (by omega), List.getElem?_eq_none (by simp [bv]; omega)]
theorem zb8 {α : Type} [Inhabited α] {base fuel k : Nat} {t e : TypeId} (ht : P.underlying t = some (.slice e)) (hc : P.cellsOf e = k) (hk : 0 < k) (f : α → List Value) (hf : ∀ x, (f x).length = k) (Wf : α → Prop)
  (hel : ∀ base fuel cs x, DataW.trod enc P W base (fun _ => true) true fuel e cs = some x → ∃ a, cs = f a ∧ Wf a) {cs : List Value} {x : DataW H × List MemPlace} (h : DataW.trod enc P W base (fun _ => true) true fuel t cs = some x) :
  ∃ A n c, ∃ l : List α, cs = [.slice A n c] ∧ n ≤ c ∧ c ≤ maxLen ∧ l.length = n ∧ Rd W A (n * k) (l.flatMap f) ∧ ∀ a ∈ l, Wf a := by
 rcases Go.Deep.open_slice ht h with ⟨hcs, _⟩ | ⟨x, n, c, m, q, D, Pl, hcs, _, hl, hm, hmm, _, hrow⟩
 ·exact ⟨none, 0, 0, [], hcs, Nat.le_refl _, by simp [maxLen], rfl, by rw [Nat.zero_mul]; exact Rd.none_ _, by simp⟩
 ·simp only [if_true] at hmm
  have each : ∀ i, i < n → ∃ a : α, (∀ j u, (f a)[j]? = some u → W.cell? ((x.add (i * k)).add j) = some u) ∧ Wf a := fun i hi => by
   obtain ⟨cs', h1, h2⟩ := hrow i (by omega)
   obtain ⟨a, rfl, hw⟩ := hel _ _ _ _ h2
   refine ⟨a, fun j u hj => ?_, hw⟩
   rw [hc] at h1
   obtain ⟨_, hlen, hcell⟩ := World.cells?_some h1
   rw [hcell j (by have := (List.getElem?_eq_some_iff.1 hj).1; rw [hf] at this; exact this), hj]
  obtain ⟨K, hK⟩ := Go.Deep.choose_lt each
  refine ⟨some x, n, c, (List.range n).map K, hcs, hl, hm, by simp, ⟨by rw [zcr hf]; simp, fun j u hj => ⟨x, rfl, ?_⟩⟩, fun r hr => ?_⟩
  ·have hlt := (List.getElem?_eq_some_iff.1 hj).1
   rw [zcr hf] at hlt
   simp only [List.length_map, List.length_range] at hlt
   have hdk : j / k < n := Nat.div_lt_of_lt_mul (by rw [Nat.mul_comm]; exact hlt)
   have e : j = j / k * k + j % k := by rw [Nat.mul_comm]; exact (Nat.div_add_mod j k).symm
   have hg := zcj hf ((List.range n).map K) (j / k) (by simp; exact hdk) (j % k) (Nat.mod_lt _ hk)
   rw [← e] at hg
   rw [hg] at hj
   simp only [List.getElem_map, List.getElem_range] at hj
   have := (hK (j / k) hdk).1 (j % k) u hj
   rw [zc0, ← e] at this
   exact this
  ·simp only [List.mem_map, List.mem_range] at hr
   obtain ⟨i, hi, rfl⟩ := hr
   exact (hK i hi).2
end
section
variable {H : Type} {enc : TypeId × Value → H} {W : World}
theorem uDg : Tryz.prog.underlying 25 = some (.array 16 5) := by kernel_rfl
theorem cDg : Tryz.prog.cellsOf 25 = 16 := by kernel_rfl
theorem z40 : Tryz.prog.cellsOf 3 = 1 := by kernel_rfl
theorem cStr : Tryz.prog.cellsOf 9 = 1 := by kernel_rfl
theorem uInt : Tryz.prog.underlying 3 = some (.int .i64) := by kernel_rfl
theorem uStr : Tryz.prog.underlying 9 = some .string := by kernel_rfl
theorem zfp {base fuel : Nat} {cs : List Value} {x : DataW H × List MemPlace} (h : DataW.trod enc Tryz.prog W base (fun _ => true) true fuel 25 cs = some x) : ∃ n, cs = bv (dg n) ∧ n < 2 ^ 128 := by
 obtain ⟨L, rfl, hl⟩ := zk2 uDg (by kernel_rfl) (by kernel_rfl) cDg h
 refine ⟨val L, by rw [zao hl], ?_⟩
 have := z7x L
 rw [hl] at this
 exact this
theorem z23 (cs : List Value) (o n : Nat) : cs.drop o = (cs.drop o).take n ++ cs.drop (o + n) := by
 rw [← List.drop_drop]; exact (List.take_append_drop n (cs.drop o)).symm
theorem zju {P : Program} {base : Nat} {t : TypeId} {fs : Array Field} {v : Value} (hs : P.underlying t = some (.struct fs)) (hval : Value.okWide P W .any base t v) : ∃ cs, v = .agg cs := by
 simp only [Value.okWide, hs] at hval
 obtain ⟨cs, rfl, _⟩ := hval
 exact ⟨cs, rfl⟩
theorem zw8 {n : Int} (h : (Lit.int .i64 n).wf = true) : -9223372036854775808 ≤ n ∧ n ≤ 9223372036854775807 := by
 simp [Lit.wf, IntKind.min, IntKind.max, IntKind.bits, IntKind.signed] at h
 omega
theorem z41 {base fuel : Nat} {cs : List Value} {x : DataW H × List MemPlace} (h : DataW.trod enc Tryz.prog W base (fun _ => true) true fuel 3 cs = some x) : ∃ z : Int, cs = [.int .i64 z] ∧ -9223372036854775808 ≤ z ∧ z ≤ 9223372036854775807 := by
 obtain ⟨z, e, _, w⟩ := DataW.trod_int uInt h
 exact ⟨z, e, zw8 w⟩
theorem oStr {base fuel : Nat} {cs : List Value} {x : DataW H × List MemPlace} (h : DataW.trod enc Tryz.prog W base (fun _ => true) true fuel 9 cs = some x) : ∃ s : ByteArray, cs = [.string s] ∧ s.size ≤ maxLen := by
 obtain ⟨s, e, _, w⟩ := DataW.trod_string uStr h
 exact ⟨s, e, w⟩
theorem oSeal {base fuel : Nat} {cs : List Value} {x : DataW H × List MemPlace} (h : DataW.trod enc Tryz.prog W base (fun _ => true) true fuel 49 cs = some x) : ∃ n, cs = bv (dg n) ∧ n < 2 ^ 128 := by
 obtain ⟨L, rfl, hl⟩ := zk2 (t := 49) (e := 5) (by kernel_rfl) (by kernel_rfl) (by kernel_rfl) (by kernel_rfl) h
 refine ⟨val L, by rw [zao hl], ?_⟩
 have := z7x L
 rw [hl] at this
 exact this
instance : Inhabited At := ⟨⟨⟨#[]⟩, 0, 0, ⟨#[]⟩⟩⟩
instance : Inhabited EvR := ⟨z8p⟩
instance : Inhabited Hd := ⟨z3p⟩
def WfAt (a : At) : Prop := (-9223372036854775808 ≤ a.kind ∧ a.kind ≤ 9223372036854775807) ∧ -9223372036854775808 ≤ a.n ∧ a.n ≤ 9223372036854775807
theorem zq7 (l : List Int) : (l.flatMap fun z => [Value.int .i64 z]) = iv l := by
 induction l with
 | nil => rfl
 | cons x l ih => rw [List.flatMap_cons, ih]; rfl
theorem oInts {base fuel : Nat} {cs : List Value} {x : DataW H × List MemPlace} (h : DataW.trod enc Tryz.prog W base (fun _ => true) true fuel 22 cs = some x) :
  ∃ A n c, ∃ l : List Int, cs = [.slice A n c] ∧ n ≤ c ∧ c ≤ maxLen ∧ l.length = n ∧ Rd W A n (iv l) ∧ z1j l := by
 obtain ⟨A, n, c, l, e, h1, h2, h3, h4, h5⟩ := zb8 (t := 22) (e := 3) (by kernel_rfl) (k := 1) z40 (by omega) (fun z : Int => [Value.int .i64 z]) (fun _ => rfl) (fun z => -9223372036854775808 ≤ z ∧ z ≤ 9223372036854775807) (fun _ _ _ _ h => z41 h) h
 rw [zq7, Nat.mul_one] at h4
 exact ⟨A, n, c, l, e, h1, h2, h3, h4, h5⟩
theorem zrw {base fuel : Nat} {cs : List Value} {x : DataW H × List MemPlace} (h : DataW.trod enc Tryz.prog W base (fun _ => true) true fuel 100 cs = some x) : ∃ a : At, cs = atL a ∧ WfAt a := by
 obtain ⟨hl, hf⟩ := zbk (L := [(0, 9), (1, 3), (2, 3), (3, 9)]) (by kernel_rfl) (by simp) h
 rw [show Tryz.prog.cellsOf 100 = 4 by kernel_rfl] at hl
 obtain ⟨m0, y0, g0⟩ := hf 0 0 _ rfl
 rw [cStr] at g0
 obtain ⟨z0, e0, w0⟩ := oStr g0
 obtain ⟨m1, y1, g1⟩ := hf 1 1 _ rfl
 rw [z40] at g1
 obtain ⟨z1, e1, w1⟩ := z41 g1
 obtain ⟨m2, y2, g2⟩ := hf 2 2 _ rfl
 rw [z40] at g2
 obtain ⟨z2, e2, w2⟩ := z41 g2
 obtain ⟨m3, y3, g3⟩ := hf 3 3 _ rfl
 rw [cStr] at g3
 obtain ⟨z3, e3, w3⟩ := oStr g3
 have t4 : cs.drop 4 = [] := List.drop_of_length_le (by omega)
 have t3 := z23 cs 3 1
 rw [e3, t4] at t3
 have t2 := z23 cs 2 1
 rw [e2, t3] at t2
 have t1 := z23 cs 1 1
 rw [e1, t2] at t1
 have t0 := z23 cs 0 1
 rw [e0, t1] at t0
 rw [List.drop_zero] at t0
 exact ⟨⟨z0, z1, z2, z3⟩, t0, w1, w2⟩
theorem zk3 {base fuel : Nat} {cs : List Value} {x : DataW H × List MemPlace} (h : DataW.trod enc Tryz.prog W base (fun _ => true) true fuel 51 cs = some x) : ∃ h : Hd, cs = hdL h ∧ z0k h ∧ z3y h := by
 obtain ⟨hl, hf⟩ := zbk (L := [(0, 3), (1, 3), (2, 3), (3, 25), (19, 3), (20, 49)]) (by kernel_rfl) (by simp) h
 rw [show Tryz.prog.cellsOf 51 = 36 by kernel_rfl] at hl
 obtain ⟨m0, y0, g0⟩ := hf 0 0 _ rfl
 rw [z40] at g0
 obtain ⟨z0, e0, w0⟩ := z41 g0
 obtain ⟨m1, y1, g1⟩ := hf 1 1 _ rfl
 rw [z40] at g1
 obtain ⟨z1, e1, w1⟩ := z41 g1
 obtain ⟨m2, y2, g2⟩ := hf 2 2 _ rfl
 rw [z40] at g2
 obtain ⟨z2, e2, w2⟩ := z41 g2
 obtain ⟨m3, y3, g3⟩ := hf 3 3 _ rfl
 rw [cDg] at g3
 obtain ⟨z3, e3, w3⟩ := zfp g3
 obtain ⟨m4, y4, g4⟩ := hf 4 19 _ rfl
 rw [z40] at g4
 obtain ⟨z4, e4, w4⟩ := z41 g4
 obtain ⟨m5, y5, g5⟩ := hf 5 20 _ rfl
 rw [(show Tryz.prog.cellsOf 49 = 16 by kernel_rfl)] at g5
 obtain ⟨z5, e5, w5⟩ := oSeal g5
 have t6 : cs.drop 36 = [] := List.drop_of_length_le (by omega)
 have t5 := z23 cs 20 16
 rw [e5, t6] at t5
 have t4 := z23 cs 19 1
 rw [e4, t5] at t4
 have t3 := z23 cs 3 16
 rw [e3, t4] at t3
 have t2 := z23 cs 2 1
 rw [e2, t3] at t2
 have t1 := z23 cs 1 1
 rw [e1, t2] at t1
 have t0 := z23 cs 0 1
 rw [e0, t1] at t0
 rw [List.drop_zero] at t0
 exact ⟨⟨z0, z1, z2, z3, z4, z5⟩, by rw [t0]; simp [hdL], ⟨w3, w5⟩, ⟨fun x hx => by simp only [List.mem_cons, List.not_mem_nil, or_false] at hx; rcases hx with rfl | rfl | rfl | rfl <;> assumption⟩⟩
theorem zrx {base fuel : Nat} {cs : List Value} {x : DataW H × List MemPlace} (h : DataW.trod enc Tryz.prog W base (fun _ => true) true fuel 27 cs = some x) : ∃ r : EvR, cs = evL r ∧ z1d W r ∧ z0x r.e := by
 obtain ⟨hl, hf⟩ := zbk (L := [(0, 3), (1, 3), (2, 3), (3, 3), (4, 3), (5, 3), (6, 3), (7, 22), (8, 23), (9, 25)]) (by kernel_rfl) (by simp) h
 rw [show Tryz.prog.cellsOf 27 = 25 by kernel_rfl] at hl
 obtain ⟨m0, y0, g0⟩ := hf 0 0 _ rfl
 rw [z40] at g0
 obtain ⟨z0, e0, w0⟩ := z41 g0
 obtain ⟨m1, y1, g1⟩ := hf 1 1 _ rfl
 rw [z40] at g1
 obtain ⟨z1, e1, w1⟩ := z41 g1
 obtain ⟨m2, y2, g2⟩ := hf 2 2 _ rfl
 rw [z40] at g2
 obtain ⟨z2, e2, w2⟩ := z41 g2
 obtain ⟨m3, y3, g3⟩ := hf 3 3 _ rfl
 rw [z40] at g3
 obtain ⟨z3, e3, w3⟩ := z41 g3
 obtain ⟨m4, y4, g4⟩ := hf 4 4 _ rfl
 rw [z40] at g4
 obtain ⟨z4, e4, w4⟩ := z41 g4
 obtain ⟨m5, y5, g5⟩ := hf 5 5 _ rfl
 rw [z40] at g5
 obtain ⟨z5, e5, w5⟩ := z41 g5
 obtain ⟨m6, y6, g6⟩ := hf 6 6 _ rfl
 rw [z40] at g6
 obtain ⟨z6, e6, w6⟩ := z41 g6
 obtain ⟨m7, y7, g7⟩ := hf 7 7 _ rfl
 rw [(show Tryz.prog.cellsOf 22 = 1 by kernel_rfl)] at g7
 obtain ⟨A7, n7, c7, z7, e7, a7, b7, l7, r7, w7⟩ := oInts g7
 obtain ⟨m8, y8, g8⟩ := hf 8 8 _ rfl
 rw [(show Tryz.prog.cellsOf 23 = 1 by kernel_rfl)] at g8
 obtain ⟨A8, n8, c8, z8, e8, a8, b8, l8, r8, w8⟩ := zb8 (t := 23) (e := 100) (by kernel_rfl) (k := 4) (by kernel_rfl) (by omega) atL ze7 WfAt (fun _ _ _ _ h => zrw h) g8
 obtain ⟨m9, y9, g9⟩ := hf 9 9 _ rfl
 rw [cDg] at g9
 obtain ⟨z9, e9, w9⟩ := zfp g9
 have t10 : cs.drop 25 = [] := List.drop_of_length_le (by omega)
 have t9 := z23 cs 9 16
 rw [e9, t10] at t9
 have t8 := z23 cs 8 1
 rw [e8, t9] at t8
 have t7 := z23 cs 7 1
 rw [e7, t8] at t7
 have t6 := z23 cs 6 1
 rw [e6, t7] at t6
 have t5 := z23 cs 5 1
 rw [e5, t6] at t5
 have t4 := z23 cs 4 1
 rw [e4, t5] at t4
 have t3 := z23 cs 3 1
 rw [e3, t4] at t3
 have t2 := z23 cs 2 1
 rw [e2, t3] at t2
 have t1 := z23 cs 1 1
 rw [e1, t2] at t1
 have t0 := z23 cs 0 1
 rw [e0, t1] at t0
 rw [List.drop_zero] at t0
 exact ⟨⟨⟨z0, z1, z2, z3, z4, z5, z6, z7, z8, z9⟩, A7, n7, c7, A8, n8, c8⟩, by rw [t0]; simp [evL], ⟨l7, r7, a7, b7, ⟨l8, r8⟩, a8, b8, w9⟩, ⟨w7, w8, fun x hx => by simp only [List.mem_cons, List.not_mem_nil, or_false] at hx; rcases hx with rfl | rfl | rfl | rfl | rfl | rfl | rfl <;> assumption⟩⟩
theorem zs0 {base fuel : Nat} {cs : List Value} {x : DataW H × List MemPlace} (h : DataW.trod enc Tryz.prog W base (fun _ => true) true fuel 39 cs = some x) : ∃ s A n c, ∃ l : List Nat, cs = [.int .i64 s, .slice A n c] ∧ n ≤ c ∧ c ≤ maxLen ∧ RdD W A n l ∧ (∀ x ∈ l, x < 2 ^ 128) ∧ -9223372036854775808 ≤ s ∧ s ≤ 9223372036854775807 := by
 obtain ⟨hl, hf⟩ := zbk (L := [(0, 3), (1, 37)]) (by kernel_rfl) (by simp) h
 rw [show Tryz.prog.cellsOf 39 = 2 by kernel_rfl] at hl
 obtain ⟨m0, y0, g0⟩ := hf 0 0 _ rfl
 rw [z40] at g0
 obtain ⟨z0, e0, w0⟩ := z41 g0
 obtain ⟨m1, y1, g1⟩ := hf 1 1 _ rfl
 rw [(show Tryz.prog.cellsOf 37 = 1 by kernel_rfl)] at g1
 obtain ⟨A1, n1, c1, z1, e1, a1, b1, l1, r1, w1⟩ := zb8 (t := 37) (e := 25) (by kernel_rfl) (k := 16) (by kernel_rfl) (by omega) (fun n => bv (dg n)) z03 (fun n => n < 2 ^ 128) (fun _ _ _ _ h => zfp h) g1
 have t2 : cs.drop 2 = [] := List.drop_of_length_le (by omega)
 have t1 := z23 cs 1 1
 rw [e1, t2] at t1
 have t0 := z23 cs 0 1
 rw [e0, t1] at t0
 rw [List.drop_zero] at t0
 exact ⟨z0, A1, n1, c1, z1, t0, a1, b1, ⟨l1, r1⟩, w1, w0⟩
theorem zrz {base fuel : Nat} {cs : List Value} {x : DataW H × List MemPlace} (h : DataW.trod enc Tryz.prog W base (fun _ => true) true fuel 42 cs = some x) : ∃ r : LgR, cs = lgL r ∧ z0l W r ∧ (∀ x ∈ r.es, z0x x.e) ∧ (∀ h ∈ r.hs, z3y h) ∧ -9223372036854775808 ≤ r.o ∧ r.o ≤ 9223372036854775807 := by
 obtain ⟨hl, hf⟩ := zbk (L := [(0, 3), (1, 36), (2, 39), (4, 40)]) (by kernel_rfl) (by simp) h
 rw [show Tryz.prog.cellsOf 42 = 5 by kernel_rfl] at hl
 obtain ⟨m0, y0, g0⟩ := hf 0 0 _ rfl
 rw [z40] at g0
 obtain ⟨z0, e0, w0⟩ := z41 g0
 obtain ⟨m1, y1, g1⟩ := hf 1 1 _ rfl
 rw [(show Tryz.prog.cellsOf 36 = 1 by kernel_rfl)] at g1
 obtain ⟨A1, n1, c1, z1, e1, a1, b1, l1, r1, w1⟩ := zb8 (t := 36) (e := 27) (by kernel_rfl) (k := 25) (by kernel_rfl) (by omega) evL z2t (fun r => z1d W r ∧ z0x r.e) (fun _ _ _ _ h => zrx h) g1
 obtain ⟨m2, y2, g2⟩ := hf 2 2 _ rfl
 rw [(show Tryz.prog.cellsOf 39 = 2 by kernel_rfl)] at g2
 obtain ⟨s2, A2, n2, c2, z2, e2, a2, b2, r2, w2, v2⟩ := zs0 g2
 obtain ⟨m3, y3, g3⟩ := hf 3 4 _ rfl
 rw [(show Tryz.prog.cellsOf 40 = 1 by kernel_rfl)] at g3
 obtain ⟨A3, n3, c3, z3, e3, a3, b3, l3, r3, w3⟩ := zb8 (t := 40) (e := 51) (by kernel_rfl) (k := 36) (by kernel_rfl) (by omega) hdL z1v (fun h => z0k h ∧ z3y h) (fun _ _ _ _ h => zk3 h) g3
 have t4 : cs.drop 5 = [] := List.drop_of_length_le (by omega)
 have t3 := z23 cs 4 1
 rw [e3, t4] at t3
 have t2 := z23 cs 2 2
 rw [e2, t3] at t2
 have t1 := z23 cs 1 1
 rw [e1, t2] at t1
 have t0 := z23 cs 0 1
 rw [e0, t1] at t0
 rw [List.drop_zero] at t0
 exact ⟨⟨z0, A1, n1, c1, z1, s2, A2, n2, c2, z2, A3, n3, c3, z3⟩, by rw [t0]; simp [lgL], ⟨⟨l1, r1, fun x hx => (w1 x hx).1⟩, a1, b1, r2, a2, b2, w2, ⟨l3, r3⟩, a3, b3, fun h hh => (w3 h hh).1⟩, fun x hx => (w1 x hx).2, fun h hh => (w3 h hh).2, w0⟩
theorem open_hd {base : Nat} {v : Value} {d : DataW H} {p : List MemPlace} (hval : Value.okWide Tryz.prog W .any base 51 v) (h : DataW.Trod enc Tryz.prog W 0 (fun _ => true) true 51 v d p) : ∃ h : Hd, v = hdV h ∧ z0k h ∧ z3y h := by
 obtain ⟨fs, hs, _⟩ := zey (l := [(0, 3), (1, 3), (2, 3), (3, 25), (19, 3), (20, 49)]) (show (Tryz.prog.underlying 51).map zbd = _ by kernel_rfl) (by simp)
 obtain ⟨cs, rfl⟩ := zju hs hval
 obtain ⟨fuel, hf⟩ := h
 obtain ⟨r, e, hr⟩ := zk3 hf
 refine ⟨r, ?_, hr⟩
 simp only [Value.cells] at e
 show Value.agg cs = .agg (hdL r).toArray
 rw [← e]
theorem open_lg {base : Nat} {v : Value} {d : DataW H} {p : List MemPlace} (hval : Value.okWide Tryz.prog W .any base 42 v) (h : DataW.Trod enc Tryz.prog W 0 (fun _ => true) true 42 v d p) : ∃ r : LgR, v = lgV r ∧ z0l W r ∧ (∀ x ∈ r.es, z0x x.e) ∧ (∀ h ∈ r.hs, z3y h) ∧ -9223372036854775808 ≤ r.o ∧ r.o ≤ 9223372036854775807 := by
 obtain ⟨fs, hs, _⟩ := zey (l := [(0, 3), (1, 36), (2, 39), (4, 40)]) (show (Tryz.prog.underlying 42).map zbd = _ by kernel_rfl) (by simp)
 obtain ⟨cs, rfl⟩ := zju hs hval
 obtain ⟨fuel, hf⟩ := h
 obtain ⟨r, e, hr⟩ := zrz hf
 refine ⟨r, ?_, hr⟩
 simp only [Value.cells] at e
 show Value.agg cs = .agg (lgL r).toArray
 rw [← e]
end
end
end Go.Proofs.YtcapckngikekpaaGreatDoor
