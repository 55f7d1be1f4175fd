/-
  Known of the functions of this seat's laws, joined. Conditions: each theorem's own.
-/
import Derived.Test.YtcapckngikekpaaGreatDoorI10
namespace Go.Proofs.YtcapckngikekpaaGreatDoor
set_option linter.unusedSimpArgs false
set_option linter.unusedVariables false
set_option maxRecDepth 100000
set_option maxHeartbeats 16000000
section
open Go.RowKit Exch Merk Ring
theorem zux {H : He} (L : Les H) (hne : H.nd (H.lf (z53 H)) (sB H) ≠ H.nd (sA H) (sB H)) (w : World) (hg : GCon w) (hrc : RCon w) (hgb : GBru w) :
  Calls Tryz.prog 11 #[] w (BIs true w) := by
 have HNE := ya hne
 have HNW : Hid (∀ W, Calls Tryz.prog 18 #[.int .i64 2] W fun e w' => e = .returned (.tuple #[lgV (z0m 2), .int .i64 0]) ∧ Below W.heap.size W w') := ya (fun W => by
  have := zjf 2 W
  rw [if_pos (by decide), if_pos (by decide)] at this
  exact this)
 have HKY := ya (fun W => zr1 W)
 have HAPP := ya (fun (r : LgR) (M : Lg) (v : EvR) (W : World) (hb : Below w.heap.size w W) (h : z0j W r) (e : z03 r = M) (hv : z1d W v) (hf : z0v v.e ∧ z1c v.e) (h1 : M.events.length ≤ 100) (h2 : M.tops.length ≤ 100) => (by
  have z := z4j.of h e
  have := zgu L r v W h hv (by rw [z.en]; omega) (by rw [z.tn]; omega) hf.1 hf.2 (hg.below hb) (hgb.below hb)
  rw [e] at this; exact this : Calls Tryz.prog 23 #[lgV r, evV v] W (z6s r v (z49 H M v.e) W)))
 have HSEA := ya (fun (r : LgR) (M : Lg) (W : World) (hb : Below w.heap.size w W) (h : z0j W r) (e : z03 r = M) (ho : M.office = 2) (hf : ∀ e ∈ M.events, z0v e ∧ z1c e) (h1 : M.events.length ≤ 100) (h2 : M.tops.length ≤ 100) (h3 : M.heads.length ≤ 100) => (by
  have z := z4j.of h e
  have := zfs L r z0h W h (by rw [z.en]; omega) (by rw [z.hn]; omega) (by rw [z.tn]; omega) (z70 z.ev hf) zm8 (by decide) (by rw [z.off, ho]; decide) (hg.below hb)
  rw [e] at this; exact this : Calls Tryz.prog 24 #[lgV r, z1b z0h] W (z64 r (z5z H M z0h) W)))
 have HRCP := ya (fun (r : LgR) (M : Lg) (W : World) (hb : Below w.heap.size w W) (h : z0j W r) (e : z03 r = M) (ho : M.office = 2) (hf : ∀ e ∈ M.events, z0v e ∧ z1c e) (h1 : M.events.length ≤ 100) => (by
  have z := z4j.of h e
  have := zkl L r z0h 1 W h (by rw [z.en]; omega) (z70 z.ev hf) zm8 (by decide) (by rw [z.off, ho]; decide) (hg.below hb)
  rw [e] at this; exact this : Calls Tryz.prog 29 #[lgV r, z1b z0h, .int .i64 1] W (z7i (z7z H M z0h 1) W)))
 have HF4 : ∀ e ∈ (sL4 H).events, z0v e ∧ z1c e := by intro e he; simp only [sL4, List.mem_cons, List.not_mem_nil, or_false] at he; rcases he with rfl | rfl; exact zaq; exact zia
 have HHI : ∀ (r : LgR), z4j r (sL4 H) → zaf r := fun r z x hx => by
  rw [z.hs] at hx; rw [z.en]
  simp only [sL4, List.mem_cons, List.not_mem_nil, or_false] at hx
  rcases hx with rfl | rfl
  ·exact ⟨by show (0 : Int) ≤ 1; decide, by show (1 : Int) ≤ 2; decide⟩
  ·exact ⟨by show (0 : Int) ≤ 2; decide, by show (2 : Int) ≤ 2; decide⟩
 have HPRF := ya (fun (r : LgR) (W : World) (hb : Below w.heap.size w W) (h : z0j W r) (e : z03 r = sL4 H) (hl : z1a (sHb H)) => (by
  have z := z4j.of h e
  have := zt2 L r 1 (sHb H) W h (by rw [z.en]; show 2 ≤ 1000000; omega) (by rw [z.hn]; show 2 ≤ 1000000; omega) (z70 z.ev HF4) (HHI r z) hl (hg.below hb)
  rw [e, zun] at this; exact this : Calls Tryz.prog 27 #[lgV r, .int .i64 1, hdV (sHb H)] W (ShIs (sSh H, 0) W)))
 have HCNS := ya (fun (r : LgR) (W : World) (hb : Below w.heap.size w W) (h : z0j W r) (e : z03 r = sL4 H) (hla : z1a (sHa H)) (hlb : z1a (sHb H)) => (by
  have z := z4j.of h e
  have := zhm L r (sHa H) (sHb H) W h (by rw [z.en]; show 2 ≤ 1000000; omega) (by rw [z.hn]; show 2 ≤ 1000000; omega) (z70 z.ev HF4) (HHI r z) hla hlb (hg.below hb)
  rw [e, zuj] at this; exact this : Calls Tryz.prog 28 #[lgV r, hdV (sHa H), hdV (sHb H)] W (z34 ([sB H], 0) W)))
 have HVAL := ya (fun (r : LgR) (W : World) (hb : Below w.heap.size w W) (h : z0j W r) (e : z03 r = sL4 H) => (by
  have z := z4j.of h e
  have := zlz L r W h (by rw [z.en]; show 2 ≤ 1000000; omega) (by rw [z.hn]; show 2 ≤ 1000000; omega) (by rw [z.tn]; show 1 ≤ 1000; omega) (z70 z.ev HF4) (hg.below hb) (hgb.below hb)
  rw [e, zuv] at this; exact this : Calls Tryz.prog 22 #[lgV r] W (BIs true W)))
 have HF1 : Hid (∀ e ∈ (sL1 H).events, z0v e ∧ z1c e) := ya (by intro e he; simp only [sL1, List.mem_cons, List.not_mem_nil, or_false] at he; subst he; exact zaq)
 have HF3 : Hid (∀ e ∈ (sL3 H).events, z0v e ∧ z1c e) := ya HF4
 have HLF := ya (fun f W (hf : z6q f) (hb : Below w.heap.size w W) => ztk L f W hf.all (hrc.below hb))
 have hfb : z6q (z53 H) ∧ z6q (yv H z1s) := ⟨⟨z5a (by rfl)⟩, ⟨z5a (by rfl)⟩⟩
 have hfh : z6r (sHa H) ∧ z6r (sHb H) := ⟨⟨z5a (by rfl)⟩, ⟨z5a (by rfl)⟩⟩
 have hfr : z29 [(sRc H).office, (sRc H).serial] := z5a (by rfl)
 have hfl : (sRc H).face.blind < 2 ^ 128 := zc2 L z1s
 have hrl : (sRc H).sig < 2 ^ 128 := L.rlt ⟨#[99]⟩ 2 1 (sA H)
 have HFB := ya hfb
 have HLL := ya L.llt
 have HCS := ya (fun (A : Option Addr) (s : ShR) (W : World) (hb : Below w.heap.size w W) (hr : RdK W A 1 [z0h]) (hs : z1y W s) (e : s.s = sSh H) => (by
  have := ze5 L [z0h] A 1 1 s W (by omega) hr z5f.1 z5f.2 (by rw [e]; exact hfb.2) (by rw [e]; exact hfh.2) hs (by have := hs.rd.len; rw [e] at this; have h1 : (sSh H).path.length = 1 := rfl; omega) (hg.below hb)
  rw [e, zut] at this; exact this : Calls Tryz.prog 38 #[.slice A 1 1, shV s] W fun e w' => e = .returned (.int .i64 0) ∧ Below W.heap.size W w'))
 have HCH := ya (fun (A B : Option Addr) (c : Nat) (W : World) (hb : Below w.heap.size w W) (hr : RdK W A 1 [z0h]) (hp : RdD W B 1 [sB H]) (h1 : 1 ≤ c) (h2 : c ≤ maxLen) (hla : z1a (sHa H)) (hlb : z1a (sHb H)) => (by
  have := zhg L [z0h] A 1 1 (sHa H) (sHb H) [sB H] B 1 c W (by omega) hr z5f.1 z5f.2 hfh.1 hfh.2 hla hlb (by omega) hp (fun x hx => by rw [List.mem_singleton.1 hx]; exact L.llt _) h1 h2 (hg.below hb)
  rw [zul] at this; exact this : Calls Tryz.prog 40 #[.slice A 1 1, hdV (sHa H), hdV (sHb H), .slice B 1 c] W fun e w' => e = .returned (.int .i64 0) ∧ Below W.heap.size W w'))
 have HCR := ya (fun (A : Option Addr) (W : World) (hb : Below w.heap.size w W) (hr : RdK W A 1 [z0h]) => (by
  have := ze4 L [z0h] A 1 1 (sRc H) W (by omega) hr z5f.1 z5f.2 hfr hfb.2.all hrl (hg.below hb)
  rw [zuh] at this; exact this : Calls Tryz.prog 42 #[.slice A 1 1, rcV (sRc H)] W fun e w' => e = .returned (.int .i64 0) ∧ Below W.heap.size W w'))
 have HRF := ya (fun (A : Option Addr) (s : ShR) (W : World) (hb : Below w.heap.size w W) (hr : RdK W A 1 [z0h]) (hs : z1y W s) (e : s.s = sSh H) => (by
  have := zfi L [z0h] A 1 1 (sRc H) s W (by omega) hr z5f.1 z5f.2 hfr hfb.2 hrl hfl (by rw [e]; exact hfb.2) (by rw [e]; exact hfh.2) hs (by have := hs.rd.len; rw [e] at this; have h1 : (sSh H).path.length = 1 := rfl; omega) (hg.below hb)
  rw [e, zup] at this; exact this : Calls Tryz.prog 44 #[.slice A 1 1, rcV (sRc H), shV s] W fun e w' => e = .returned (.bool false) ∧ Below W.heap.size W w'))
 have HRB := ya (fun (A : Option Addr) (s : ShR) (W : World) (hb : Below w.heap.size w W) (hr : RdK W A 1 [z0h]) (hs : z1y W s) (e : s.s = z7a H) => (by
  have := zfi L [z0h] A 1 1 (sRc H) s W (by omega) hr z5f.1 z5f.2 hfr hfb.2 hrl hfl (by rw [e]; exact hfb.1) (by rw [e]; exact hfh.2) hs (by have := hs.rd.len; rw [e] at this; have h1 : (z7a H).path.length = 1 := rfl; omega) (hg.below hb)
  rw [e, zuq H hne] at this; exact this : Calls Tryz.prog 44 #[.slice A 1 1, rcV (sRc H), shV s] W fun e w' => e = .returned (.bool false) ∧ Below W.heap.size W w'))
 have HFK := ya (fun (A : Option Addr) (W : World) (hb : Below w.heap.size w W) (hr : RdK W A 1 [z0h]) (hla : z1a (sHa H)) (hlb : z1a (sHb H)) => (by
  have := zer L [z0h] A 1 1 (sHa H) (sHb H) W (by omega) hr z5f.1 z5f.2 hfh.1 hfh.2 hla hlb (hg.below hb)
  rw [zuk] at this; exact this : Calls Tryz.prog 46 #[.slice A 1 1, hdV (sHa H), hdV (sHb H)] W fun e w' => e = .returned (.bool false) ∧ Below W.heap.size W w'))
 have HOP := ya (fun (v : EvR) (W : World) (hb : Below w.heap.size w W) (hv : z1d W v) (e : v.e = z1s) => (by
  have := zjo L (yv H z1s) v W hfl hv (by rw [e]; exact zaq.1) (by rw [e]; exact zaq.2) (hg.below hb)
  rw [e, decide_eq_true rfl] at this; exact this : Calls Tryz.prog 16 #[fcV (yv H z1s), evV v] W fun e w' => e = .returned (.bool true) ∧ Below W.heap.size W w'))
 obtain ⟨NN, hNN⟩ : ∃ x, x = z9t := ⟨_, rfl⟩
 have HD8 := ya (fun W => (by rw [hNN]; exact zns W : (Instr.build 25 #[(0, .int .u8 8)]).run Tryz.prog W = .ok (dgV NN) W))
 have HNN : Hid ((⟨1, 1, 5, 7, 3, 9, 0, [1, 2], [], NN⟩ : Ev) = z1s) := ya (by rw [hNN]; rfl)
 have HNL : Hid (NN < 2 ^ 128) := ya (by rw [hNN]; exact zua)
 clear hNN
 have hlg5 := z4y
 have hsz : ∀ r' : LgR, (lgC r').size = 5 := z3y
 have hsh : ∀ h' : Hd, (hdC h').size = 36 := z4b
 have hs25 : ∀ r' : EvR, (evC r').size = 25 := z3w
 have hs41 : ∀ r' : Rc, (rcC r').size = 41 := zcx
 have hs60 : ∀ r' : ShR, (shC r').size = 60 := z9u
 have h25 := z20
 have h36 := z24
 have h41 := z52
 have h60 := z9v
 have h23 := z3e
 clear hg hrc hgb hne L hfb hfh hfr hfl hrl HF4 HHI
 unfold BIs at *
 unfold isD at HLF
 go_enter Tryz.func11, Tryz.ntmps11
 go_wp2_with fail
 refine (HNW.out _).mono ?_
 rintro e w1 ⟨rfl, hb1⟩
 go_upto_region 3 with (first
  | ((with_reducible show sl 1); refine z1p (z := lgC (z0m 0)) (vs := lgC (z0m 2)) rfl rfl rfl rfl (z1l _) (fun _ => rfl) (fun _ => rfl) rfl (by rw [yq, hsz]) (z0f _) ?_; intro w2 g1 hg1 b1 hb2 lt2; have HG1 : Hid (w.heap.size ≤ g1 ∧ g1 < w2.heap.size) := ya ⟨by have := hb1.size; omega, lt2⟩; clear hg1 lt2)
  | ((with_reducible show sl 27); refine zww (p := 1) (q := 2) (by rfl) rfl rfl rfl ?_; intro w3 gv hgv rv hb3; have HGV : Hid (g1 < gv) := ya (by have := HG1.out; omega); clear hgv)
  | ((with_reducible show sl 28); refine zbf rfl rfl rfl HD8.out ?_)
  | ((with_reducible show sl 29); refine zwp rfl rfl rfl rfl rfl rfl rfl rfl rfl rfl (znt _ NN) ?_)
  | ((with_reducible show sl 3); refine z1p (z := evC z87) (vs := evC ⟨⟨1, 1, 5, 7, 3, 9, 0, [1, 2], [], NN⟩, some ⟨gv, 0, none⟩, 2, 2, none, 0, 0⟩) rfl rfl rfl rfl (zdq _) (fun _ => rfl) (fun _ => rfl) (by rw [hs25, hs25]) (by rw [z1m, hs25]) (zco _) ?_; intro w4 g3 hg3 b3 hb4 lt4; have HN3 : Hid (g3 ≠ g1) := ya (by have := HG1.out; have := hb3.size; omega); clear hg3 lt4))
 have hb24 := yb hb3 hb4
 replace b1 := b1.below hb24
 have hev : z1d w4 ⟨⟨1, 1, 5, 7, 3, 9, 0, [1, 2], [], NN⟩, some ⟨gv, 0, none⟩, 2, 2, none, 0, 0⟩ := ⟨rfl, rv.below hb4, Nat.le_refl _, by simp [maxLen], ⟨rfl, Rd.none_ _⟩, Nat.le_refl _, Nat.zero_le _, HNL.out⟩
 have HGV4 : Hid (gv < w4.heap.size) := ya (by have := rv.get (k := 0) (by omega); obtain ⟨ad, e, hc⟩ := this; injection e with e; subst e; have := hb4.size; exact Nat.lt_of_lt_of_le (zhe hc) this)
 have HEA : Hid (z6p g1 ⟨⟨1, 1, 5, 7, 3, 9, 0, [1, 2], [], NN⟩, some ⟨gv, 0, none⟩, 2, 2, none, 0, 0⟩) := ya ⟨fun _ ad e h => by injection e with e; subst e; have := HGV.out; exact absurd h (by show gv ≠ g1; omega), fun _ => z2k.none g1⟩
 have HEU : Hid (∀ g, w4.heap.size ≤ g → z6p g ⟨⟨1, 1, 5, 7, 3, 9, 0, [1, 2], [], NN⟩, some ⟨gv, 0, none⟩, 2, 2, none, 0, 0⟩) := ya (fun g hg => ⟨fun _ ad e h => by injection e with e; subst e; have := HGV4.out; exact absurd h (by show gv ≠ g; omega), fun _ => z2k.none g⟩)
 have hbw : Below w.heap.size w w4 := yb (yb hb1 hb2) hb24
 have hok : z0j w4 (z0m 2) := z0j.new w4 2
 clear rv hb1 hb2 hb3 hb4 hb24
 obtain ⟨eR, heR⟩ : ∃ x : EvR, x = ⟨⟨1, 1, 5, 7, 3, 9, 0, [1, 2], [], NN⟩, some ⟨gv, 0, none⟩, 2, 2, none, 0, 0⟩ := ⟨_, rfl⟩
 have HER : Hid (eR.e = z1s) := ya (by rw [heR]; exact HNN.out)
 rw [← heR] at b3 hev HEA HEU ⊢
 have HFE : Hid (z0v eR.e ∧ z1c eR.e) := ya (by rw [HER.out]; exact zaq)
 clear heR HGV HGV4
 have hlr := z1g b1
 have hle := yy (xs := evL eR) b3
 have hAP1 : Hid (Calls Tryz.prog 23 #[lgV (z0m 2), evV eR] w4 (z6s (z0m 2) eR (sL1 H, 0) w4)) := ya (by
  have := HAPP.out (z0m 2) sL0 eR w4 hbw hok rfl hev HFE.out (by decide) (by decide)
  rw [HER.out, zub] at this
  exact this)
 go_wp2_with (first
  | ((with_reducible show sl 31); refine yw (us := lgL (z0m 2)) rfl rfl rfl z0o (by rw [yq, hlg5]) hlr ?_)
  | ((with_reducible show sl 32); refine yw (us := evL eR) rfl rfl rfl z23 (by rw [z1m, h25]) hle ?_))
 refine hAP1.out.mono ?_
 rintro e w5 ⟨r1, rfl, he1, hok1, hb5, haw1⟩
 have HAW1 := ya (haw1 g1 (.inl b1.lt) (yg.new g1 2) HEA.out)
 have HUN1 : Hid (∀ g, w5.heap.size ≤ g → yg g r1) := ya (fun g hg => haw1 g (.inr hg) (yg.new g 2) (HEU.out g (by have := hb5.size; omega)))
 replace b1 := b1.below hb5
 clear hok haw1 hlr hle hAP1
 go_upto_region 4 with ((with_reducible show sn); refine z0i (vs := lgC r1) rfl rfl rfl rfl b1 (by rw [hsz, hsz]) (by rw [yq, hsz]) (z0f _) ?_; intro w6 ht6 b6)
 have kp : Kp g1 w4 w6 := (Kp.of hb5).turn ht6
 replace hok1 := hok1.turned ht6 HAW1.out
 replace HUN1 : Hid (∀ g, w6.heap.size ≤ g → yg g r1) := ya (fun g hg => HUN1.out g (by rw [← ht6.size]; exact hg))
 clear b1 hb5 ht6
 replace b3 := kp.blk b3 HN3.out
 replace hev := kp.ev hev HEA.out
 replace HEU := ya (fun g (hg : w6.heap.size ≤ g) => HEU.out g (by have := kp.size; omega))
 replace hbw := hbw.trans (kp.below _ HG1.out.1 hbw.size)
 clear kp
 have hlr := z1g b6
 have hRC := ya (fun W (hb : Below w6.heap.size w6 W) => (by
  have := HRCP.out r1 (sL1 H) W (yb hbw hb) (hok1.below hb) he1 rfl HF1.out (by show 1 ≤ 100; omega)
  rw [zuo] at this
  exact this : Calls Tryz.prog 29 #[lgV r1, z1b z0h, .int .i64 1] W (z7i (sRc H, 0) W)))
 unfold z7i at hRC
 go_cut [5, 6] (fun v5 v6 wx => ∃ g5, v5 = .pointer (some ⟨g5, 0, none⟩) ∧ v6 = .int .i64 0 ∧ w6.heap.size ≤ g5 ∧ Blk wx g5 69 (rcC (sRc H)) ∧ Below w6.heap.size w6 wx)
 case first =>
  have hS : Below w6.heap.size w6 w6.drew := (Below.refl _ _).drew
  refine yz 7 (by kernel_rfl) ?_
  refine WpT.tl 0 rfl (z0k (us := lgL r1) rfl rfl rfl z0o (by rw [yq, hlg5]) hlr) hS ?_
  simp only [nrm]
  refine WpT.fork (i := 1) (j := 6) rfl rfl (by kernel_rfl) (fun K hK => ?_) (fun K hK => ?_)
  ·go_simp; refine (HKY.out _).mono ?_; rintro e w8 ⟨rfl, hb8⟩; (try replace bV := bV.below hb8); replace hS := yb hS hb8
   refine hK _ _ hS ?_; clear hK K; try simp only [nrm]
   refine WpT.fork (i := 2) (j := 6) rfl rfl (by kernel_rfl) (fun K hK => ?_) (fun K hK => ?_)
   ·go_simp; refine (hRC.out _ hS).mono ?_; rintro e w9 ⟨rfl, hb9⟩; (try replace bV := bV.below hb9); replace hS := yb hS hb9
    refine hK _ _ hS ?_; clear hK K; try simp only [nrm]
    refine WpT.tk 3 hS ?_
    simp only [nrm]
    refine WpT.tk 4 hS ?_
    simp only [nrm]
    refine WpT.tp 5 (hS) ?_
    simp only [nrm]
    refine WpT.on 6 rfl (fun K hK => ?_)
    refine z08 rfl z88 ?_; intro wV gV hgV bV hbV; have hgB : w6.heap.size ≤ gV := (by have := hS.size; omega); clear hgV; replace hS := yb hS hbV
    refine hK _ _ hS ?_; clear hK K; try simp only [nrm]
    refine WpT.ta 7 rfl (fun K hK => ?_)
    refine yl (vs := rcC (sRc H)) rfl (by rfl) (by rfl) bV (by rw [hs41, hs41]) (by rw [z1n, hs41]) (z5d _) ?_; intro w13 ht13 b13
    refine hK _ _ ?_; clear hK K; try simp only [nrm]
    refine WpT.ta 8 rfl (fun K hK => ?_)
    go_simp; (try go_bits)
    refine hK _ _ ?_; clear hK K; try simp only [nrm]
    refine WpT.done (by kernel_rfl) ?_ _
    go_wp2_with fail; go_meet; exact ⟨gV, rfl, rfl, hgB, b13, hS.trans (ht13.below _ hgB)⟩
   ·refine z08 rfl z88 ?_; intro wV gV hgV bV hbV; have hgB : w6.heap.size ≤ gV := (by have := hS.size; omega); clear hgV; replace hS := yb hS hbV
    refine hK _ _ hS ?_; clear hK K; try simp only [nrm]
    refine WpT.on 2 rfl (fun K hK => ?_)
    go_simp; refine (hRC.out _ hS).mono ?_; rintro e w9 ⟨rfl, hb9⟩; (try replace bV := bV.below hb9); replace hS := yb hS hb9
    refine hK _ _ hS ?_; clear hK K; try simp only [nrm]
    refine WpT.tk 3 hS ?_
    simp only [nrm]
    refine WpT.tk 4 hS ?_
    simp only [nrm]
    refine WpT.tp 5 (hS) ?_
    simp only [nrm]
    refine WpT.ta 7 rfl (fun K hK => ?_)
    refine yl (vs := rcC (sRc H)) rfl (by rfl) (by rfl) bV (by rw [hs41, hs41]) (by rw [z1n, hs41]) (z5d _) ?_; intro w13 ht13 b13
    refine hK _ _ ?_; clear hK K; try simp only [nrm]
    refine WpT.ta 8 rfl (fun K hK => ?_)
    go_simp; (try go_bits)
    refine hK _ _ ?_; clear hK K; try simp only [nrm]
    refine WpT.done (by kernel_rfl) ?_ _
    go_wp2_with fail; go_meet; exact ⟨gV, rfl, rfl, hgB, b13, hS.trans (ht13.below _ hgB)⟩
  ·refine z08 rfl z88 ?_; intro wV gV hgV bV hbV; have hgB : w6.heap.size ≤ gV := (by have := hS.size; omega); clear hgV; replace hS := yb hS hbV
   refine hK _ _ hS ?_; clear hK K; try simp only [nrm]
   refine WpT.on 1 rfl (fun K hK => ?_)
   go_simp; refine (HKY.out _).mono ?_; rintro e w8 ⟨rfl, hb8⟩; (try replace bV := bV.below hb8); replace hS := yb hS hb8
   refine hK _ _ hS ?_; clear hK K; try simp only [nrm]
   refine WpT.on 2 rfl (fun K hK => ?_)
   go_simp; refine (hRC.out _ hS).mono ?_; rintro e w9 ⟨rfl, hb9⟩; (try replace bV := bV.below hb9); replace hS := yb hS hb9
   refine hK _ _ hS ?_; clear hK K; try simp only [nrm]
   refine WpT.tk 3 hS ?_
   simp only [nrm]
   refine WpT.tk 4 hS ?_
   simp only [nrm]
   refine WpT.tp 5 (hS) ?_
   simp only [nrm]
   refine WpT.ta 7 rfl (fun K hK => ?_)
   refine yl (vs := rcC (sRc H)) rfl (by rfl) (by rfl) bV (by rw [hs41, hs41]) (by rw [z1n, hs41]) (z5d _) ?_; intro w13 ht13 b13
   refine hK _ _ ?_; clear hK K; try simp only [nrm]
   refine WpT.ta 8 rfl (fun K hK => ?_)
   go_simp; (try go_bits)
   refine hK _ _ ?_; clear hK K; try simp only [nrm]
   refine WpT.done (by kernel_rfl) ?_ _
   go_wp2_with fail; go_meet; exact ⟨gV, rfl, rfl, hgB, b13, hS.trans (ht13.below _ hgB)⟩
 case rest =>
 obtain ⟨g5, rfl, rfl, hg5, b5, hb7⟩ := hcut
 have HN5 : Hid (g5 ≠ g1) := ya (by have := b6.lt; omega)
 replace b6 := b6.below hb7
 replace hok1 := hok1.below hb7
 replace HUN1 : Hid (∀ g, wc.heap.size ≤ g → yg g r1) := ya (fun g hg => HUN1.out g (by have := hb7.size; omega))
 replace b3 := b3.below hb7
 replace hev := hev.below hb7
 replace HEU := ya (fun g (hg : wc.heap.size ≤ g) => HEU.out g (by have := hb7.size; omega))
 replace hbw := yb hbw hb7
 clear hb7 hlr hg5 hRC
 obtain ⟨w7, hw7⟩ : ∃ x : World, x = wc := ⟨_, rfl⟩
 rw [← hw7] at b6 hok1 HUN1 b3 hev HEU hbw b5 ⊢
 clear hw7
 go_upto_region 5 with fail
 have hlr := z1g b6
 have hSL := ya (fun W (hb : Below w7.heap.size w7 W) => (by
  have := HSEA.out r1 (sL1 H) W (yb hbw hb) (hok1.below hb) he1 rfl HF1.out (by show 1 ≤ 100; omega) (by show 1 ≤ 100; omega) (by show 0 ≤ 100; omega)
  rw [zur] at this
  exact this : Calls Tryz.prog 24 #[lgV r1, z1b z0h] W (z64 r1 (sL2 H, sHa H, 0) W)))
 have HB1 := ya (fun W (hb : Below w7.heap.size w7 W) => b6.below hb)
 have HL1 : Hid (g1 < w7.heap.size) := ya b6.lt
 unfold z64 at hSL
 go_cut [7, 8] (fun v7 v8 wx => ∃ (g7 : Nat) (r' : LgR), v7 = .pointer (some ⟨g7, 0, none⟩) ∧ v8 = .int .i64 0 ∧ w7.heap.size ≤ g7 ∧ Blk wx g7 51 (hdC (sHa H)) ∧ Blk wx g1 42 (lgC r') ∧ z0j wx r' ∧ z03 r' = sL2 H ∧ yg g1 r' ∧ (∀ g, wx.heap.size ≤ g → yg g r') ∧ z1a (sHa H) ∧ Kp g1 w7 wx)
 case first =>
  have hS : Below w7.heap.size w7 w7.drew := (Below.refl _ _).drew
  refine yz 8 (by kernel_rfl) ?_
  refine WpT.tl 0 rfl (z0k (us := lgL r1) rfl rfl rfl z0o (by rw [yq, hlg5]) hlr) hS ?_
  simp only [nrm]
  refine WpT.fork (i := 1) (j := 7) rfl rfl (by kernel_rfl) (fun K hK => ?_) (fun K hK => ?_)
  ·go_simp; refine (HKY.out _).mono ?_; rintro e w8 ⟨rfl, hb8⟩; (try replace bV := bV.below hb8); replace hS := yb hS hb8
   refine hK _ _ hS ?_; clear hK K; try simp only [nrm]
   refine WpT.fork (i := 2) (j := 7) rfl rfl (by kernel_rfl) (fun K hK => ?_) (fun K hK => ?_)
   ·go_simp; refine (hSL.out _ hS).mono ?_; rintro e w9 ⟨r', rfl, he', hok', hlt', hb9, haw'⟩; have haw2 := haw' g1 (.inl (by have := HL1.out; have := hS.size; omega)) HAW1.out; have hun2 : ∀ g, w9.heap.size ≤ g → yg g r' := (fun g hg => haw' g (.inr hg) (HUN1.out g (by have := hS.size; have := hb9.size; omega))); (try have hawV := haw' gV (.inl bV.lt) (HUN1.out gV hgB)); (try replace bV := bV.below hb9); replace hS := yb hS hb9
    refine hK _ _ hS ?_; clear hK K; try simp only [nrm]
    refine WpT.tk 3 hS ?_
    simp only [nrm]
    refine WpT.tk 4 hS ?_
    simp only [nrm]
    refine WpT.tp 5 (hS) ?_
    simp only [nrm]
    refine WpT.tp 6 (hS) ?_
    simp only [nrm]
    refine WpT.on 7 rfl (fun K hK => ?_)
    refine z08 rfl z1k ?_; intro wV gV hgV bV hbV; have hgB : w7.heap.size ≤ gV := (by have := hS.size; omega); (try have hawV := hun2 gV hgV); (try replace hun2 : ∀ g, wV.heap.size ≤ g → yg g r' := (fun g hg => hun2 g (by have := hbV.size; omega))); clear hgV; (try replace hok' := z0j.below hok' hbV); replace hS := yb hS hbV
    refine hK _ _ hS ?_; clear hK K; try simp only [nrm]
    refine WpT.ta 8 rfl (fun K hK => ?_)
    refine yl (vs := lgC r') rfl (by rfl) (by rfl) (HB1.out _ hS) (by rw [hsz, hsz]) (by rw [yq, hsz]) (z0f _) ?_; intro w12 ht12 b12; have bV2 := ht12.blk bV (by have := HL1.out; omega); have hok2 := hok'.turned ht12 haw2; have kp2 := (Kp.of (g := g1) hS).turn ht12
    refine hK _ _ ?_; clear hK K; try simp only [nrm]
    refine WpT.ta 9 rfl (fun K hK => ?_)
    refine yl (vs := hdC (sHa H)) rfl (by rfl) (by rfl) bV2 (by rw [hsh, hsh]) (by rw [ym, hsh]) (z18 _) ?_; intro w13 ht13 b13; have b14 := ht13.blk b12 (by have := HL1.out; omega); have hok3 := hok2.turned ht13 hawV
    refine hK _ _ ?_; clear hK K; try simp only [nrm]
    refine WpT.ta 10 rfl (fun K hK => ?_)
    go_simp; (try go_bits)
    refine hK _ _ ?_; clear hK K; try simp only [nrm]
    refine WpT.done (by kernel_rfl) ?_ _
    go_wp2_with fail; go_meet; exact ⟨gV, r', rfl, rfl, hgB, b13, b14, hok3, he', haw2, fun g hg => hun2 g (by rw [← ht12.size, ← ht13.size]; exact hg), hlt', kp2.turnNew ht13 hgB⟩
   ·refine z08 rfl z1k ?_; intro wV gV hgV bV hbV; have hgB : w7.heap.size ≤ gV := (by have := hS.size; omega); (try have hawV := hun2 gV hgV); (try replace hun2 : ∀ g, wV.heap.size ≤ g → yg g r' := (fun g hg => hun2 g (by have := hbV.size; omega))); clear hgV; (try replace hok' := z0j.below hok' hbV); replace hS := yb hS hbV
    refine hK _ _ hS ?_; clear hK K; try simp only [nrm]
    refine WpT.on 2 rfl (fun K hK => ?_)
    go_simp; refine (hSL.out _ hS).mono ?_; rintro e w9 ⟨r', rfl, he', hok', hlt', hb9, haw'⟩; have haw2 := haw' g1 (.inl (by have := HL1.out; have := hS.size; omega)) HAW1.out; have hun2 : ∀ g, w9.heap.size ≤ g → yg g r' := (fun g hg => haw' g (.inr hg) (HUN1.out g (by have := hS.size; have := hb9.size; omega))); (try have hawV := haw' gV (.inl bV.lt) (HUN1.out gV hgB)); (try replace bV := bV.below hb9); replace hS := yb hS hb9
    refine hK _ _ hS ?_; clear hK K; try simp only [nrm]
    refine WpT.tk 3 hS ?_
    simp only [nrm]
    refine WpT.tk 4 hS ?_
    simp only [nrm]
    refine WpT.tp 5 (hS) ?_
    simp only [nrm]
    refine WpT.tp 6 (hS) ?_
    simp only [nrm]
    refine WpT.ta 8 rfl (fun K hK => ?_)
    refine yl (vs := lgC r') rfl (by rfl) (by rfl) (HB1.out _ hS) (by rw [hsz, hsz]) (by rw [yq, hsz]) (z0f _) ?_; intro w12 ht12 b12; have bV2 := ht12.blk bV (by have := HL1.out; omega); have hok2 := hok'.turned ht12 haw2; have kp2 := (Kp.of (g := g1) hS).turn ht12
    refine hK _ _ ?_; clear hK K; try simp only [nrm]
    refine WpT.ta 9 rfl (fun K hK => ?_)
    refine yl (vs := hdC (sHa H)) rfl (by rfl) (by rfl) bV2 (by rw [hsh, hsh]) (by rw [ym, hsh]) (z18 _) ?_; intro w13 ht13 b13; have b14 := ht13.blk b12 (by have := HL1.out; omega); have hok3 := hok2.turned ht13 hawV
    refine hK _ _ ?_; clear hK K; try simp only [nrm]
    refine WpT.ta 10 rfl (fun K hK => ?_)
    go_simp; (try go_bits)
    refine hK _ _ ?_; clear hK K; try simp only [nrm]
    refine WpT.done (by kernel_rfl) ?_ _
    go_wp2_with fail; go_meet; exact ⟨gV, r', rfl, rfl, hgB, b13, b14, hok3, he', haw2, fun g hg => hun2 g (by rw [← ht12.size, ← ht13.size]; exact hg), hlt', kp2.turnNew ht13 hgB⟩
  ·refine z08 rfl z1k ?_; intro wV gV hgV bV hbV; have hgB : w7.heap.size ≤ gV := (by have := hS.size; omega); (try have hawV := hun2 gV hgV); (try replace hun2 : ∀ g, wV.heap.size ≤ g → yg g r' := (fun g hg => hun2 g (by have := hbV.size; omega))); clear hgV; (try replace hok' := z0j.below hok' hbV); replace hS := yb hS hbV
   refine hK _ _ hS ?_; clear hK K; try simp only [nrm]
   refine WpT.on 1 rfl (fun K hK => ?_)
   go_simp; refine (HKY.out _).mono ?_; rintro e w8 ⟨rfl, hb8⟩; (try replace bV := bV.below hb8); replace hS := yb hS hb8
   refine hK _ _ hS ?_; clear hK K; try simp only [nrm]
   refine WpT.on 2 rfl (fun K hK => ?_)
   go_simp; refine (hSL.out _ hS).mono ?_; rintro e w9 ⟨r', rfl, he', hok', hlt', hb9, haw'⟩; have haw2 := haw' g1 (.inl (by have := HL1.out; have := hS.size; omega)) HAW1.out; have hun2 : ∀ g, w9.heap.size ≤ g → yg g r' := (fun g hg => haw' g (.inr hg) (HUN1.out g (by have := hS.size; have := hb9.size; omega))); (try have hawV := haw' gV (.inl bV.lt) (HUN1.out gV hgB)); (try replace bV := bV.below hb9); replace hS := yb hS hb9
   refine hK _ _ hS ?_; clear hK K; try simp only [nrm]
   refine WpT.tk 3 hS ?_
   simp only [nrm]
   refine WpT.tk 4 hS ?_
   simp only [nrm]
   refine WpT.tp 5 (hS) ?_
   simp only [nrm]
   refine WpT.tp 6 (hS) ?_
   simp only [nrm]
   refine WpT.ta 8 rfl (fun K hK => ?_)
   refine yl (vs := lgC r') rfl (by rfl) (by rfl) (HB1.out _ hS) (by rw [hsz, hsz]) (by rw [yq, hsz]) (z0f _) ?_; intro w12 ht12 b12; have bV2 := ht12.blk bV (by have := HL1.out; omega); have hok2 := hok'.turned ht12 haw2; have kp2 := (Kp.of (g := g1) hS).turn ht12
   refine hK _ _ ?_; clear hK K; try simp only [nrm]
   refine WpT.ta 9 rfl (fun K hK => ?_)
   refine yl (vs := hdC (sHa H)) rfl (by rfl) (by rfl) bV2 (by rw [hsh, hsh]) (by rw [ym, hsh]) (z18 _) ?_; intro w13 ht13 b13; have b14 := ht13.blk b12 (by have := HL1.out; omega); have hok3 := hok2.turned ht13 hawV
   refine hK _ _ ?_; clear hK K; try simp only [nrm]
   refine WpT.ta 10 rfl (fun K hK => ?_)
   go_simp; (try go_bits)
   refine hK _ _ ?_; clear hK K; try simp only [nrm]
   refine WpT.done (by kernel_rfl) ?_ _
   go_wp2_with fail; go_meet; exact ⟨gV, r', rfl, rfl, hgB, b13, b14, hok3, he', haw2, fun g hg => hun2 g (by rw [← ht12.size, ← ht13.size]; exact hg), hlt', kp2.turnNew ht13 hgB⟩
 case rest =>
 obtain ⟨g7, r2, rfl, rfl, hgx, b7, c2, hok2, he2, haw2, hun2, hlt2, kp⟩ := hcut
 have HN7 : Hid (g7 ≠ g1) := ya (by have := HL1.out; omega)
 have HAW2 := ya haw2
 have HUN2 := ya hun2
 have HLT2 := ya hlt2
 replace b3 := kp.blk b3 HN3.out
 replace b5 := kp.blk b5 HN5.out
 replace hev := kp.ev hev HEA.out
 replace HEU := ya (fun g (hg : wc.heap.size ≤ g) => HEU.out g (by have := kp.size; omega))
 replace hbw := hbw.trans (kp.below _ HG1.out.1 hbw.size)
 clear kp hlr hSL HB1 HL1 hgx haw2 hun2 hlt2 b6 hok1 HAW1 HUN1 he1
 obtain ⟨w10, hnw⟩ : ∃ x : World, x = wc := ⟨_, rfl⟩
 rw [← hnw] at b3 b5 b7 c2 hok2 HUN2 hev HEU hbw ⊢
 clear hnw
 have hlr := z1g c2
 have hAP2 : Hid (Calls Tryz.prog 23 #[lgV r2, evV (z4m z3l)] w10 (z6s r2 (z4m z3l) (sL3 H, 0) w10)) := ya (by
  have := HAPP.out r2 (sL2 H) (z4m z3l) w10 hbw hok2 he2 (zds w10 5 2 9) zia (by show 1 ≤ 100; omega) (by show 1 ≤ 100; omega)
  rw [show (z4m z3l).e = z3l from rfl, zuc] at this
  exact this)
 have HL1 : Hid (g1 < w10.heap.size) := ya c2.lt
 go_wp2_with (first
  | ((with_reducible show sl 50); refine yw (us := lgL r2) rfl rfl rfl z0o (by rw [yq, hlg5]) hlr ?_)
  | ((with_reducible show sl 51); refine zg9 rfl rfl rfl rfl rfl (zdx 5 2 9) ?_))
 refine hAP2.out.mono ?_
 rintro e w11 ⟨r3, rfl, he3, hok3, hb11, haw3⟩
 have HAW3 := ya (haw3 g1 (.inl HL1.out) HAW2.out (zgz g1 z3l))
 have HUN3 : Hid (∀ g, w11.heap.size ≤ g → yg g r3) := ya (fun g hg => haw3 g (.inr hg) (HUN2.out g (by have := hb11.size; omega)) (zgz g z3l))
 replace c2 := c2.below hb11
 clear hok2 haw3 hlr hAP2 HAW2 HUN2 he2
 go_upto_region 7 with ((with_reducible show sn); refine z0i (vs := lgC r3) rfl rfl rfl rfl c2 (by rw [hsz, hsz]) (by rw [yq, hsz]) (z0f _) ?_; intro w12 ht12 c3)
 have kp : Kp g1 w10 w12 := (Kp.of hb11).turn ht12
 replace hok3 := hok3.turned ht12 HAW3.out
 replace HUN3 : Hid (∀ g, w12.heap.size ≤ g → yg g r3) := ya (fun g hg => HUN3.out g (by rw [← ht12.size]; exact hg))
 clear c2 hb11 ht12
 replace b3 := kp.blk b3 HN3.out
 replace b5 := kp.blk b5 HN5.out
 replace b7 := kp.blk b7 HN7.out
 replace hev := kp.ev hev HEA.out
 replace HEU := ya (fun g (hg : w12.heap.size ≤ g) => HEU.out g (by have := kp.size; omega))
 replace hbw := hbw.trans (kp.below _ HG1.out.1 hbw.size)
 clear kp HL1
 have hlr := z1g c3
 have hSL := ya (fun W (hb : Below w12.heap.size w12 W) => (by
  have := HSEA.out r3 (sL3 H) W (yb hbw hb) (hok3.below hb) he3 rfl HF3.out (by show 2 ≤ 100; omega) (by show 1 ≤ 100; omega) (by show 1 ≤ 100; omega)
  rw [zus] at this
  exact this : Calls Tryz.prog 24 #[lgV r3, z1b z0h] W (z64 r3 (sL4 H, sHb H, 0) W)))
 have HB1 := ya (fun W (hb : Below w12.heap.size w12 W) => c3.below hb)
 have HL1 : Hid (g1 < w12.heap.size) := ya c3.lt
 unfold z64 at hSL
 go_cut [10, 11] (fun v7 v8 wx => ∃ (g7 : Nat) (r' : LgR), v7 = .pointer (some ⟨g7, 0, none⟩) ∧ v8 = .int .i64 0 ∧ w12.heap.size ≤ g7 ∧ Blk wx g7 51 (hdC (sHb H)) ∧ Blk wx g1 42 (lgC r') ∧ z0j wx r' ∧ z03 r' = sL4 H ∧ yg g1 r' ∧ (∀ g, wx.heap.size ≤ g → yg g r') ∧ z1a (sHb H) ∧ Kp g1 w12 wx)
 case first =>
  have hS : Below w12.heap.size w12 w12.drew := (Below.refl _ _).drew
  refine yz 8 (by kernel_rfl) ?_
  refine WpT.tl 0 rfl (z0k (us := lgL r3) rfl rfl rfl z0o (by rw [yq, hlg5]) hlr) hS ?_
  simp only [nrm]
  refine WpT.fork (i := 1) (j := 7) rfl rfl (by kernel_rfl) (fun K hK => ?_) (fun K hK => ?_)
  ·go_simp; refine (HKY.out _).mono ?_; rintro e w8 ⟨rfl, hb8⟩; (try replace bV := bV.below hb8); replace hS := yb hS hb8
   refine hK _ _ hS ?_; clear hK K; try simp only [nrm]
   refine WpT.fork (i := 2) (j := 7) rfl rfl (by kernel_rfl) (fun K hK => ?_) (fun K hK => ?_)
   ·go_simp; refine (hSL.out _ hS).mono ?_; rintro e w9 ⟨r', rfl, he', hok', hlt', hb9, haw'⟩; have haw2 := haw' g1 (.inl (by have := HL1.out; have := hS.size; omega)) HAW3.out; have hun2 : ∀ g, w9.heap.size ≤ g → yg g r' := (fun g hg => haw' g (.inr hg) (HUN3.out g (by have := hS.size; have := hb9.size; omega))); (try have hawV := haw' gV (.inl bV.lt) (HUN3.out gV hgB)); (try replace bV := bV.below hb9); replace hS := yb hS hb9
    refine hK _ _ hS ?_; clear hK K; try simp only [nrm]
    refine WpT.tk 3 hS ?_
    simp only [nrm]
    refine WpT.tk 4 hS ?_
    simp only [nrm]
    refine WpT.tp 5 (hS) ?_
    simp only [nrm]
    refine WpT.tp 6 (hS) ?_
    simp only [nrm]
    refine WpT.on 7 rfl (fun K hK => ?_)
    refine z08 rfl z1k ?_; intro wV gV hgV bV hbV; have hgB : w12.heap.size ≤ gV := (by have := hS.size; omega); (try have hawV := hun2 gV hgV); (try replace hun2 : ∀ g, wV.heap.size ≤ g → yg g r' := (fun g hg => hun2 g (by have := hbV.size; omega))); clear hgV; (try replace hok' := z0j.below hok' hbV); replace hS := yb hS hbV
    refine hK _ _ hS ?_; clear hK K; try simp only [nrm]
    refine WpT.ta 8 rfl (fun K hK => ?_)
    refine yl (vs := lgC r') rfl (by rfl) (by rfl) (HB1.out _ hS) (by rw [hsz, hsz]) (by rw [yq, hsz]) (z0f _) ?_; intro w12 ht12 b12; have bV2 := ht12.blk bV (by have := HL1.out; omega); have hok2 := hok'.turned ht12 haw2; have kp2 := (Kp.of (g := g1) hS).turn ht12
    refine hK _ _ ?_; clear hK K; try simp only [nrm]
    refine WpT.ta 9 rfl (fun K hK => ?_)
    refine yl (vs := hdC (sHb H)) rfl (by rfl) (by rfl) bV2 (by rw [hsh, hsh]) (by rw [ym, hsh]) (z18 _) ?_; intro w13 ht13 b13; have b14 := ht13.blk b12 (by have := HL1.out; omega); have hok3 := hok2.turned ht13 hawV
    refine hK _ _ ?_; clear hK K; try simp only [nrm]
    refine WpT.ta 10 rfl (fun K hK => ?_)
    go_simp; (try go_bits)
    refine hK _ _ ?_; clear hK K; try simp only [nrm]
    refine WpT.done (by kernel_rfl) ?_ _
    go_wp2_with fail; go_meet; exact ⟨gV, r', rfl, rfl, hgB, b13, b14, hok3, he', haw2, fun g hg => hun2 g (by rw [← ht12.size, ← ht13.size]; exact hg), hlt', kp2.turnNew ht13 hgB⟩
   ·refine z08 rfl z1k ?_; intro wV gV hgV bV hbV; have hgB : w12.heap.size ≤ gV := (by have := hS.size; omega); (try have hawV := hun2 gV hgV); (try replace hun2 : ∀ g, wV.heap.size ≤ g → yg g r' := (fun g hg => hun2 g (by have := hbV.size; omega))); clear hgV; (try replace hok' := z0j.below hok' hbV); replace hS := yb hS hbV
    refine hK _ _ hS ?_; clear hK K; try simp only [nrm]
    refine WpT.on 2 rfl (fun K hK => ?_)
    go_simp; refine (hSL.out _ hS).mono ?_; rintro e w9 ⟨r', rfl, he', hok', hlt', hb9, haw'⟩; have haw2 := haw' g1 (.inl (by have := HL1.out; have := hS.size; omega)) HAW3.out; have hun2 : ∀ g, w9.heap.size ≤ g → yg g r' := (fun g hg => haw' g (.inr hg) (HUN3.out g (by have := hS.size; have := hb9.size; omega))); (try have hawV := haw' gV (.inl bV.lt) (HUN3.out gV hgB)); (try replace bV := bV.below hb9); replace hS := yb hS hb9
    refine hK _ _ hS ?_; clear hK K; try simp only [nrm]
    refine WpT.tk 3 hS ?_
    simp only [nrm]
    refine WpT.tk 4 hS ?_
    simp only [nrm]
    refine WpT.tp 5 (hS) ?_
    simp only [nrm]
    refine WpT.tp 6 (hS) ?_
    simp only [nrm]
    refine WpT.ta 8 rfl (fun K hK => ?_)
    refine yl (vs := lgC r') rfl (by rfl) (by rfl) (HB1.out _ hS) (by rw [hsz, hsz]) (by rw [yq, hsz]) (z0f _) ?_; intro w12 ht12 b12; have bV2 := ht12.blk bV (by have := HL1.out; omega); have hok2 := hok'.turned ht12 haw2; have kp2 := (Kp.of (g := g1) hS).turn ht12
    refine hK _ _ ?_; clear hK K; try simp only [nrm]
    refine WpT.ta 9 rfl (fun K hK => ?_)
    refine yl (vs := hdC (sHb H)) rfl (by rfl) (by rfl) bV2 (by rw [hsh, hsh]) (by rw [ym, hsh]) (z18 _) ?_; intro w13 ht13 b13; have b14 := ht13.blk b12 (by have := HL1.out; omega); have hok3 := hok2.turned ht13 hawV
    refine hK _ _ ?_; clear hK K; try simp only [nrm]
    refine WpT.ta 10 rfl (fun K hK => ?_)
    go_simp; (try go_bits)
    refine hK _ _ ?_; clear hK K; try simp only [nrm]
    refine WpT.done (by kernel_rfl) ?_ _
    go_wp2_with fail; go_meet; exact ⟨gV, r', rfl, rfl, hgB, b13, b14, hok3, he', haw2, fun g hg => hun2 g (by rw [← ht12.size, ← ht13.size]; exact hg), hlt', kp2.turnNew ht13 hgB⟩
  ·refine z08 rfl z1k ?_; intro wV gV hgV bV hbV; have hgB : w12.heap.size ≤ gV := (by have := hS.size; omega); (try have hawV := hun2 gV hgV); (try replace hun2 : ∀ g, wV.heap.size ≤ g → yg g r' := (fun g hg => hun2 g (by have := hbV.size; omega))); clear hgV; (try replace hok' := z0j.below hok' hbV); replace hS := yb hS hbV
   refine hK _ _ hS ?_; clear hK K; try simp only [nrm]
   refine WpT.on 1 rfl (fun K hK => ?_)
   go_simp; refine (HKY.out _).mono ?_; rintro e w8 ⟨rfl, hb8⟩; (try replace bV := bV.below hb8); replace hS := yb hS hb8
   refine hK _ _ hS ?_; clear hK K; try simp only [nrm]
   refine WpT.on 2 rfl (fun K hK => ?_)
   go_simp; refine (hSL.out _ hS).mono ?_; rintro e w9 ⟨r', rfl, he', hok', hlt', hb9, haw'⟩; have haw2 := haw' g1 (.inl (by have := HL1.out; have := hS.size; omega)) HAW3.out; have hun2 : ∀ g, w9.heap.size ≤ g → yg g r' := (fun g hg => haw' g (.inr hg) (HUN3.out g (by have := hS.size; have := hb9.size; omega))); (try have hawV := haw' gV (.inl bV.lt) (HUN3.out gV hgB)); (try replace bV := bV.below hb9); replace hS := yb hS hb9
   refine hK _ _ hS ?_; clear hK K; try simp only [nrm]
   refine WpT.tk 3 hS ?_
   simp only [nrm]
   refine WpT.tk 4 hS ?_
   simp only [nrm]
   refine WpT.tp 5 (hS) ?_
   simp only [nrm]
   refine WpT.tp 6 (hS) ?_
   simp only [nrm]
   refine WpT.ta 8 rfl (fun K hK => ?_)
   refine yl (vs := lgC r') rfl (by rfl) (by rfl) (HB1.out _ hS) (by rw [hsz, hsz]) (by rw [yq, hsz]) (z0f _) ?_; intro w12 ht12 b12; have bV2 := ht12.blk bV (by have := HL1.out; omega); have hok2 := hok'.turned ht12 haw2; have kp2 := (Kp.of (g := g1) hS).turn ht12
   refine hK _ _ ?_; clear hK K; try simp only [nrm]
   refine WpT.ta 9 rfl (fun K hK => ?_)
   refine yl (vs := hdC (sHb H)) rfl (by rfl) (by rfl) bV2 (by rw [hsh, hsh]) (by rw [ym, hsh]) (z18 _) ?_; intro w13 ht13 b13; have b14 := ht13.blk b12 (by have := HL1.out; omega); have hok3 := hok2.turned ht13 hawV
   refine hK _ _ ?_; clear hK K; try simp only [nrm]
   refine WpT.ta 10 rfl (fun K hK => ?_)
   go_simp; (try go_bits)
   refine hK _ _ ?_; clear hK K; try simp only [nrm]
   refine WpT.done (by kernel_rfl) ?_ _
   go_wp2_with fail; go_meet; exact ⟨gV, r', rfl, rfl, hgB, b13, b14, hok3, he', haw2, fun g hg => hun2 g (by rw [← ht12.size, ← ht13.size]; exact hg), hlt', kp2.turnNew ht13 hgB⟩
 case rest =>
 obtain ⟨g10, r4, rfl, rfl, hgx, b10, c4, hok4, he4, haw4, hun4, hlt4, kp⟩ := hcut
 have HN10 : Hid (g10 ≠ g1) := ya (by have := HL1.out; omega)
 have HAW4 := ya haw4
 have HUN4 := ya hun4
 have HLT4 := ya hlt4
 replace b3 := kp.blk b3 HN3.out
 replace b5 := kp.blk b5 HN5.out
 replace b7 := kp.blk b7 HN7.out
 replace hev := kp.ev hev HEA.out
 replace HEU := ya (fun g (hg : wc.heap.size ≤ g) => HEU.out g (by have := kp.size; omega))
 replace hbw := hbw.trans (kp.below _ HG1.out.1 hbw.size)
 clear kp hlr hSL HB1 HL1 hgx haw4 hun4 hlt4 c3 hok3 HAW3 HUN3 he3
 obtain ⟨w14, hnw⟩ : ∃ x : World, x = wc := ⟨_, rfl⟩
 rw [← hnw] at b3 b5 b7 b10 c4 hok4 HUN4 hev HEU hbw ⊢
 clear hnw
 have hlr := z1g c4
 have hlb := yy (xs := hdL (sHb H)) b10
 go_wp2_with (first
  | ((with_reducible show sl 63); refine yw (us := lgL r4) rfl rfl rfl z0o (by rw [yq, hlg5]) hlr ?_)
  | ((with_reducible show sl 64); refine yw (us := hdL (sHb H)) rfl rfl rfl z00 (by rw [ym, h36]) hlb ?_))
 refine (HPRF.out r4 w14 hbw hok4 he4 HLT4.out).mono ?_
 rintro e w15 ⟨s12, rfl, hs12, hsk, -, hb15⟩
 go_upto_region 9 with ((with_reducible show sl 12); refine z1p (z := shC z40) (vs := shC s12) rfl rfl rfl rfl (zbn _) (fun _ => rfl) (fun _ => rfl) (by rw [hs60, hs60]) (by rw [z2i, hs60]) (z77 _) ?_; intro w16 g12 hg12 b12 hb16 lt16; clear hg12 lt16)
 have hbx := yb hb15 hb16
 replace hsk := hsk.below hb16
 replace b3 := b3.below hbx
 replace b5 := b5.below hbx
 replace b7 := b7.below hbx
 replace b10 := b10.below hbx
 replace c4 := c4.below hbx
 replace hev := hev.below hbx
 replace HEU := ya (fun g (hg : w16.heap.size ≤ g) => HEU.out g (by have := hbx.size; omega))
 replace hok4 := hok4.below hbx
 replace hbw := yb hbw hbx
 clear hbx hb15 hb16 hlr hlb
 have hlr := z1g c4
 have hla := yy (xs := hdL (sHa H)) b7
 have hlb := yy (xs := hdL (sHb H)) b10
 go_wp2_with (first
  | ((with_reducible show sl 69); refine yw (us := lgL r4) rfl rfl rfl z0o (by rw [yq, hlg5]) hlr ?_)
  | ((with_reducible show sl 70); refine yw (us := hdL (sHa H)) rfl rfl rfl z00 (by rw [ym, h36]) hla ?_)
  | ((with_reducible show sl 71); refine yw (us := hdL (sHb H)) rfl rfl rfl z00 (by rw [ym, h36]) hlb ?_))
 refine (HCNS.out r4 w16 hbw hok4 he4 HLT2.out HLT4.out).mono ?_
 rintro e w17 ⟨v14, rfl, o14, hb17⟩
 obtain ⟨A14, c14, rfl, n14, m14, r14⟩ := yx.formN o14 (n := 1) rfl
 clear o14
 replace b3 := b3.below hb17
 replace b5 := b5.below hb17
 replace b7 := b7.below hb17
 replace b10 := b10.below hb17
 replace c4 := c4.below hb17
 replace b12 := b12.below hb17
 replace hev := hev.below hb17
 replace HEU := ya (fun g (hg : w17.heap.size ≤ g) => HEU.out g (by have := hb17.size; omega))
 replace hok4 := hok4.below hb17
 replace hsk := hsk.below hb17
 replace hbw := yb hbw hb17
 clear hb17 hlr hla hlb
 have hlr := z1g c4
 have hAP : Hid (Calls Tryz.prog 23 #[lgV r4, evV (z4m z6i)] w17 (z6s r4 (z4m z6i) (sL4 H, 9) w17)) := ya (by
  have := HAPP.out r4 (sL4 H) (z4m z6i) w17 hbw hok4 he4 (zds w17 5 4 9) zqe (by show 2 ≤ 100; omega) (by show 1 ≤ 100; omega)
  rw [show (z4m z6i).e = z6i from rfl, zue] at this
  exact this)
 go_wp2_with (first
  | ((with_reducible show sl 76); refine yw (us := lgL r4) rfl rfl rfl z0o (by rw [yq, hlg5]) hlr ?_)
  | ((with_reducible show sl 77); refine zg9 rfl rfl rfl rfl rfl (zdx 5 4 9) ?_))
 refine hAP.out.mono ?_
 rintro e w18 ⟨rx, rfl, -, -, hbx, -⟩
 go_upto_region 11 with ((with_reducible show sl 16); refine z1p (z := lgC (z0m 0)) (vs := lgC rx) rfl rfl rfl rfl (z1l _) (fun _ => rfl) (fun _ => rfl) (by rw [hsz, hsz]) (by rw [yq, hsz]) (z0f _) ?_; intro w19 gx hgx bx hby ltx; clear hgx ltx bx)
 replace hbx := yb hbx hby
 replace b3 := b3.below hbx
 replace b5 := b5.below hbx
 replace b7 := b7.below hbx
 replace b10 := b10.below hbx
 replace c4 := c4.below hbx
 replace b12 := b12.below hbx
 replace hev := hev.below hbx
 replace HEU := ya (fun g (hg : w19.heap.size ≤ g) => HEU.out g (by have := hbx.size; omega))
 replace hok4 := hok4.below hbx
 replace hsk := hsk.below hbx
 replace r14 := r14.below hbx
 replace hbw := yb hbw hbx
 clear hbx hby hlr hAP
 have hlr := z1g c4
 have hAP : Hid (Calls Tryz.prog 23 #[lgV r4, evV (z4m z6h)] w19 (z6s r4 (z4m z6h) (sL4 H, 9) w19)) := ya (by
  have := HAPP.out r4 (sL4 H) (z4m z6h) w19 hbw hok4 he4 (zds w19 5 3 8) zqd (by show 2 ≤ 100; omega) (by show 1 ≤ 100; omega)
  rw [show (z4m z6h).e = z6h from rfl, zud] at this
  exact this)
 go_wp2_with (first
  | ((with_reducible show sl 82); refine yw (us := lgL r4) rfl rfl rfl z0o (by rw [yq, hlg5]) hlr ?_)
  | ((with_reducible show sl 83); refine zg9 rfl rfl rfl rfl rfl (zdx 5 3 8) ?_))
 refine hAP.out.mono ?_
 rintro e w20 ⟨rx, rfl, -, -, hbx, -⟩
 go_upto_region 12 with ((with_reducible show sl 18); refine z1p (z := lgC (z0m 0)) (vs := lgC rx) rfl rfl rfl rfl (z1l _) (fun _ => rfl) (fun _ => rfl) (by rw [hsz, hsz]) (by rw [yq, hsz]) (z0f _) ?_; intro w21 gx hgx bx hby ltx; clear hgx ltx bx)
 replace hbx := yb hbx hby
 replace b3 := b3.below hbx
 replace b5 := b5.below hbx
 replace b7 := b7.below hbx
 replace b10 := b10.below hbx
 replace c4 := c4.below hbx
 replace b12 := b12.below hbx
 replace hev := hev.below hbx
 replace HEU := ya (fun g (hg : w21.heap.size ≤ g) => HEU.out g (by have := hbx.size; omega))
 replace hok4 := hok4.below hbx
 replace hsk := hsk.below hbx
 replace r14 := r14.below hbx
 replace hbw := yb hbw hbx
 clear hbx hby hlr hAP
 go_wp2_with fail
 refine (HKY.out _).mono ?_
 rintro e w22 ⟨rfl, hb22⟩
 have hN12 : s12.s.face = yv H z1s := by rw [hs12]; rfl
 have b12x : Blk w22 g12 63 (shC s12) := b12.below hb22
 have hl12 := yy (xs := shL s12) b12x
 have hl60 := h60 s12
 go_upto_region 16 with (first
  | ((with_reducible show sl 126); refine zga rfl rfl rfl ?_; intro w23 gr hr hb23; replace hl12 := fun j u h => cell_later hb23 (hl12 j u h))
  | ((with_reducible show sl 127); refine yw (us := shL s12) rfl rfl rfl z42 (by rw [z2i, hl60]) hl12 ?_)
  | ((with_reducible show sl 21); refine z1p (z := shC z40) (vs := shC s12) rfl rfl rfl rfl (zbn _) (fun _ => rfl) (fun _ => rfl) (by rw [hs60, hs60]) (by rw [z2i, hs60]) (z77 _) ?_; intro w24 g21 hg21 b21 hb24 lt24; have hg21' : w23.heap.size ≤ g21 := (by omega); clear hg21 lt24))
 have HG21 : Hid (w23.heap.size ≤ g21) := ya hg21'
 have hb23' := yb hb22 hb23
 clear hg21' hl12 b12x
 go_upto_region 17 with ((with_reducible show sn); refine z1v (cs' := shC ⟨⟨{ s12.s.face with til := 8 }, s12.s.path, s12.s.head⟩, s12.A, s12.n, s12.c⟩) rfl rfl (by kernel_rfl) rfl rfl rfl b21 (by rw [hs60]; omega) (zsc s12 8) ?_; intro w25 ht25 b25)
 have hb25 : Below w23.heap.size w23 w25 := hb24.trans (ht25.below _ HG21.out)
 replace hr := hr.below hb25
 have hbx := yb hb23' hb25
 replace b3 := b3.below hbx
 replace b5 := b5.below hbx
 replace b7 := b7.below hbx
 replace b10 := b10.below hbx
 replace c4 := c4.below hbx
 replace b12 := b12.below hbx
 replace hev := hev.below hbx
 replace HEU := ya (fun g (hg : w25.heap.size ≤ g) => HEU.out g (by have := hbx.size; omega))
 replace hok4 := hok4.below hbx
 replace hsk := hsk.below hbx
 replace r14 := r14.below hbx
 replace hbw := yb hbw hbx
 clear hbx hb22 hb23 hb24 hb25 hb23' ht25 b21
 obtain ⟨bR, hbR⟩ : ∃ x : ShR, x = ⟨⟨{ s12.s.face with til := 8 }, s12.s.path, s12.s.head⟩, s12.A, s12.n, s12.c⟩ := ⟨_, rfl⟩
 have HBR : Hid (bR.s = z7a H) := ya (by rw [hbR]; show (⟨{ s12.s.face with til := 8 }, s12.s.path, s12.s.head⟩ : Sh) = _; rw [hs12]; rfl)
 have hbk : z1y w25 bR := by rw [hbR]; exact ⟨hsk.rd, hsk.nc, hsk.cm, hsk.lt, hsk.bl, hsk.hd⟩
 rw [← hbR] at b25
 have HS12 := ya hs12
 have hf12 := z7c b12
 have hf25 := z7c b25
 have hfe : bR.s.face = z53 H := by rw [HBR.out]; rfl
 rw [hN12] at hf12
 rw [hfe] at hf25
 have HN12 := ya hN12
 clear hbR hs12 hfe hN12
 have hLA := ya (fun W (hb : Below w25.heap.size w25 W) => HLF.out (yv H z1s) W HFB.out.2 (yb hbw hb))
 have hLB := ya (fun W (hb : Below w25.heap.size w25 W) => HLF.out (z53 H) W HFB.out.1 (yb hbw hb))
 have HLT : Hid (H.lf (z53 H) < 2 ^ 128 ∧ H.lf (yv H z1s) < 2 ^ 128) := ya ⟨HLL.out _, HLL.out _⟩
 have h23a := h23 (yv H z1s)
 have h23b := h23 (z53 H)
 generalize H.lf (z53 H) = LB at *
 generalize H.lf (yv H z1s) = LA at *
 obtain ⟨ot, hot⟩ : ∃ x, (!decide (LB = LA)) = x := ⟨_, rfl⟩
 have hS : Below w25.heap.size w25 w25.drew := (Below.refl _ _).drew
 refine yz 7 (by kernel_rfl) ?_
 refine WpT.tk 0 hS ?_
 simp only [nrm]
 refine WpT.tl 1 rfl (z0k (us := fcL (z53 H)) rfl rfl rfl z2z (by rw [z1j, h23b]) hf25) hS ?_
 simp only [nrm]
 refine WpT.tk 3 hS ?_
 simp only [nrm]
 refine WpT.tl 4 rfl (z0k (us := fcL (yv H z1s)) rfl rfl rfl z2z (by rw [z1j, h23a]) hf12) hS ?_
 simp only [nrm]
 refine WpT.on 2 rfl (fun K hK => ?_)
 go_simp; refine (hLB.out _ hS).mono ?_; rintro e w4 ⟨rfl, hb4⟩; replace hS := yb hS hb4
 refine hK _ _ hS ?_; clear hK K; try simp only [nrm]
 refine WpT.on 5 rfl (fun K hK => ?_)
 go_simp; refine (hLA.out _ hS).mono ?_; rintro e w26 ⟨rfl, hb5⟩; replace hS := yb hS hb5
 refine hK _ _ hS ?_; clear hK K; try simp only [nrm]
 refine WpT.tl 6 rfl (zgi (by rfl) rfl (by rfl) (by rfl) HLT.out.1 HLT.out.2 hot (fun W => by kernel_rfl)) hS ?_
 simp only [nrm]
 refine WpT.ta 7 rfl (fun K hK => ?_)
 go_simp; (try go_bits)
 refine hK _ _ ?_; clear hK K; try simp only [nrm]
 refine WpT.done (by kernel_rfl) ?_ _
 skip
 replace hbk := hbk.below hS
 replace hr := hr.below hS
 replace b25 := b25.below hS
 replace b3 := b3.below hS
 replace b5 := b5.below hS
 replace b7 := b7.below hS
 replace b10 := b10.below hS
 replace c4 := c4.below hS
 replace b12 := b12.below hS
 replace hev := hev.below hS
 replace HEU := ya (fun g (hg : w26.heap.size ≤ g) => HEU.out g (by have := hS.size; omega))
 replace hok4 := hok4.below hS
 replace hsk := hsk.below hS
 replace r14 := r14.below hS
 replace hbw := yb hbw hS
 clear hS hf12 hf25 hLA hLB hot
 rcases ot with _ | _
 ·go_wp2_with fail
  go_ret
  exact ⟨rfl, hbw⟩
 have HP1 : Hid (s12.n = 1) := ya (by have := hsk.rd.len; rw [HS12.out] at this; exact this.symm)
 have x23 := zlg b12
 rw [HP1.out] at x23
 have hl12 := yy (xs := shL s12) b12
 go_wp2_with ((with_reducible show sl 145); refine z19 (us := shL s12) (by rfl) rfl rfl z42 (by rw [z2i, hl60]) hl12 ?_)
 refine (HCS.out _ s12 w26 hbw hr hsk HS12.out).mono ?_
 rintro e w27 ⟨rfl, hbx⟩
 replace b3 := b3.below hbx
 replace b5 := b5.below hbx
 replace b7 := b7.below hbx
 replace b10 := b10.below hbx
 replace c4 := c4.below hbx
 replace b12 := b12.below hbx
 replace b25 := b25.below hbx
 replace hev := hev.below hbx
 replace HEU := ya (fun g (hg : w27.heap.size ≤ g) => HEU.out g (by have := hbx.size; omega))
 replace hok4 := hok4.below hbx
 replace hsk := hsk.below hbx
 replace r14 := r14.below hbx
 replace hr := hr.below hbx
 replace hbk := hbk.below hbx
 replace hbw := yb hbw hbx
 clear hbx
 clear hl12 x23
 have hla := yy (xs := hdL (sHa H)) b7
 have hlb := yy (xs := hdL (sHb H)) b10
 go_wp2_with (first
  | ((with_reducible show sl 151); refine z19 (us := hdL (sHa H)) (by rfl) rfl rfl z00 (by rw [ym, h36]) hla ?_)
  | ((with_reducible show sl 152); refine z19 (us := hdL (sHb H)) (by rfl) rfl rfl z00 (by rw [ym, h36]) hlb ?_))
 refine (HCH.out _ _ _ w27 hbw hr r14 n14 m14 HLT2.out HLT4.out).mono ?_
 rintro e w28 ⟨rfl, hbx⟩
 replace b3 := b3.below hbx
 replace b5 := b5.below hbx
 replace b7 := b7.below hbx
 replace b10 := b10.below hbx
 replace c4 := c4.below hbx
 replace b12 := b12.below hbx
 replace b25 := b25.below hbx
 replace hev := hev.below hbx
 replace HEU := ya (fun g (hg : w28.heap.size ≤ g) => HEU.out g (by have := hbx.size; omega))
 replace hok4 := hok4.below hbx
 replace hsk := hsk.below hbx
 replace r14 := r14.below hbx
 replace hr := hr.below hbx
 replace hbk := hbk.below hbx
 replace hbw := yb hbw hbx
 clear hbx
 clear hla hlb
 have hl5 := yy (xs := rcL (sRc H)) b5
 go_wp2_with ((with_reducible show sl 159); refine z19 (us := rcL (sRc H)) (by rfl) rfl rfl z36 (by rw [z1n, h41]) hl5 ?_)
 refine (HCR.out _ w28 hbw hr).mono ?_
 rintro e w29 ⟨rfl, hbx⟩
 replace b3 := b3.below hbx
 replace b5 := b5.below hbx
 replace b7 := b7.below hbx
 replace b10 := b10.below hbx
 replace c4 := c4.below hbx
 replace b12 := b12.below hbx
 replace b25 := b25.below hbx
 replace hev := hev.below hbx
 replace HEU := ya (fun g (hg : w29.heap.size ≤ g) => HEU.out g (by have := hbx.size; omega))
 replace hok4 := hok4.below hbx
 replace hsk := hsk.below hbx
 replace r14 := r14.below hbx
 replace hr := hr.below hbx
 replace hbk := hbk.below hbx
 replace hbw := yb hbw hbx
 clear hbx
 replace hl5 := yy (xs := rcL (sRc H)) b5
 have hl12 := yy (xs := shL s12) b12
 go_wp2_with (first
  | ((with_reducible show sl 165); refine z19 (us := rcL (sRc H)) (by rfl) rfl rfl z36 (by rw [z1n, h41]) hl5 ?_)
  | ((with_reducible show sl 166); refine z19 (us := shL s12) (by rfl) rfl rfl z42 (by rw [z2i, hl60]) hl12 ?_))
 refine (HRF.out _ s12 w29 hbw hr hsk HS12.out).mono ?_
 rintro e w30 ⟨rfl, hbx⟩
 replace b3 := b3.below hbx
 replace b5 := b5.below hbx
 replace b7 := b7.below hbx
 replace b10 := b10.below hbx
 replace c4 := c4.below hbx
 replace b12 := b12.below hbx
 replace b25 := b25.below hbx
 replace hev := hev.below hbx
 replace HEU := ya (fun g (hg : w30.heap.size ≤ g) => HEU.out g (by have := hbx.size; omega))
 replace hok4 := hok4.below hbx
 replace hsk := hsk.below hbx
 replace r14 := r14.below hbx
 replace hr := hr.below hbx
 replace hbk := hbk.below hbx
 replace hbw := yb hbw hbx
 clear hbx
 replace hl5 := yy (xs := rcL (sRc H)) b5
 replace hl12 := yy (xs := shL bR) b25
 have hl60b := h60 bR
 go_wp2_with (first
  | ((with_reducible show sl 172); refine z19 (us := rcL (sRc H)) (by rfl) rfl rfl z36 (by rw [z1n, h41]) hl5 ?_)
  | ((with_reducible show sl 173); refine z19 (us := shL bR) (by rfl) rfl rfl z42 (by rw [z2i, hl60b]) hl12 ?_))
 refine (HRB.out _ bR w30 hbw hr hbk HBR.out).mono ?_
 rintro e w31 ⟨rfl, hbx⟩
 replace b3 := b3.below hbx
 replace b5 := b5.below hbx
 replace b7 := b7.below hbx
 replace b10 := b10.below hbx
 replace c4 := c4.below hbx
 replace b12 := b12.below hbx
 replace b25 := b25.below hbx
 replace hev := hev.below hbx
 replace HEU := ya (fun g (hg : w31.heap.size ≤ g) => HEU.out g (by have := hbx.size; omega))
 replace hok4 := hok4.below hbx
 replace hsk := hsk.below hbx
 replace r14 := r14.below hbx
 replace hr := hr.below hbx
 replace hbk := hbk.below hbx
 replace hbw := yb hbw hbx
 clear hbx
 clear hl5 hl12
 have hf12 := z7c b12
 rw [HN12.out] at hf12
 have hle := yy (xs := evL eR) b3
 go_wp2_with (first
  | ((with_reducible show sl 179); refine z19 (us := fcL (yv H z1s)) (by rfl) rfl rfl z2z (by rw [z1j, h23a]) hf12 ?_)
  | ((with_reducible show sl 180); refine z19 (us := evL eR) (by rfl) rfl rfl z23 (by rw [z1m, h25]) hle ?_))
 refine (HOP.out eR w31 hbw hev HER.out).mono ?_
 rintro e w32 ⟨rfl, hbx⟩
 replace b3 := b3.below hbx
 replace b5 := b5.below hbx
 replace b7 := b7.below hbx
 replace b10 := b10.below hbx
 replace c4 := c4.below hbx
 replace b12 := b12.below hbx
 replace b25 := b25.below hbx
 replace hev := hev.below hbx
 replace HEU := ya (fun g (hg : w32.heap.size ≤ g) => HEU.out g (by have := hbx.size; omega))
 replace hok4 := hok4.below hbx
 replace hsk := hsk.below hbx
 replace r14 := r14.below hbx
 replace hr := hr.below hbx
 replace hbk := hbk.below hbx
 replace hbw := yb hbw hbx
 clear hbx
 clear hf12 hle
 have hlr := z1g c4
 go_wp2_with ((with_reducible show sl 184); refine z19 (us := lgL r4) (by rfl) rfl rfl z0o (by rw [yq, hlg5]) hlr ?_)
 refine (HVAL.out r4 w32 hbw hok4 he4).mono ?_
 rintro e w33 ⟨rfl, hbx⟩
 replace b3 := b3.below hbx
 replace b5 := b5.below hbx
 replace b7 := b7.below hbx
 replace b10 := b10.below hbx
 replace c4 := c4.below hbx
 replace b12 := b12.below hbx
 replace b25 := b25.below hbx
 replace hev := hev.below hbx
 replace HEU := ya (fun g (hg : w33.heap.size ≤ g) => HEU.out g (by have := hbx.size; omega))
 replace hok4 := hok4.below hbx
 replace hsk := hsk.below hbx
 replace r14 := r14.below hbx
 replace hr := hr.below hbx
 replace hbk := hbk.below hbx
 replace hbw := yb hbw hbx
 clear hbx
 clear hlr
 have hla := yy (xs := hdL (sHa H)) b7
 have hlb := yy (xs := hdL (sHb H)) b10
 go_wp2_with (first
  | ((with_reducible show sl 189); refine z19 (us := hdL (sHa H)) (by rfl) rfl rfl z00 (by rw [ym, h36]) hla ?_)
  | ((with_reducible show sl 190); refine z19 (us := hdL (sHb H)) (by rfl) rfl rfl z00 (by rw [ym, h36]) hlb ?_))
 refine (HFK.out _ w33 hbw hr HLT2.out HLT4.out).mono ?_
 rintro e w34 ⟨rfl, hbx⟩
 go_wp2_with fail
 go_ret
 exact ⟨rfl, yb hbw hbx⟩
def z8l (k : Int) : Int := 1 + (k.tmod 5 + 5).tmod 5
def z4a (d : Int) : Int := (d.tmod 10 + 10).tmod 10
theorem zev (k : Int) : 1 ≤ z8l k ∧ z8l k ≤ 5 := by
  unfold z8l
  have h1 := Int.lt_tmod_of_pos k (b := 5) (by omega)
  have h2 := Int.tmod_lt_of_pos (k.tmod 5 + 5) (b := 5) (by omega)
  have h3 := Int.tmod_nonneg 5 (show 0 ≤ k.tmod 5 + 5 by omega)
  omega
theorem zec (d : Int) : 0 ≤ z4a d ∧ z4a d ≤ 9 := by
  unfold z4a
  have h1 := Int.lt_tmod_of_pos d (b := 10) (by omega)
  have h2 := Int.tmod_lt_of_pos (d.tmod 10 + 10) (b := 10) (by omega)
  have h3 := Int.tmod_nonneg 10 (show 0 ≤ d.tmod 10 + 10 by omega)
  omega
def z6a (k : Nat) (d : Int) (x : Ev) : Ev := { x with kind := z8l x.kind, commit := (k : Int) + 1, day := d + z4a x.day }
def z0e (k : Nat) (d : Int) : List Ev → List Ev
  | [] => []
  | x :: l => z6a k d x :: z0e (k + 1) (d + z4a x.day) l
theorem z5v : ∀ (l : List Ev) (k : Nat) (d : Int), (z0e k d l).length = l.length
  | [], _, _ => rfl
  | x :: l, k, d => by rw [z0e, List.length_cons, List.length_cons, z5v l]
theorem zj4 : ∀ (l : List Ev) (k : Nat) (d : Int) (j : Nat), (z0e k d l)[j]? = l[j]?.map (z6a (k + j) (if j = 0 then d else ((z0e k d l)[j - 1]?.map Ev.day).getD 0))
  | [], _, _, _ => by rw [z0e, List.getElem?_nil, List.getElem?_nil]; rfl
  | x :: l, k, d, 0 => by rw [z0e]; rfl
  | x :: l, k, d, j + 1 => by
    rw [z0e, List.getElem?_cons_succ, List.getElem?_cons_succ, zj4 l (k + 1) (d + z4a x.day) j, if_neg (show ¬ (j + 1 = 0) by omega), show k + 1 + j = k + (j + 1) by omega, show j + 1 - 1 = j by omega]
    cases j with
    | zero => rw [if_pos rfl, List.getElem?_cons_zero]; rfl
    | succ i => rw [if_neg (show ¬ (i + 1 = 0) by omega), List.getElem?_cons_succ, show i + 1 - 1 = i by omega]
theorem z8n (l : List Ev) (j : Nat) (h : j < l.length) : ∃ h2 : j < (z0e 0 0 l).length, (z0e 0 0 l)[j] = z6a j (z01 (z0e 0 0 l) j) l[j] := by
  have h2 : j < (z0e 0 0 l).length := by rw [z5v]; exact h
  refine ⟨h2, ?_⟩
  have h3 := zj4 l 0 0 j
  rw [List.getElem?_eq_getElem h2, List.getElem?_eq_getElem h] at h3
  rw [Option.some.inj h3, Nat.zero_add]
  rfl
structure z10 (es : List Ev) : Prop where
  kind : ∀ j (h : j < es.length), 1 ≤ es[j].kind ∧ es[j].kind ≤ 5
  commit : ∀ j (h : j < es.length), es[j].commit = (j : Int) + 1
  day : ∀ j (h : j < es.length), z01 es j ≤ es[j].day ∧ es[j].day ≤ z01 es j + 9
  len : es.length ≤ 12
theorem zes (l : List Ev) (h : l.length ≤ 12) : z10 (z0e 0 0 l) := by
  have hl : (z0e 0 0 l).length = l.length := z5v l 0 0
  refine ⟨fun j hj => ?_, fun j hj => ?_, fun j hj => ?_, by omega⟩
  · obtain ⟨h2, e⟩ := z8n l j (by omega); rw [e]; exact zev _
  · obtain ⟨h2, e⟩ := z8n l j (by omega); rw [e]; rfl
  · obtain ⟨h2, e⟩ := z8n l j (by omega); rw [e]
    have := zec l[j].day
    show z01 _ j ≤ z01 _ j + z4a _ ∧ z01 _ j + z4a _ ≤ z01 _ j + 9
    omega
theorem zby (es : List Ev) (j : Nat) (h : j < es.length) : z01 es (j + 1) = es[j].day := by
  unfold z01
  rw [if_neg (by omega), show j + 1 - 1 = j by omega, List.getElem?_eq_getElem h]
  rfl
theorem zpb (es : List Ev) (c j : Nat) (h : j ≤ c) : z01 (es.take c) j = z01 es j := by
  unfold z01
  by_cases h0 : j = 0
  · rw [if_pos h0, if_pos h0]
  · rw [if_neg h0, if_neg h0, List.getElem?_take_of_lt (by omega)]
theorem zio (es : List Ev) (c : Nat) (h : c ≤ es.length) : z2a (es.take c) = z01 es c := by
  unfold z2a
  rw [List.length_take, Nat.min_eq_left h, zpb es c c (Nat.le_refl _)]
section
variable {es : List Ev}
theorem z10.up (g : z10 es) (j : Nat) (h : j < es.length) : z01 es j ≤ z01 es (j + 1) ∧ z01 es (j + 1) ≤ z01 es j + 9 := by rw [zby es j h]; exact g.day j h
theorem z10.mono (g : z10 es) (i : Nat) : ∀ j, i ≤ j → j ≤ es.length → z01 es i ≤ z01 es j
  | 0, h, _ => by obtain rfl : i = 0 := by omega
                  exact Int.le_refl _
  | j + 1, h, hj => by
    by_cases e : i = j + 1
    · subst e; exact Int.le_refl _
    · exact Int.le_trans (g.mono i j (by omega) (by omega)) (g.up j (by omega)).1
theorem z10.le (g : z10 es) : ∀ j : Nat, j ≤ es.length → 0 ≤ z01 es j ∧ z01 es j ≤ 9 * (j : Int)
  | 0, _ => by unfold z01; rw [if_pos rfl]; omega
  | j + 1, hj => by have h1 := g.le j (by omega); have h2 := g.up j (by omega); omega
theorem z10.bound (g : z10 es) (j : Nat) (h : j ≤ es.length) : 0 ≤ z01 es j ∧ z01 es j ≤ 108 := by have h1 := g.le j h; have h2 := g.len; omega
theorem z10.fol (g : z10 es) (j : Nat) (h : j < es.length) : fol j (z01 es j) es[j] = 0 := by
  have h1 := g.kind j h
  have h2 := g.commit j h
  have h3 := g.day j h
  have h4 := g.bound j (by omega)
  have h5 := g.len
  unfold Proofs.YtcapckngikekpaaGreatDoor.fol
  rw [if_neg (by omega), if_neg (by omega), if_neg (by omega)]
theorem z10.follows (g : z10 es) (j : Nat) (h : j < es.length) : follows (es.take j) es[j] = 0 := by
  unfold Proofs.YtcapckngikekpaaGreatDoor.follows
  rw [zio es j (by omega), List.length_take, Nat.min_eq_left (by omega)]
  exact g.fol j h
theorem z10.okGo (g : z10 es) : ∀ k j, j + k = es.length → okGo j (z01 es j) (es.drop j) = true
  | 0, j, h => by rw [List.drop_of_length_le (by omega)]; rfl
  | k + 1, j, h => by
    have hj : j < es.length := by omega
    rw [List.drop_eq_getElem_cons hj, Proofs.YtcapckngikekpaaGreatDoor.okGo, if_pos (g.fol j hj), ← zby es j hj]
    exact g.okGo k (j + 1) (by omega)
variable (H : He)
variable (es)
def yn (c : Nat) : Hd := zc8 H ⟨#[100]⟩ 1 3 (es.take c) (root H.nd H.em (yo H (es.take c)))
def z22 (j : Nat) : Fc := (es[j]?.map (yv H)).getD z1e
def z25 (j : Nat) : Rc := ⟨3, z22 es H j, 1, H.sr ⟨#[100]⟩ 3 1 (H.lf (z22 es H j))⟩
def lgW (j : Nat) (cs : List Nat) : Lg := ⟨3, es.take j, (j : Int), z0y H.nd H.em (yo H (es.take j)), cs.map (yn es H)⟩
theorem z7q (j : Nat) (h : j < es.length) : z22 es H j = yv H es[j] := by unfold z22; rw [List.getElem?_eq_getElem h]; rfl
theorem z43 (c : Nat) (h : c ≤ es.length) : (yn es H c).commit = (c : Int) := by
  show (((es.take c).length : Nat) : Int) = c
  rw [List.length_take, Nat.min_eq_left h]
theorem z8i (c : Nat) (h : c ≤ es.length) : (yn es H c).day = z01 es c := zio es c h
theorem zm4 : z44 z11 3 = true := by decide +kernel
theorem z4w (c : Nat) (h : c ≤ es.length) : (yo H (es.take c)).length = c := by rw [zcf, List.length_take, Nat.min_eq_left h]
theorem zr9 (j : Nat) (h : j < es.length) : yo H (es.take (j + 1)) = yo H (es.take j) ++ [H.lf (yv H es[j])] := by
  rw [List.take_succ_eq_append_getElem h]; unfold yo; rw [List.map_append]; rfl
variable {es}
theorem w_app (g : z10 es) (j : Nat) (h : j < es.length) (cs : List Nat) : z49 H (lgW es H j cs) es[j] = (lgW es H (j + 1) cs, 0) := by
  have h5 := g.len
  have h1 := zbv H.nd H.em (yo H (es.take j)) (H.lf (yv H es[j])) (by rw [z4w es H j (by omega)]; omega)
  rw [z4w es H j (by omega), ← zr9 es H j h] at h1
  unfold z49
  rw [if_pos (show follows (lgW es H j cs).events es[j] = 0 from g.follows j h)]
  rw [show (lgW es H j cs).size = (j : Int) from rfl, show (lgW es H j cs).tops = z0y H.nd H.em (yo H (es.take j)) from rfl, h1, if_pos rfl]
  unfold lgW
  rw [List.take_succ_eq_append_getElem h]
theorem zw7 (g : z10 es) (j : Nat) (h : j < es.length) (cs : List Nat) : z7z H (lgW es H (j + 1) cs) z11 ((j : Int) + 1) = (z25 es H j, 0) := by
  unfold z7z
  rw [if_pos (show z44 z11 (lgW es H (j + 1) cs).office = true from zm4), if_pos ⟨by omega, by show (j : Int) + 1 ≤ ((es.take (j + 1)).length : Int); rw [List.length_take]; omega⟩]
  rw [show (lgW es H (j + 1) cs).events = es.take (j + 1) from rfl, show ((j : Int) + 1).toNat - 1 = j by omega, List.getElem?_take_of_lt (by omega)]
  rfl
theorem zm6 (g : z10 es) (j : Nat) (h : j ≤ es.length) (cs : List Nat) : z5z H (lgW es H j cs) z11 = (lgW es H j (cs ++ [j]), yn es H j, 0) := by
  have h5 := g.len
  have h1 : z3a H.nd H.em (lgW es H j cs).size (lgW es H j cs).tops = (root H.nd H.em (yo H (es.take j)), 0) := by
    show z3a H.nd H.em (j : Int) (z0y H.nd H.em (yo H (es.take j))) = _
    have h2 := (zcu H.nd H.em (yo H (es.take j)) (by rw [z4w es H j h]; omega)).2
    rw [z4w es H j h] at h2
    unfold z3a
    rw [if_pos h2, zkb H.nd H.em _ _ (Nat.le_refl _)]
  unfold z5z
  rw [if_pos (show z44 z11 (lgW es H j cs).office = true from zm4), h1]
  unfold lgW
  rw [List.map_append]
  rfl
theorem zm3 (g : z10 es) : ∀ (cs : List Nat) (la : Nat), cs.Pairwise (· ≤ ·) → (∀ c ∈ cs, la ≤ c ∧ c ≤ es.length) → z30 H 3 es (la : Int) (cs.map (yn es H)) = true
  | [], _, _, _ => rfl
  | c :: cs, la, hp, hc => by
    have h1 := hc c List.mem_cons_self
    rw [List.pairwise_cons] at hp
    have hcm := z43 es H c h1.2
    rw [List.map_cons, z30, if_pos]
    · rw [hcm]
      exact zm3 g cs c hp.2 fun x hx => ⟨hp.1 x hx, (hc x (List.mem_cons_of_mem _ hx)).2⟩
    · rw [hcm, Int.toNat_natCast]
      refine ⟨rfl, by omega, by omega, z8i es H c h1.2, ?_⟩
      rw [← zat]
      rfl
theorem zw9 (g : z10 es) (cs : List Nat) (hp : cs.Pairwise (· ≤ ·)) (hc : ∀ c ∈ cs, c ≤ es.length) : z8u H (lgW es H es.length cs) = true := by
  have h5 := g.len
  have hev : (lgW es H es.length cs).events = es := List.take_length
  unfold z8u
  rw [hev]
  have h1 := g.okGo es.length 0 (by omega)
  rw [List.drop_zero, show z01 es 0 = 0 from rfl] at h1
  have h2 := zm3 H g cs 0 hp fun c h => ⟨Nat.zero_le _, hc c h⟩
  rw [h1, show z30 H (lgW es H es.length cs).office es 0 (lgW es H es.length cs).heads = true from h2]
  have h3 : (lgW es H es.length cs).tops = z0y H.nd H.em (yo H es) := by show z0y H.nd H.em (yo H (es.take es.length)) = _; rw [List.take_length]
  rw [h3, decide_eq_true (rfl : z0y H.nd H.em (yo H es) = z0y H.nd H.em (yo H es)), decide_eq_true (show (lgW es H es.length cs).size = (es.length : Int) from rfl)]
  rw [decide_eq_true (show 0 ≤ (lgW es H es.length cs).office ∧ (lgW es H es.length cs).office < 32 ∧ es.length ≤ 65536 from ⟨by show (0 : Int) ≤ 3; omega, by show (3 : Int) < 32; omega, by omega⟩)]
  rfl
theorem zm2 : z14 (z4l (z4c 3) 1) [z11] = some z11 := by rfl
theorem zm1 (d : Int) (h : 0 ≤ d ∧ d ≤ 108) : z3d z11 d = true := by
  unfold z3d
  rw [decide_eq_true (show z11.frm ≤ d from h.1), decide_eq_true (show d < z11.til by show d < 1048577; omega)]
  rfl
theorem zba (g : z10 es) (c : Nat) (h : c ≤ es.length) : z2e H [z11] (yn es H c) = 0 := by
  have hd : (yn es H c).day = z01 es c := z8i es H c h
  have hb := g.bound c h
  unfold z2e z31
  rw [show (yn es H c).office = 3 from rfl, show (yn es H c).serial = 1 from rfl, zm2]
  show (if z3d z11 (yn es H c).day = true then _ else _) = _
  rw [hd, if_pos (zm1 _ hb), if_pos]
  rw [← hd]
  rfl
theorem zw4 (g : z10 es) (cs : List Nat) (a b : Nat) (ha : a ∈ cs) (hb : b ∈ cs) (hab : a ≤ b) (hbl : b ≤ es.length) : z8e H (lgW es H es.length cs) (yn es H a) (yn es H b) = (z45 H.nd H.em (yo H (es.take b)) a, 0) := by
  unfold z8e
  rw [if_pos ⟨List.mem_map_of_mem ha, List.mem_map_of_mem hb⟩, z43 es H a (by omega), z43 es H b hbl, if_pos (by omega), Int.toNat_natCast, ← zat, show (lgW es H es.length cs).events = es from List.take_length]
  exact zmu H.nd H.em _ a (by rw [z4w es H b hbl]; exact hab)
theorem zw3 (g : z10 es) (a b : Nat) (hab : a ≤ b) (hbl : b ≤ es.length) : z8d H [z11] (yn es H a) (yn es H b) (z45 H.nd H.em (yo H (es.take b)) a) = 0 := by
  have h5 := g.len
  unfold z8d
  rw [if_pos ⟨rfl, by rw [z43 es H a (by omega), z43 es H b hbl]; omega, by rw [z8i es H a (by omega), z8i es H b hbl]; exact g.mono a b hab hbl⟩, if_pos (zba H g a (by omega)), if_pos (zba H g b hbl), if_pos]
  rw [z43 es H a (by omega), z43 es H b hbl]
  show z5p H.nd H.em (a : Int) (b : Int) (root H.nd H.em (yo H (es.take a))) (root H.nd H.em (yo H (es.take b))) _ = true
  have hl := z4w es H b hbl
  have ht : yo H (es.take a) = (yo H (es.take b)).take a := by rw [← zat, List.take_take, Nat.min_eq_left hab]
  by_cases hb0 : b = 0
  · subst hb0
    obtain rfl : a = 0 := by omega
    rw [List.take_zero, show yo H [] = [] from rfl, root_nil]
    unfold z5p z45
    rw [if_pos (by omega), if_pos (by omega), if_pos (.inl rfl)]
    simp [z4p]
  · have h := zhf H.nd H.em (yo H (es.take b)) a (by omega) (by omega) (by omega) (root H.nd H.em (yo H (es.take a))) (.inr (.inr (.inl (by rw [ht]))))
    rw [hl] at h
    rw [h, ht, decide_eq_true rfl]
theorem zw5 (g : z10 es) (a b : Nat) (ha : a ≤ es.length) (hb : b ≤ es.length) : z71 H [z11] (yn es H a) (yn es H b) = false := by
  unfold z71
  by_cases h : a = b
  · subst h; simp
  · rw [decide_eq_false (show ¬ (yn es H a).commit = (yn es H b).commit by rw [z43 es H a ha, z43 es H b hb]; omega)]
    simp
def z2x (es : List Ev) (b c : Nat) : Sh := ⟨z22 es H (c - 1), incl H.nd H.em (yo H (es.take b)) (c - 1), yn es H b⟩
theorem zw6 (g : z10 es) (cs : List Nat) (b c : Nat) (hb : b ∈ cs) (hbl : b ≤ es.length) (h1 : 1 ≤ c) (hc : c ≤ b) : z7y H (lgW es H es.length cs) (c : Int) (yn es H b) = (z2x H es b c, 0) := by
  have h5 := g.len
  have hl := z4w es H b hbl
  unfold z7y
  rw [if_pos (show yn es H b ∈ (lgW es H es.length cs).heads from List.mem_map_of_mem hb), z43 es H b hbl, if_pos (by omega), Int.toNat_natCast, Int.toNat_natCast, show (lgW es H es.length cs).events = es from List.take_length, ← zat, show (c : Int) - 1 = ((c - 1 : Nat) : Int) by omega,
    (zgp H.nd H.em (yo H (es.take b)) (c - 1) (by omega) (by omega)).1]
  rfl
theorem zef (g : z10 es) (j : Nat) (h : j < es.length) : (z22 es H j).commit = (j : Int) + 1 := by rw [z7q es H j h]; exact g.commit j h
theorem zq6 (g : z10 es) (j : Nat) (h : j < es.length) : 0 ≤ (z22 es H j).day ∧ (z22 es H j).day ≤ 108 := by
  rw [z7q es H j h]
  have := g.bound (j + 1) (by omega)
  rw [zby es j h] at this
  exact this
theorem zr7 (b j : Nat) (h : j < b) (hb : b ≤ es.length) : (yo H (es.take b))[j]'(by rw [z4w es H b hb]; exact h) = H.lf (z22 es H j) := by
  rw [z7q es H j (by omega)]
  simp [yo]
theorem zm7 (g : z10 es) (b c : Nat) (hbl : b ≤ es.length) (h1 : 1 ≤ c) (hc : c ≤ b) : z58 H [z11] (z2x H es b c) = 0 := by
  have h5 := g.len
  have hl := z4w es H b hbl
  have hcm := zef H g (c - 1) (by omega)
  unfold z58
  rw [show (z2x H es b c).face = z22 es H (c - 1) from rfl, show (z2x H es b c).head = yn es H b from rfl, show (z2x H es b c).path = incl H.nd H.em (yo H (es.take b)) (c - 1) from rfl, hcm, z43 es H b hbl, if_pos (by omega), if_pos (zba H g b hbl), if_pos]
  have h := (zgp H.nd H.em (yo H (es.take b)) (c - 1) (by omega) (by omega)).2
  rw [zr7 H b (c - 1) (by omega) hbl, hl] at h
  rw [show (((c - 1 : Nat) : Int) + 1 - 1) = ((c - 1 : Nat) : Int) by omega]
  exact h
theorem zm5 (g : z10 es) (j : Nat) (h : j < es.length) : z7m H [z11] (z25 es H j) = 0 := by
  have hb := zq6 H g j h
  unfold z7m z31
  rw [show (z25 es H j).office = 3 from rfl, show (z25 es H j).serial = 1 from rfl, zm2]
  show (if z3d z11 (z22 es H j).day = true then _ else _) = _
  rw [if_pos (zm1 _ hb), if_pos]
  rfl
theorem zw8 (b c : Nat) : z5e H [z11] (z25 es H (c - 1)) (z2x H es b c) = false := by
  unfold z5e
  rw [decide_eq_true (show (z25 es H (c - 1)).face = (z2x H es b c).face from rfl)]
  simp
def z2b (s : List Bool) (j : Nat) : List Nat := ((List.range j).filter fun i => s.getD i false).map (· + 1)
theorem zlb (s : List Bool) (j : Nat) : z2b s (j + 1) = if s.getD j false = true then z2b s j ++ [j + 1] else z2b s j := by
  unfold z2b
  rw [List.range_succ, List.filter_append, List.map_append]
  split
  · rename_i h; rw [show [j].filter (fun i => s.getD i false) = [j] by rw [List.filter_cons, if_pos h]; rfl]; rfl
  · rename_i h; rw [show [j].filter (fun i => s.getD i false) = [] by rw [List.filter_cons, if_neg h]; rfl]; exact List.append_nil _
theorem zft (s : List Bool) (j : Nat) : ∀ c ∈ z2b s j, 1 ≤ c ∧ c ≤ j := by
  intro c hc
  unfold z2b at hc
  obtain ⟨i, hi, rfl⟩ := List.mem_map.1 hc
  have := List.mem_range.1 (List.mem_filter.1 hi).1
  omega
theorem zfu (s : List Bool) : ∀ j, (z2b s j).Pairwise (· ≤ ·)
  | 0 => List.Pairwise.nil
  | j + 1 => by
    rw [zlb]
    split
    · rw [List.pairwise_append]
      exact ⟨zfu s j, List.pairwise_singleton _ _, fun a ha b hb => by rw [List.mem_singleton.1 hb]; have := (zft s j a ha).2; omega⟩
    · exact zfu s j
theorem zd8 (s : List Bool) (j : Nat) : (z2b s j).length ≤ j := by
  unfold z2b
  rw [List.length_map]
  exact Nat.le_trans (List.length_filter_le _ _) (by rw [List.length_range]; exact Nat.le_refl _)
def z3m (s : List Bool) (n : Nat) : List Nat := z2b s n ++ [n]
theorem zlf (s : List Bool) (n : Nat) : (z3m s n).Pairwise (· ≤ ·) := by
  unfold z3m
  rw [List.pairwise_append]
  exact ⟨zfu s n, List.pairwise_singleton _ _, fun a ha b hb => by rw [List.mem_singleton.1 hb]; exact (zft s n a ha).2⟩
theorem zlc (s : List Bool) (n : Nat) : ∀ c ∈ z3m s n, c ≤ n := by
  intro c hc
  unfold z3m at hc
  rcases List.mem_append.1 hc with h | h
  · exact (zft s n c h).2
  · rw [List.mem_singleton.1 h]; exact Nat.le_refl _
theorem zld (s : List Bool) (n : Nat) : 1 ≤ (z3m s n).length ∧ (z3m s n).length ≤ n + 1 := by
  unfold z3m
  have := zd8 s n
  rw [List.length_append, List.length_singleton]
  omega
theorem zv0 (s : List Bool) (n k i : Nat) (h : k ≤ i) (hi : i < (z3m s n).length) : (z3m s n)[k]'(by omega) ≤ (z3m s n)[i] := by
  by_cases e : k = i
  · subst e; exact Nat.le_refl _
  · exact List.pairwise_iff_getElem.1 (zlf s n) k i (by omega) hi (by omega)
theorem zle (n : Nat) : z3m [] n = [n] := by
  have : z2b [] n = [] := by
    unfold z2b
    rw [List.filter_eq_nil_iff.2 (by intro i _; simp), List.map_nil]
  unfold z3m
  rw [this, List.nil_append]
theorem zj5 : ∀ (l : List Ev) (k : Nat) (d : Int) (i : Nat) (x : Ev) (hi : i < l.length), x.day = l[i].day → ∃ e, z0e k d (l.set i x) = (z0e k d l).set i e ∧ ∀ (h : i < (z0e k d l).length), e.day = (z0e k d l)[i].day
  | [], _, _, i, _, h, _ => absurd h (Nat.not_lt_zero _)
  | y :: l, k, d, 0, x, _, hx => ⟨z6a k d x, by
      have hx : x.day = y.day := hx
      rw [List.set_cons_zero, z0e, z0e, List.set_cons_zero, hx], fun _ => by
      have hx : x.day = y.day := hx
      show d + z4a x.day = d + z4a y.day
      rw [hx]⟩
  | y :: l, k, d, i + 1, x, h, hx => by
    obtain ⟨e, h1, h2⟩ := zj5 l (k + 1) (d + z4a y.day) i x (by simpa using h) (by simpa using hx)
    refine ⟨e, ?_, fun h3 => ?_⟩
    · rw [List.set_cons_succ, z0e, z0e, List.set_cons_succ, h1]
    · have := h2 (by rw [z0e] at h3; simpa using h3)
      simpa [z0e] using this
theorem zpa (es : List Ev) (i : Nat) (e : Ev) (h : ∀ h : i < es.length, e.day = es[i].day) (c : Nat) : z01 (es.set i e) c = z01 es c := by
  unfold z01
  by_cases h0 : c = 0
  · rw [if_pos h0, if_pos h0]
  · rw [if_neg h0, if_neg h0]
    congr 1
    by_cases h1 : i = c - 1
    · subst h1
      by_cases h2 : c - 1 < es.length
      · rw [List.getElem?_set_self h2, List.getElem?_eq_getElem h2]
        exact congrArg some (h h2)
      · rw [List.getElem?_eq_none (by rw [List.length_set]; omega), List.getElem?_eq_none (by omega)]
    · rw [List.getElem?_set_ne h1]
theorem zr8 (es : List Ev) (i : Nat) (e : Ev) (h : i < es.length) (hf : yv H es[i] = yv H e) : yo H (es.set i e) = yo H es := by
  unfold yo
  rw [List.map_set, ← hf]
  have : (es.map fun e => H.lf (yv H e))[i]'(by rw [List.length_map]; exact h) = H.lf (yv H es[i]) := by simp
  rw [← this, List.set_getElem_self]
theorem znx {es es2 : List Ev} (g : z10 es) (g2 : z10 es2) (i : Nat) (h : i < es.length) (h2 : i < es2.length) : z5e H [z11] (z25 es H i) (z2x H es2 es2.length (i + 1)) = !decide (z22 es H i = z22 es2 H i) := by
  have h3 := zm7 H g2 es2.length (i + 1) (Nat.le_refl _) (by omega) (by omega)
  have e1 := zef H g i h
  have e2 := zef H g2 i h2
  unfold z5e
  rw [h3, zm5 H g i h, decide_eq_true (show (z25 es H i).office = (z2x H es2 es2.length (i + 1)).head.office from rfl)]
  rw [show (z25 es H i).face = z22 es H i from rfl, show (z2x H es2 es2.length (i + 1)).face = z22 es2 H i from rfl, e1, e2]
  simp
theorem znw {es es2 : List Ev} (g : z10 es) (g2 : z10 es2) (n : Nat) (h : n = es.length) (h2 : n = es2.length) (hd : z01 es n = z01 es2 n) : z71 H [z11] (yn es H n) (yn es2 H n) = !decide ((yn es H n).root = (yn es2 H n).root) := by
  unfold z71
  rw [zba H g n (by omega), zba H g2 n (by omega), z43 es H n (by omega), z43 es2 H n (by omega), z8i es H n (by omega), z8i es2 H n (by omega), hd, decide_eq_true (show (yn es H n).office = (yn es2 H n).office from rfl)]
  simp
end
end
end Go.Proofs.YtcapckngikekpaaGreatDoor
