/-
  Known of the functions of this seat's laws, joined. Conditions: each theorem's own.
-/
import Derived.Test.YtcapckngikekpaaGreatDoorI12
import Derived.Test.YtcapckngikekpaaGreatDoorCards
import Derived.Test.YtcapckngikekpaaGreatDoorTie
import Derived.ProofKit
import Derived.OpenShut
import Derived.ShutString
import Derived.SliceStrings
import Derived.Carry
import Derived.Deep.DeepHandedRow
import Derived.Lib.LaidTab
import Derived.Stop.LaidErr
import Derived.WideKeyPair
namespace Go.Proofs.YtcapckngikekpaaGreatDoor
set_option linter.unusedSimpArgs false
set_option linter.unusedVariables false
set_option maxRecDepth 100000
set_option maxHeartbeats 16000000
section
open Go.RowKit Exch Merk Ring
def z6y (n : Nat) : Code → Option Code
 | .block m c => match Nat.beq m n with
  | true => some c
  | false => z6y n c
 | .seq a b => match z6y n a with
  | some c => some c
  | none => z6y n b
 | .loop c => z6y n c
 | .scope c => z6y n c
 | .cond _ a b => match z6y n a with
  | some c => some c
  | none => z6y n b
 | _ => none
noncomputable def lq3 : Code := ((Tryz.f7.body.bind (z6y 4)).getD .skip)
noncomputable def lq4 : Code := ((Tryz.f7.body.bind (z6y 6)).getD .skip)
structure LqAt (w9 : World) (r : LgR) (A2 : Option Addr) (ES : List Ev) (CS : List Nat) (n2 c2 g7 gk : Nat) : Prop where
 md : z4k w9 r A2 ES yj CS
 blk : Blk w9 g7 42 (lgC r)
 con : GCon w9
 key : RdK w9 (some ⟨gk, 0, none⟩) 1 [z11]
 up : ∀ (k i : Nat) (h : k ≤ i) (hi : i < CS.length), CS[k]'(by omega) ≤ CS[i]
 es : ES.length = n2
 cap : n2 ≤ c2 ∧ c2 ≤ maxLen ∧ r.en ≤ r.ec ∧ r.hn ≤ r.hc
 hn : r.hn = CS.length
 en : r.en = n2
 few : CS.length ≤ 100
theorem lmq3 {Q0 : Exit → Act → World → Prop} {w9 : World} {r : LgR} {A2 : Option Addr} {ES : List Ev} {CS : List Nat} {n2 c2 g7 gk : Nat} (L : LqAt w9 r A2 ES CS n2 c2 g7 gk) {i : Nat} (hic : i < CS.length) {wr : World} (hbi : Below w9.heap.size w9 wr)
  {u0 u1 u2 u3 u4 u5 u6 u9 u13 u14 u15 u16 u17 u18 u19 u20 u21 u22 u23 u24 u25 u26 u27 u28 u29 u30 u31 u32 u33 u34 u35 u36 u37 u38 u39 u40 u41 u42 u43 u44 u45 u46 u47 u48 u49 u50 u51 u52 u53 u54 u55 u56 u57 u58 u59 u60 u61 u62 u63 u64 u65 u66 u67 u68 u69 u70 u71 u72 u73 u74 u75 u76 u77 u78 u79 u80 u81 u82 u83 u84 u85 u86 u87 u88 u89 u90 u91 u92 u93 u94 u95 u96 u97 u98 u99 u100 u101 u102 u103 u104 u105 u106 u107 u108 u109 u110 u111 u112 u113 u114 u115 u116 u117 u118 u119 u120 u121 u122 u123 u124 u125 u126 u127 u128 u129 u130 u131 u132 u133 u134 u135 u136 u137 u138 u139 u140 u141 u142 u143 u144 u145 u146 u147 u148 u149 u150 u151 u152 u153 u154 u155 u156 u157 u158 u159 u160 u161 u162 u163 u164 u165 u166 u167 u168 u169 u170 : Value}
  (hpan : ∀ (c : List PanicEntry) (d : Option Tmp) (v : Value) (x : Act) (z : World), Q0 (.panic c) (x.put d v) z → Q0 (.panic c) x z)
  (hexit : ∀ (v4 v12 v13 v14 v59 v60 v61 v62 v63 v64 v65 v66 v67 v68 v69 v70 v71 v72 v73 v74 v75 v76 v77 v78 v79 v80 v81 v82 v83 v84 v85 v86 v87 v88 v89 v90 v91 v92 v93 v94 v95 v96 v97 v98 v99 v100 v101 v102 v103 v104 v105 v106 v107 v108 v109 v110 : Value) (W : World), Below w9.heap.size w9 W → Q0 (.exit 4) ⟨List.toArray (u0 :: u1 :: u2 :: u3 :: v4 :: u5 :: u6 :: (.pointer (some ⟨g7, 0, none⟩)) :: (.slice A2 n2 c2) :: u9 :: (.slice (some ⟨gk, 0, none⟩) 1 1) :: (.int .i64 (i : Int)) :: v12 :: v13 :: v14 :: u15 :: u16 :: u17 :: u18 :: u19 :: u20 :: u21 :: u22 :: u23 :: u24 :: u25 :: u26 :: u27 :: u28 :: u29 :: u30 :: u31 :: u32 :: u33 :: u34 :: u35 :: u36 :: u37 :: u38 :: u39 :: u40 :: u41 :: u42 :: u43 :: u44 :: u45 :: u46 :: u47 :: u48 :: u49 :: u50 :: u51 :: u52 :: u53 :: u54 :: u55 :: u56 :: u57 :: u58 :: v59 :: v60 :: v61 :: v62 :: v63 :: v64 :: v65 :: v66 :: v67 :: v68 :: v69 :: v70 :: v71 :: v72 :: v73 :: v74 :: v75 :: v76 :: v77 :: v78 :: v79 :: v80 :: v81 :: v82 :: v83 :: v84 :: v85 :: v86 :: v87 :: v88 :: v89 :: v90 :: v91 :: v92 :: v93 :: v94 :: v95 :: v96 :: v97 :: v98 :: v99 :: v100 :: v101 :: v102 :: v103 :: v104 :: v105 :: v106 :: v107 :: v108 :: v109 :: v110 :: u111 :: u112 :: u113 :: u114 :: u115 :: u116 :: u117 :: u118 :: u119 :: u120 :: u121 :: u122 :: u123 :: u124 :: u125 :: u126 :: u127 :: u128 :: u129 :: u130 :: u131 :: u132 :: u133 :: u134 :: u135 :: u136 :: u137 :: u138 :: u139 :: u140 :: u141 :: u142 :: u143 :: u144 :: u145 :: u146 :: u147 :: u148 :: u149 :: u150 :: u151 :: u152 :: u153 :: u154 :: u155 :: u156 :: u157 :: u158 :: u159 :: u160 :: u161 :: u162 :: u163 :: u164 :: u165 :: u166 :: u167 :: u168 :: u169 :: u170 :: []), []⟩ W) :
  Code.wp Tryz.prog lq3 Q0 ⟨List.toArray (u0 :: u1 :: u2 :: u3 :: u4 :: u5 :: u6 :: (.pointer (some ⟨g7, 0, none⟩)) :: (.slice A2 n2 c2) :: u9 :: (.slice (some ⟨gk, 0, none⟩) 1 1) :: (.int .i64 (i : Int)) :: (.int .i64 0) :: u13 :: u14 :: u15 :: u16 :: u17 :: u18 :: u19 :: u20 :: u21 :: u22 :: u23 :: u24 :: u25 :: u26 :: u27 :: u28 :: u29 :: u30 :: u31 :: u32 :: u33 :: u34 :: u35 :: u36 :: u37 :: u38 :: u39 :: u40 :: u41 :: u42 :: u43 :: u44 :: u45 :: u46 :: u47 :: u48 :: u49 :: u50 :: u51 :: u52 :: u53 :: u54 :: u55 :: u56 :: u57 :: u58 :: u59 :: u60 :: u61 :: u62 :: u63 :: u64 :: u65 :: u66 :: u67 :: u68 :: u69 :: u70 :: u71 :: u72 :: u73 :: u74 :: u75 :: u76 :: u77 :: u78 :: u79 :: u80 :: u81 :: u82 :: u83 :: u84 :: u85 :: u86 :: u87 :: u88 :: u89 :: u90 :: u91 :: u92 :: u93 :: u94 :: u95 :: u96 :: u97 :: u98 :: u99 :: u100 :: u101 :: u102 :: u103 :: u104 :: u105 :: u106 :: u107 :: u108 :: u109 :: u110 :: u111 :: u112 :: u113 :: u114 :: u115 :: u116 :: u117 :: u118 :: u119 :: u120 :: u121 :: u122 :: u123 :: u124 :: u125 :: u126 :: u127 :: u128 :: u129 :: u130 :: u131 :: u132 :: u133 :: u134 :: u135 :: u136 :: u137 :: u138 :: u139 :: u140 :: u141 :: u142 :: u143 :: u144 :: u145 :: u146 :: u147 :: u148 :: u149 :: u150 :: u151 :: u152 :: u153 :: u154 :: u155 :: u156 :: u157 :: u158 :: u159 :: u160 :: u161 :: u162 :: u163 :: u164 :: u165 :: u166 :: u167 :: u168 :: u169 :: u170 :: []), []⟩ wr := by
 have M9 := ya L.md
 have HB7 := ya L.blk
 have HGC := ya (fun W (hb : Below w9.heap.size w9 W) => L.con.below hb)
 have HRK := ya L.key
 have HES := ya L.es
 have HC2 := ya L.cap
 have HHN : Hid (r.hn = CS.length ∧ r.en = n2) := ya ⟨L.hn, L.en⟩
 have hnb : CS.length ≤ 100 := L.few
 have HSC := ya L.up
 have hn2 : n2 ≤ 12 := by have := L.md.sz; have := L.en; omega
 obtain ⟨hnn, hhn⟩ : ∃ x, r.hn = x := ⟨_, rfl⟩
 have HNN := ya hhn
 have hin : i < hnn := by rw [← hhn, L.hn]; exact hic
 have hnb : hnn ≤ 100 := by rw [← hhn, L.hn]; exact hnb
 obtain ⟨hle, hhd⟩ := M9.out.head i hic
 obtain ⟨ad, hA, hce⟩ := (M9.out.ok.hd).elem hle
 obtain ⟨ci, hci⟩ : ∃ x, CS[i] = x := ⟨_, rfl⟩
 have hhd2 : r.hs[i] = yn ES yj ci := by rw [← hci]; exact hhd
 rw [hhd2] at hce
 have HCI : Hid (ci ∈ CS) := ya (by rw [← hci]; exact List.getElem_mem hic)
 have hcle : ci ≤ n2 := by
  have := M9.out.le _ HCI.out
  rwa [HES.out] at this
 have HIC := ya hic
 have HCIe : Hid (∀ h : i < CS.length, CS[i]'h = ci) := ya (fun _ => hci)
 have HCE := ya hce
 have HAD := ya hA
 have hsz := z3y
 have h5 := z4y
 have h25 := z20
 have h36 := z24
 have h41 := z52
 have h60 := z9u
 have h60l := z9v
 have h23 := z3e
 have HX := ya hexit
 clear hhd2 hle hhd hA hci hce hic hhn L hexit
 conv => arg 2; whnf
 go_loopw [12] (fun v12 wk => ∃ k : Nat, v12 = .int .i64 (k : Int) ∧ k ≤ i + 1 ∧ Below w9.heap.size w9 wk) (fun v12 _ => i + 1 - (intOf v12).toNat)
 case atStart => exact ⟨0, rfl, by omega, hbi⟩
 case round =>
  obtain ⟨k, rfl, hk, hbk⟩ := hrel
  have x3 := z4z (HB7.out.below hbk)
  rw [HNN.out, HAD.out] at x3
  have hce := fun j u h => cell_later hbk (HCE.out j u h)
  have h36i := h36 (yn ES yj ci)
  by_cases hki : k ≤ i
  ·have dk : decide ((k : Int) ≤ (i : Int)) = true := by rw [decide_eq_true_eq]; omega
   have dkn : decide (k ≤ i) = true := by rw [decide_eq_true_eq]; omega
   have hkc : k < CS.length := by have := HIC.out; omega
   obtain ⟨hlk, hhk⟩ := M9.out.head k hkc
   obtain ⟨ad2, hA2, hck0⟩ := (M9.out.ok.hd).elem hlk
   obtain ⟨ck, hck⟩ : ∃ x, CS[k] = x := ⟨_, rfl⟩
   have hhk2 : r.hs[k] = yn ES yj ck := by rw [← hck]; exact hhk
   rw [hhk2] at hck0
   clear hhk2
   obtain rfl : ad2 = ad := by rw [HAD.out] at hA2; exact (Option.some.inj hA2).symm
   have HCKm : Hid (ck ∈ CS) := ya (by rw [← hck]; exact List.getElem_mem hkc)
   have HLE : Hid (ck ≤ ci) := ya (by rw [← HCIe.out HIC.out, ← hck]; exact HSC.out k i hki HIC.out)
   have hcd := fun j u h => cell_later hbk (hck0 j u h)
   have zr := z1g (HB7.out.below hbk)
   have h36k := h36 (yn ES yj ck)
   have hkn : k < hnn := by omega
   have HCN := ya (fun W (hb : Below wr.heap.size wr W) => zrp lds (M9.out.below (yb hbk hb)) (HGC.out _ (yb hbk hb)) ck ci HCKm.out HCI.out HLE.out)
   have HCH := ya (fun Bp mp dp W (hb : Below wr.heap.size wr W) (hp : RdD W Bp mp (z45 yj.nd yj.em (yo yj (ES.take ci)) ck)) (h1 : mp ≤ dp) (h2 : dp ≤ maxLen) => zrt lds (HGC.out _ (yb hbk hb)) M9.out.gr (rc := 1) (HRK.out.below (yb hbk hb)) ck ci HLE.out (by rw [HES.out]; exact hcle) Bp mp dp hp h1 h2)
   have HFK := ya (fun W (hb : Below wr.heap.size wr W) => zrs lds (HGC.out _ (yb hbk hb)) M9.out.gr (rc := 1) (HRK.out.below (yb hbk hb)) ck ci (by have := HLE.out; rw [HES.out]; omega) (by rw [HES.out]; exact hcle))
   unfold z34 at HCN
   dsimp only at HCN
   obtain ⟨PT, hPT⟩ : ∃ x, z45 yj.nd yj.em (yo yj (ES.take ci)) ck = x := ⟨_, rfl⟩
   rw [hPT] at HCN HCH
   obtain ⟨ny, hny⟩ : ∃ x, PT.length = x := ⟨_, rfl⟩
   have HNY := ya hny
   clear hlk hhk hA2 hck0 hck hPT hny hkc
   go_upto_region 19 with fail
   have hS : Below wr.heap.size wr wr.drew := (Below.refl _ _).drew
   refine yz 16 (by kernel_rfl) ?_
   refine WpT.take (i := 0) rfl (by kernel_rfl) (fun c a w h => hpan _ _ _ _ _ h) (z0k (us := lgL r) rfl rfl rfl z0o (by rw [yq, h5]) zr) (hS) ?_
   simp only [nrm]
   refine WpT.tq 1 rfl (fun c a w h => hpan _ _ _ _ _ h) (hS) ?_
   simp only [nrm]
   refine WpT.take (i := 2) rfl (by kernel_rfl) (fun c a w h => hpan _ _ _ _ _ h) (yh rfl rfl rfl (by kernel_rfl) x3) (hS) ?_
   simp only [nrm]
   refine WpT.tq 3 rfl (fun c a w h => hpan _ _ _ _ _ h) (hS) ?_
   simp only [nrm]
   refine WpT.tq 4 rfl (fun c a w h => hpan _ _ _ _ _ h) (hS) ?_
   simp only [nrm]
   refine WpT.take (i := 5) rfl (by kernel_rfl) (fun c a w h => hpan _ _ _ _ _ h) (z0k (us := hdL (yn ES yj ck)) rfl rfl rfl z00 (by rw [ym, h36k]) hcd) (hS) ?_
   simp only [nrm]
   refine WpT.tq 6 rfl (fun c a w h => hpan _ _ _ _ _ h) (hS) ?_
   simp only [nrm]
   refine WpT.take (i := 7) rfl (by kernel_rfl) (fun c a w h => hpan _ _ _ _ _ h) (yh rfl rfl rfl (by kernel_rfl) x3) (hS) ?_
   simp only [nrm]
   refine WpT.tq 8 rfl (fun c a w h => hpan _ _ _ _ _ h) (hS) ?_
   simp only [nrm]
   refine WpT.tq 9 rfl (fun c a w h => hpan _ _ _ _ _ h) (hS) ?_
   simp only [nrm]
   refine WpT.take (i := 10) rfl (by kernel_rfl) (fun c a w h => hpan _ _ _ _ _ h) (z0k (us := hdL (yn ES yj ci)) rfl rfl rfl z00 (by rw [ym, h36i]) hce) (hS) ?_
   simp only [nrm]
   refine WpT.on 11 rfl (fun K hK => ?_)
   go_simp; refine (HCN.out _ hS).mono ?_; rintro e w12 ⟨v12, rfl, o12, hb12⟩; obtain ⟨A12, c12, rfl, n12, m12, r12⟩ := yx.formN o12 HNY.out; clear o12; replace hS := yb hS hb12
   refine hK _ _ hS ?_; clear hK K; try simp only [nrm]
   refine WpT.tq 12 rfl (fun c a w h => hpan _ _ _ _ _ h) (hS) ?_
   simp only [nrm]
   refine WpT.tq 13 rfl (fun c a w h => hpan _ _ _ _ _ h) (hS) ?_
   simp only [nrm]
   refine WpT.tq 14 rfl (fun c a w h => hpan _ _ _ _ _ h) (hS) ?_
   simp only [nrm]
   refine WpT.on 15 rfl (fun K hK => ?_)
   go_simp; (try go_bits)
   refine hK _ _ hS ?_; clear hK K; try simp only [nrm]
   refine WpT.ta 16 rfl (fun K hK => ?_)
   go_simp; (try go_bits)
   refine hK _ _ ?_; clear hK K; try simp only [nrm]
   refine WpT.done (by kernel_rfl) ?_ _
   skip
   have HX3 := cell_later hS x3
   have hce1 := fun j u h => cell_later hS (hce j u h)
   have hcd1 := fun j u h => cell_later hS (hcd j u h)
   have HB12 := ya hS
   have HR12 := ya r12
   have HN12 : Hid (ny ≤ c12 ∧ c12 ≤ maxLen) := ya ⟨n12, m12⟩
   clear x3 hce hcd zr r12 n12 m12 hS HCN
   go_upto_region 20 with fail
   have hS : Below w12.heap.size w12 w12.drew := (Below.refl _ _).drew
   refine yz 32 (by kernel_rfl) ?_
   refine WpT.tq 0 rfl (fun c a w h => hpan _ _ _ _ _ h) (hS) ?_
   simp only [nrm]
   refine WpT.tq 1 rfl (fun c a w h => hpan _ _ _ _ _ h) (hS) ?_
   simp only [nrm]
   refine WpT.tq 2 rfl (fun c a w h => hpan _ _ _ _ _ h) (hS) ?_
   simp only [nrm]
   refine WpT.tq 3 rfl (fun c a w h => hpan _ _ _ _ _ h) (hS) ?_
   simp only [nrm]
   refine WpT.tq 4 rfl (fun c a w h => hpan _ _ _ _ _ h) (hS) ?_
   simp only [nrm]
   refine WpT.take (i := 5) rfl (by kernel_rfl) (fun c a w h => hpan _ _ _ _ _ h) (z2c (by rfl) rfl rfl (by kernel_rfl) HX3) (hS) ?_
   simp only [nrm]
   refine WpT.tq 6 rfl (fun c a w h => hpan _ _ _ _ _ h) (hS) ?_
   simp only [nrm]
   refine WpT.tq 7 rfl (fun c a w h => hpan _ _ _ _ _ h) (hS) ?_
   simp only [nrm]
   refine WpT.take (i := 8) rfl (by kernel_rfl) (fun c a w h => hpan _ _ _ _ _ h) (z1w (us := hdL (yn ES yj ck)) (by rfl) rfl rfl z00 (by rw [ym, h36k]) hcd1) (hS) ?_
   simp only [nrm]
   refine WpT.tq 9 rfl (fun c a w h => hpan _ _ _ _ _ h) (hS) ?_
   simp only [nrm]
   refine WpT.take (i := 10) rfl (by kernel_rfl) (fun c a w h => hpan _ _ _ _ _ h) (z2c (by rfl) rfl rfl (by kernel_rfl) HX3) (hS) ?_
   simp only [nrm]
   refine WpT.tq 11 rfl (fun c a w h => hpan _ _ _ _ _ h) (hS) ?_
   simp only [nrm]
   refine WpT.tq 12 rfl (fun c a w h => hpan _ _ _ _ _ h) (hS) ?_
   simp only [nrm]
   refine WpT.take (i := 13) rfl (by kernel_rfl) (fun c a w h => hpan _ _ _ _ _ h) (z1w (us := hdL (yn ES yj ci)) (by rfl) rfl rfl z00 (by rw [ym, h36i]) hce1) (hS) ?_
   simp only [nrm]
   refine WpT.tq 14 rfl (fun c a w h => hpan _ _ _ _ _ h) (hS) ?_
   simp only [nrm]
   refine WpT.on 15 rfl (fun K hK => ?_)
   go_simp; refine (HCH.out _ _ _ _ (yb HB12.out hS) (HR12.out.below hS) HN12.out.1 HN12.out.2).mono ?_; rintro e w13 ⟨rfl, hb13⟩; replace hS := yb hS hb13
   refine hK _ _ hS ?_; clear hK K; try simp only [nrm]
   refine WpT.tq 16 rfl (fun c a w h => hpan _ _ _ _ _ h) (hS) ?_
   simp only [nrm]
   refine WpT.tq 17 rfl (fun c a w h => hpan _ _ _ _ _ h) (hS) ?_
   simp only [nrm]
   refine WpT.tq 18 rfl (fun c a w h => hpan _ _ _ _ _ h) (hS) ?_
   simp only [nrm]
   refine WpT.tq 19 rfl (fun c a w h => hpan _ _ _ _ _ h) (hS) ?_
   simp only [nrm]
   refine WpT.tq 20 rfl (fun c a w h => hpan _ _ _ _ _ h) (hS) ?_
   simp only [nrm]
   refine WpT.take (i := 21) rfl (by kernel_rfl) (fun c a w h => hpan _ _ _ _ _ h) (z2c (by rfl) rfl rfl (by kernel_rfl) HX3) (hS) ?_
   simp only [nrm]
   refine WpT.tq 22 rfl (fun c a w h => hpan _ _ _ _ _ h) (hS) ?_
   simp only [nrm]
   refine WpT.tq 23 rfl (fun c a w h => hpan _ _ _ _ _ h) (hS) ?_
   simp only [nrm]
   refine WpT.take (i := 24) rfl (by kernel_rfl) (fun c a w h => hpan _ _ _ _ _ h) (z1w (us := hdL (yn ES yj ck)) (by rfl) rfl rfl z00 (by rw [ym, h36k]) hcd1) (hS) ?_
   simp only [nrm]
   refine WpT.tq 25 rfl (fun c a w h => hpan _ _ _ _ _ h) (hS) ?_
   simp only [nrm]
   refine WpT.take (i := 26) rfl (by kernel_rfl) (fun c a w h => hpan _ _ _ _ _ h) (z2c (by rfl) rfl rfl (by kernel_rfl) HX3) (hS) ?_
   simp only [nrm]
   refine WpT.tq 27 rfl (fun c a w h => hpan _ _ _ _ _ h) (hS) ?_
   simp only [nrm]
   refine WpT.tq 28 rfl (fun c a w h => hpan _ _ _ _ _ h) (hS) ?_
   simp only [nrm]
   refine WpT.take (i := 29) rfl (by kernel_rfl) (fun c a w h => hpan _ _ _ _ _ h) (z1w (us := hdL (yn ES yj ci)) (by rfl) rfl rfl z00 (by rw [ym, h36i]) hce1) (hS) ?_
   simp only [nrm]
   refine WpT.on 30 rfl (fun K hK => ?_)
   go_simp; refine (HFK.out _ (yb HB12.out hS)).mono ?_; rintro e w14 ⟨rfl, hb14⟩; replace hS := yb hS hb14
   refine hK _ _ hS ?_; clear hK K; try simp only [nrm]
   refine WpT.tq 31 rfl (fun c a w h => hpan _ _ _ _ _ h) (hS) ?_
   simp only [nrm]
   refine WpT.done (by kernel_rfl) ?_ _
   skip
   go_wp2_with fail
   exact ⟨⟨k + 1, by go_num, by omega, yb hbk (yb HB12.out hS)⟩, by simp [intOf]; omega⟩
  ·obtain rfl : k = i + 1 := by omega
   have dk : decide (((i + 1 : Nat) : Int) ≤ (i : Int)) = false := by rw [decide_eq_false_iff_not]; omega
   have dkn : decide (i + 1 ≤ i) = false := by rw [decide_eq_false_iff_not]; omega
   clear hce
   go_wp2_with fail
   exact HX.out _ _ _ _ _ _ _ _ _ _ _ _ _ _ _ _ _ _ _ _ _ _ _ _ _ _ _ _ _ _ _ _ _ _ _ _ _ _ _ _ _ _ _ _ _ _ _ _ _ _ _ _ _ _ _ _ _ hbk
theorem lmq4 {Q0 : Exit → Act → World → Prop} {w9 : World} {r : LgR} {A2 : Option Addr} {ES : List Ev} {CS : List Nat} {n2 c2 g7 gk : Nat} (L : LqAt w9 r A2 ES CS n2 c2 g7 gk) {i : Nat} (hic : i < CS.length) {wr : World} (hbi : Below w9.heap.size w9 wr)
  {u0 u1 u2 u3 u4 u5 u6 u9 u12 u13 u14 u16 u17 u18 u19 u20 u21 u22 u23 u24 u25 u26 u27 u28 u29 u30 u31 u32 u33 u34 u35 u36 u37 u38 u39 u40 u41 u42 u43 u44 u45 u46 u47 u48 u49 u50 u51 u52 u53 u54 u55 u56 u57 u58 u59 u60 u61 u62 u63 u64 u65 u66 u67 u68 u69 u70 u71 u72 u73 u74 u75 u76 u77 u78 u79 u80 u81 u82 u83 u84 u85 u86 u87 u88 u89 u90 u91 u92 u93 u94 u95 u96 u97 u98 u99 u100 u101 u102 u103 u104 u105 u106 u107 u108 u109 u110 u111 u112 u113 u114 u115 u116 u117 u118 u119 u120 u121 u122 u123 u124 u125 u126 u127 u128 u129 u130 u131 u132 u133 u134 u135 u136 u137 u138 u139 u140 u141 u142 u143 u144 u145 u146 u147 u148 u149 u150 u151 u152 u153 u154 u155 u156 u157 u158 u159 u160 u161 u162 u163 u164 u165 u166 u167 u168 u169 u170 : Value}
  (hpan : ∀ (c : List PanicEntry) (d : Option Tmp) (v : Value) (x : Act) (z : World), Q0 (.panic c) (x.put d v) z → Q0 (.panic c) x z)
  (hexit : ∀ (v4 v15 v16 v17 v111 v112 v113 v114 v115 v116 v117 v118 v119 v120 v121 v122 v123 v124 v125 v126 v127 v128 v129 v130 v131 v132 v133 v134 v135 v136 v137 v138 v139 v140 v141 v142 v143 v144 v145 v146 v147 v148 v149 v150 v151 v152 v153 v154 v155 v156 v157 v158 v159 v160 v161 v162 v163 v164 v165 v166 v167 v168 v169 : Value) (W : World), Below w9.heap.size w9 W → Q0 (.exit 6) ⟨List.toArray (u0 :: u1 :: u2 :: u3 :: v4 :: u5 :: u6 :: (.pointer (some ⟨g7, 0, none⟩)) :: (.slice A2 n2 c2) :: u9 :: (.slice (some ⟨gk, 0, none⟩) 1 1) :: (.int .i64 (i : Int)) :: u12 :: u13 :: u14 :: v15 :: v16 :: v17 :: u18 :: u19 :: u20 :: u21 :: u22 :: u23 :: u24 :: u25 :: u26 :: u27 :: u28 :: u29 :: u30 :: u31 :: u32 :: u33 :: u34 :: u35 :: u36 :: u37 :: u38 :: u39 :: u40 :: u41 :: u42 :: u43 :: u44 :: u45 :: u46 :: u47 :: u48 :: u49 :: u50 :: u51 :: u52 :: u53 :: u54 :: u55 :: u56 :: u57 :: u58 :: u59 :: u60 :: u61 :: u62 :: u63 :: u64 :: u65 :: u66 :: u67 :: u68 :: u69 :: u70 :: u71 :: u72 :: u73 :: u74 :: u75 :: u76 :: u77 :: u78 :: u79 :: u80 :: u81 :: u82 :: u83 :: u84 :: u85 :: u86 :: u87 :: u88 :: u89 :: u90 :: u91 :: u92 :: u93 :: u94 :: u95 :: u96 :: u97 :: u98 :: u99 :: u100 :: u101 :: u102 :: u103 :: u104 :: u105 :: u106 :: u107 :: u108 :: u109 :: u110 :: v111 :: v112 :: v113 :: v114 :: v115 :: v116 :: v117 :: v118 :: v119 :: v120 :: v121 :: v122 :: v123 :: v124 :: v125 :: v126 :: v127 :: v128 :: v129 :: v130 :: v131 :: v132 :: v133 :: v134 :: v135 :: v136 :: v137 :: v138 :: v139 :: v140 :: v141 :: v142 :: v143 :: v144 :: v145 :: v146 :: v147 :: v148 :: v149 :: v150 :: v151 :: v152 :: v153 :: v154 :: v155 :: v156 :: v157 :: v158 :: v159 :: v160 :: v161 :: v162 :: v163 :: v164 :: v165 :: v166 :: v167 :: v168 :: v169 :: u170 :: []), []⟩ W) :
  Code.wp Tryz.prog lq4 Q0 ⟨List.toArray (u0 :: u1 :: u2 :: u3 :: u4 :: u5 :: u6 :: (.pointer (some ⟨g7, 0, none⟩)) :: (.slice A2 n2 c2) :: u9 :: (.slice (some ⟨gk, 0, none⟩) 1 1) :: (.int .i64 (i : Int)) :: u12 :: u13 :: u14 :: (.int .i64 1) :: u16 :: u17 :: u18 :: u19 :: u20 :: u21 :: u22 :: u23 :: u24 :: u25 :: u26 :: u27 :: u28 :: u29 :: u30 :: u31 :: u32 :: u33 :: u34 :: u35 :: u36 :: u37 :: u38 :: u39 :: u40 :: u41 :: u42 :: u43 :: u44 :: u45 :: u46 :: u47 :: u48 :: u49 :: u50 :: u51 :: u52 :: u53 :: u54 :: u55 :: u56 :: u57 :: u58 :: u59 :: u60 :: u61 :: u62 :: u63 :: u64 :: u65 :: u66 :: u67 :: u68 :: u69 :: u70 :: u71 :: u72 :: u73 :: u74 :: u75 :: u76 :: u77 :: u78 :: u79 :: u80 :: u81 :: u82 :: u83 :: u84 :: u85 :: u86 :: u87 :: u88 :: u89 :: u90 :: u91 :: u92 :: u93 :: u94 :: u95 :: u96 :: u97 :: u98 :: u99 :: u100 :: u101 :: u102 :: u103 :: u104 :: u105 :: u106 :: u107 :: u108 :: u109 :: u110 :: u111 :: u112 :: u113 :: u114 :: u115 :: u116 :: u117 :: u118 :: u119 :: u120 :: u121 :: u122 :: u123 :: u124 :: u125 :: u126 :: u127 :: u128 :: u129 :: u130 :: u131 :: u132 :: u133 :: u134 :: u135 :: u136 :: u137 :: u138 :: u139 :: u140 :: u141 :: u142 :: u143 :: u144 :: u145 :: u146 :: u147 :: u148 :: u149 :: u150 :: u151 :: u152 :: u153 :: u154 :: u155 :: u156 :: u157 :: u158 :: u159 :: u160 :: u161 :: u162 :: u163 :: u164 :: u165 :: u166 :: u167 :: u168 :: u169 :: u170 :: []), []⟩ wr := by
 have M9 := ya L.md
 have HB7 := ya L.blk
 have HGC := ya (fun W (hb : Below w9.heap.size w9 W) => L.con.below hb)
 have HRK := ya L.key
 have HES := ya L.es
 have HC2 := ya L.cap
 have HHN : Hid (r.hn = CS.length ∧ r.en = n2) := ya ⟨L.hn, L.en⟩
 have hnb : CS.length ≤ 100 := L.few
 have HSC := ya L.up
 have hn2 : n2 ≤ 12 := by have := L.md.sz; have := L.en; omega
 obtain ⟨hnn, hhn⟩ : ∃ x, r.hn = x := ⟨_, rfl⟩
 have HNN := ya hhn
 have hin : i < hnn := by rw [← hhn, L.hn]; exact hic
 have hnb : hnn ≤ 100 := by rw [← hhn, L.hn]; exact hnb
 obtain ⟨hle, hhd⟩ := M9.out.head i hic
 obtain ⟨ad, hA, hce⟩ := (M9.out.ok.hd).elem hle
 obtain ⟨ci, hci⟩ : ∃ x, CS[i] = x := ⟨_, rfl⟩
 have hhd2 : r.hs[i] = yn ES yj ci := by rw [← hci]; exact hhd
 rw [hhd2] at hce
 have HCI : Hid (ci ∈ CS) := ya (by rw [← hci]; exact List.getElem_mem hic)
 have hcle : ci ≤ n2 := by
  have := M9.out.le _ HCI.out
  rwa [HES.out] at this
 have HIC := ya hic
 have HCIe : Hid (∀ h : i < CS.length, CS[i]'h = ci) := ya (fun _ => hci)
 have HCE := ya hce
 have HAD := ya hA
 have hsz := z3y
 have h5 := z4y
 have h25 := z20
 have h36 := z24
 have h41 := z52
 have h60 := z9u
 have h60l := z9v
 have h23 := z3e
 have HX := ya hexit
 clear hhd2 hle hhd hA hci hce hic hhn L hexit
 conv => arg 2; whnf
 go_loopw [15] (fun v15 wq => ∃ q : Nat, v15 = .int .i64 ((q + 1 : Nat) : Int) ∧ q ≤ ci ∧ Below w9.heap.size w9 wq) (fun v15 _ => ci + 1 - (intOf v15).toNat)
 case atStart => exact ⟨0, rfl, by omega, hbi⟩
 case round =>
  obtain ⟨q, rfl, hq, hbq⟩ := hrel
  have x3 := z4z (HB7.out.below hbq)
  rw [HNN.out, HAD.out] at x3
  have hce := fun j u h => cell_later hbq (HCE.out j u h)
  have hcc : wr.cell? ⟨(ad.add (i * 36)).block, (ad.add (i * 36)).off + 1, none⟩ = some (.int .i64 (ci : Int)) := by
   have h := hce 1 _ (show (hdL (yn ES yj ci))[1]? = some (.int .i64 (yn ES yj ci).commit) from rfl)
   rw [z43 ES yj ci (by rw [HES.out]; exact hcle)] at h
   exact h
  by_cases hqc : q < ci
  ·have dq : decide (((q + 1 : Nat) : Int) ≤ (ci : Int)) = true := by rw [decide_eq_true_eq]; omega
   have dqn : decide (q + 1 ≤ ci) = true := by rw [decide_eq_true_eq]; omega
   have hqn : q < n2 := by omega
   have hqe : q < ES.length := by rw [HES.out]; exact hqn
   obtain ⟨hle1, hev1⟩ := M9.out.evs q hqe
   obtain ⟨ade, hAe, hcv0⟩ := (M9.out.ok.ev).elem hle1
   obtain ⟨hlr1, hrc1⟩ := zko (H := yj) (es := ES) q hqe
   obtain ⟨adr, hAr, hcr0⟩ := M9.out.rr.elem hlr1
   rw [hrc1] at hcr0
   have HCV := ya hcv0
   have HCR := ya hcr0
   have hfq : yv yj r.es[q].e = z22 ES yj q := by rw [hev1, z7q ES yj q hqe]
   have HOP := ya (fun W (hb : Below wr.heap.size wr W) => (show Calls Tryz.prog 16 #[fcV (z22 ES yj q), evV r.es[q]] W (fun e w' => e = .returned (.bool true) ∧ Below W.heap.size W w') by
    have h := M9.out.fineR _ (List.getElem_mem hle1)
    have := zjo lds (z22 ES yj q) r.es[q] W (zc5 lds q) (((M9.out.ok.ev).ok _ (List.getElem_mem hle1)).below (yb hbq hb)) h.1 h.2 (HGC.out _ (yb hbq hb))
    rwa [hfq, decide_eq_true rfl] at this))
   have HPV := ya (fun W (hb : Below wr.heap.size wr W) => zj9 lds (M9.out.below (yb hbq hb)) (HGC.out _ (yb hbq hb)) ci (q + 1) HCI.out (by omega) (by omega))
   have HSW := ya (fun (s : ShR) (e : s.s = z2x yj ES ci (q + 1)) (ns : s.n ≤ 1000) W (hb : Below wr.heap.size wr W) (ks : z1y W s) => zrv lds (HGC.out _ (yb hbq hb)) M9.out.gr (rc := 1) (HRK.out.below (yb hbq hb)) M9.out.fine ci (q + 1) (by rw [HES.out]; exact hcle) (by omega) (by omega) s e ks ns)
   have HRC := ya (fun W (hb : Below wr.heap.size wr W) => zru lds (HGC.out _ (yb hbq hb)) M9.out.gr (rc := 1) (HRK.out.below (yb hbq hb)) M9.out.fine q hqe)
   have HRF := ya (fun (s : ShR) (e : s.s = z2x yj ES ci (q + 1)) (ns : s.n ≤ 1000) W (hb : Below wr.heap.size wr W) (ks : z1y W s) => (show Calls Tryz.prog 44 #[.slice (some ⟨gk, 0, none⟩) 1 1, rcV (z25 ES yj q), shV s] W (fun e w' => e = .returned (.bool false) ∧ Below W.heap.size W w') by
    have := zja lds (HGC.out _ (yb hbq hb)) (rc := 1) (HRK.out.below (yb hbq hb)) M9.out.fine M9.out.gr M9.out.fine q ci (q + 1) hqe (by rw [HES.out]; exact hcle) (by omega) (by omega) s e ks ns
    have hz := zw8 yj (es := ES) ci (q + 1)
    rw [Nat.add_sub_cancel] at hz
    rwa [hz] at this))
   have HNS := ya (fun (s : ShR) (e : s.s = z2x yj ES ci (q + 1)) W (ks : z1y W s) => (show s.n ≤ 1000 by
    have h1 := ks.rd.len
    rw [e] at h1
    have h2 := Merk.incl_len yj.nd yj.em _ (yo yj (ES.take ci)) (q + 1 - 1) (Nat.le_refl _)
    rw [z4w ES yj ci (by rw [HES.out]; exact hcle)] at h2
    have h3 : s.n = (incl yj.nd yj.em (yo yj (ES.take ci)) (q + 1 - 1)).length := h1.symm
    omega))
   have HFF := ya (fun (s : ShR) (e : s.s = z2x yj ES ci (q + 1)) => (show s.s.face = z22 ES yj q by rw [e]; rfl))
   have h25v := h25 r.es[q]
   generalize r.es[q] = ev at *
   obtain ⟨FQ, hFQ⟩ : ∃ x, z22 ES yj q = x := ⟨_, rfl⟩
   obtain ⟨RQ, hRQ⟩ : ∃ x, z25 ES yj q = x := ⟨_, rfl⟩
   rw [hFQ] at HOP
   rw [hRQ] at HRC HRF HCR
   have HFQ := ya hFQ
   have h41q := h41 RQ
   have h23q := h23 FQ
   have x1 := z4o (HB7.out.below hbq)
   have hen : r.en = n2 := HHN.out.2
   rw [hAe, hen] at x1
   subst hAr
   have zr := z1g (HB7.out.below hbq)
   have h36i := h36 (yn ES yj ci)
   obtain ⟨J, HJ⟩ : ∃ J : Int, ((q + 1 : Nat) : Int) = J := ⟨_, rfl⟩
   have hm : 0 ≤ J - 1 ∧ J - 1 < (n2 : Int) := by omega
   have hj1 : J - 1 = (q : Int) := by omega
   have hJb : 1 ≤ J ∧ J ≤ 9223372036854775807 := by omega
   have hwr : Go.IntKind.i64.wrap (J - 1) = (q : Int) := by rw [IntKind.wrap_i64]; omega
   have HJN : Hid (J + 1 = ((q + 1 + 1 : Nat) : Int)) := ya (by omega)
   rw [HJ] at HPV dq
   simp only [HJ]
   unfold z8c at HPV
   dsimp only at HPV
   have hsh := z9u
   clear hcv0 hcr0 hev1 hle1 hlr1 hrc1 hqe hqn hAe hfq hen hFQ hRQ HJ dqn
   go_upto_region 25 with fail
   clear hcc dq
   go_cut [16, 17] from 111 to 169 (fun v16 v17 wx => ∃ (g16 : Nat) (s1 : ShR), v16 = .pointer (some ⟨g16, 0, none⟩) ∧ v17 = .int .i64 0 ∧ Blk wx g16 63 (shC s1) ∧ s1.s = z2x yj ES ci (q + 1) ∧ z1y wx s1 ∧ Below wr.heap.size wr wx)
   case first =>
    have hS : Below wr.heap.size wr wr.drew := (Below.refl _ _).drew
    refine yz 13 (by kernel_rfl) ?_
    refine WpT.take (i := 0) rfl (by kernel_rfl) (fun c a w h => hpan _ _ _ _ _ h) (z0k (us := lgL r) rfl rfl rfl z0o (by rw [yq, h5]) zr) (hS) ?_
    simp only [nrm]
    refine WpT.tq 1 rfl (fun c a w h => hpan _ _ _ _ _ h) (hS) ?_
    simp only [nrm]
    refine WpT.tq 2 rfl (fun c a w h => hpan _ _ _ _ _ h) (hS) ?_
    simp only [nrm]
    refine WpT.take (i := 3) rfl (by kernel_rfl) (fun c a w h => hpan _ _ _ _ _ h) (yh rfl rfl rfl (by kernel_rfl) x3) (hS) ?_
    simp only [nrm]
    refine WpT.tq 4 rfl (fun c a w h => hpan _ _ _ _ _ h) (hS) ?_
    simp only [nrm]
    refine WpT.tq 5 rfl (fun c a w h => hpan _ _ _ _ _ h) (hS) ?_
    simp only [nrm]
    refine WpT.take (i := 6) rfl (by kernel_rfl) (fun c a w h => hpan _ _ _ _ _ h) (z0k (us := hdL (yn ES yj ci)) rfl rfl rfl z00 (by rw [ym, h36i]) hce) (hS) ?_
    simp only [nrm]
    refine WpT.fork (i := 7) (j := 11) rfl rfl (by kernel_rfl) (fun K hK => ?_) (fun K hK => ?_)
    ·go_simp; refine (HPV.out _ hS).mono ?_; rintro e w12 ⟨s1, rfl, es1, ks1, ns1, fr1, hb12⟩; clear ns1; replace hS := yb hS hb12
     refine hK _ _ hS ?_; clear hK K; try simp only [nrm]
     refine WpT.tq 8 rfl (fun c a w h => hpan _ _ _ _ _ h) (hS) ?_
     simp only [nrm]
     refine WpT.tq 9 rfl (fun c a w h => hpan _ _ _ _ _ h) (hS) ?_
     simp only [nrm]
     refine WpT.tq 10 rfl (fun c a w h => hpan _ _ _ _ _ h) (hS) ?_
     simp only [nrm]
     refine WpT.on 11 rfl (fun K hK => ?_)
     refine z08 rfl zbn ?_; intro wV gV hgV bV hbV; have hgB : wr.heap.size ≤ gV := (by have := hS.size; omega); have aw : z2k s1.A gV := (fun ad e h2 => by have := (fr1 ad e).2; omega); replace ks1 := ks1.below hbV; clear hgV; replace hS := yb hS hbV
     refine hK _ _ hS ?_; clear hK K; try simp only [nrm]
     refine WpT.on 12 rfl (fun K hK => ?_)
     refine yl (vs := shC s1) rfl (by rfl) (by rfl) bV (by rw [hsh, hsh]) (by rw [z2i, hsh]) (z77 _) ?_; intro w13 ht13 b14; replace ks1 : z1y w13 s1 := ⟨⟨ks1.rd.len, ks1.rd.rd.turned ht13 aw⟩, ks1.nc, ks1.cm, ks1.lt, ks1.bl, ks1.hd⟩; replace hS := hS.trans (ht13.below _ hgB)
     refine hK _ _ hS ?_; clear hK K; try simp only [nrm]
     refine WpT.ta 13 rfl (fun K hK => ?_)
     go_simp; (try go_bits)
     refine hK _ _ ?_; clear hK K; try simp only [nrm]
     refine WpT.done (by kernel_rfl) ?_ _
     go_wp2_with fail; go_meet; exact ⟨gV, s1, rfl, rfl, b14, es1, ks1, hS⟩
    ·refine z08 rfl zbn ?_; intro wV gV hgV bV hbV; have hgB : wr.heap.size ≤ gV := (by have := hS.size; omega); clear hgV; replace hS := yb hS hbV
     refine hK _ _ hS ?_; clear hK K; try simp only [nrm]
     refine WpT.on 7 rfl (fun K hK => ?_)
     go_simp; refine (HPV.out _ hS).mono ?_; rintro e w12 ⟨s1, rfl, es1, ks1, ns1, fr1, hb12⟩; clear ns1; have aw : z2k s1.A gV := (fun ad e h2 => by have := (fr1 ad e).1; have := bV.lt; omega); replace bV := bV.below hb12; replace hS := yb hS hb12
     refine hK _ _ hS ?_; clear hK K; try simp only [nrm]
     refine WpT.tq 8 rfl (fun c a w h => hpan _ _ _ _ _ h) (hS) ?_
     simp only [nrm]
     refine WpT.tq 9 rfl (fun c a w h => hpan _ _ _ _ _ h) (hS) ?_
     simp only [nrm]
     refine WpT.tq 10 rfl (fun c a w h => hpan _ _ _ _ _ h) (hS) ?_
     simp only [nrm]
     refine WpT.on 12 rfl (fun K hK => ?_)
     refine yl (vs := shC s1) rfl (by rfl) (by rfl) bV (by rw [hsh, hsh]) (by rw [z2i, hsh]) (z77 _) ?_; intro w13 ht13 b14; replace ks1 : z1y w13 s1 := ⟨⟨ks1.rd.len, ks1.rd.rd.turned ht13 aw⟩, ks1.nc, ks1.cm, ks1.lt, ks1.bl, ks1.hd⟩; replace hS := hS.trans (ht13.below _ hgB)
     refine hK _ _ hS ?_; clear hK K; try simp only [nrm]
     refine WpT.ta 13 rfl (fun K hK => ?_)
     go_simp; (try go_bits)
     refine hK _ _ ?_; clear hK K; try simp only [nrm]
     refine WpT.done (by kernel_rfl) ?_ _
     go_wp2_with fail; go_meet; exact ⟨gV, s1, rfl, rfl, b14, es1, ks1, hS⟩
   case rest =>
    obtain ⟨g16, s1, rfl, rfl, b16, es1, ks1, hbc⟩ := hcut
    have hns := HNS.out s1 es1 wc ks1
    have HSW2 := ya (HSW.out s1 es1 hns)
    have HRF2 := ya (HRF.out s1 es1 hns)
    have hff := HFF.out s1 es1
    rw [HFQ.out] at hff
    have HB16 := ya b16
    have HKS := ya ks1
    have HBC := ya hbc
    have x16 := yy (xs := shL s1) b16
    have x16f := z7c b16
    rw [hff] at x16f
    have y1 := cell_later hbc x1
    have hcv := fun j u h => cell_later (yb hbq hbc) (HCV.out j u h)
    have h60s := h60l s1
    clear HSW HRF HNS HFF HPV x1 x3 hce zr b16 hff hns es1 ks1
    go_upto_region 26 with fail
    have hS : Below wc.heap.size wc wc.drew := (Below.refl _ _).drew
    refine yz 20 (by kernel_rfl) ?_
    refine WpT.tq 0 rfl (fun c a w h => hpan _ _ _ _ _ h) (hS) ?_
    simp only [nrm]
    refine WpT.tq 1 rfl (fun c a w h => hpan _ _ _ _ _ h) (hS) ?_
    simp only [nrm]
    refine WpT.tq 2 rfl (fun c a w h => hpan _ _ _ _ _ h) (hS) ?_
    simp only [nrm]
    refine WpT.tq 3 rfl (fun c a w h => hpan _ _ _ _ _ h) (hS) ?_
    simp only [nrm]
    refine WpT.take (i := 4) rfl (by kernel_rfl) (fun c a w h => hpan _ _ _ _ _ h) (z1w (us := shL s1) (by rfl) rfl rfl z42 (by rw [z2i, h60s]) x16) (hS) ?_
    simp only [nrm]
    refine WpT.on 5 rfl (fun K hK => ?_)
    go_simp; refine (HSW2.out _ (yb HBC.out hS) (HKS.out.below hS)).mono ?_; rintro e w13 ⟨rfl, hb13⟩; replace hS := yb hS hb13
    refine hK _ _ hS ?_; clear hK K; try simp only [nrm]
    refine WpT.tq 6 rfl (fun c a w h => hpan _ _ _ _ _ h) (hS) ?_
    simp only [nrm]
    refine WpT.tq 7 rfl (fun c a w h => hpan _ _ _ _ _ h) (hS) ?_
    simp only [nrm]
    refine WpT.tq 8 rfl (fun c a w h => hpan _ _ _ _ _ h) (hS) ?_
    simp only [nrm]
    refine WpT.tq 9 rfl (fun c a w h => hpan _ _ _ _ _ h) (hS) ?_
    simp only [nrm]
    refine WpT.take (i := 10) rfl (by kernel_rfl) (fun c a w h => hpan _ _ _ _ _ h) (z1w (us := fcL FQ) (by rfl) rfl rfl z2z (by rw [z1j, h23q]) x16f) (hS) ?_
    simp only [nrm]
    refine WpT.tq 11 rfl (fun c a w h => hpan _ _ _ _ _ h) (hS) ?_
    simp only [nrm]
    refine WpT.take (i := 12) rfl (by kernel_rfl) (fun c a w h => hpan _ _ _ _ _ h) (z2c (by rfl) rfl rfl (by kernel_rfl) y1) (hS) ?_
    simp only [nrm]
    refine WpT.tq 13 rfl (fun c a w h => hpan _ _ _ _ _ h) (hS) ?_
    simp only [nrm]
    refine WpT.tq 14 rfl (fun c a w h => hpan _ _ _ _ _ h) (hS) ?_
    simp only [nrm]
    refine WpT.tq 15 rfl (fun c a w h => hpan _ _ _ _ _ h) (hS) ?_
    simp only [nrm]
    refine WpT.take (i := 16) rfl (by kernel_rfl) (fun c a w h => hpan _ _ _ _ _ h) (z1w (us := evL ev) (by rfl) rfl rfl z23 (by rw [z1m, h25v]) hcv) (hS) ?_
    simp only [nrm]
    refine WpT.on 17 rfl (fun K hK => ?_)
    go_simp; refine (HOP.out _ (yb HBC.out hS)).mono ?_; rintro e w14 ⟨rfl, hb14⟩; replace hS := yb hS hb14
    refine hK _ _ hS ?_; clear hK K; try simp only [nrm]
    refine WpT.tq 18 rfl (fun c a w h => hpan _ _ _ _ _ h) (hS) ?_
    simp only [nrm]
    refine WpT.tq 19 rfl (fun c a w h => hpan _ _ _ _ _ h) (hS) ?_
    simp only [nrm]
    refine WpT.done (by kernel_rfl) ?_ _
    skip
    have HBD := ya (yb HBC.out hS)
    have HBS := ya hS
    have x16 := yy (xs := shL s1) (HB16.out.below hS)
    have hcr := fun j u h => cell_later (yb hbq HBD.out) (HCR.out j u h)
    clear y1 hcv x16f hS HOP
    go_upto_region 28 with fail
    have hS : Below w14.heap.size w14 w14.drew := (Below.refl _ _).drew
    refine yz 18 (by kernel_rfl) ?_
    refine WpT.tq 0 rfl (fun c a w h => hpan _ _ _ _ _ h) (hS) ?_
    simp only [nrm]
    refine WpT.tq 1 rfl (fun c a w h => hpan _ _ _ _ _ h) (hS) ?_
    simp only [nrm]
    refine WpT.tq 2 rfl (fun c a w h => hpan _ _ _ _ _ h) (hS) ?_
    simp only [nrm]
    refine WpT.tq 3 rfl (fun c a w h => hpan _ _ _ _ _ h) (hS) ?_
    simp only [nrm]
    refine WpT.tq 4 rfl (fun c a w h => hpan _ _ _ _ _ h) (hS) ?_
    simp only [nrm]
    refine WpT.take (i := 5) rfl (by kernel_rfl) (fun c a w h => hpan _ _ _ _ _ h) (z1w (us := rcL RQ) (by rfl) rfl rfl z36 (by rw [z1n, h41q]) hcr) (hS) ?_
    simp only [nrm]
    refine WpT.on 6 rfl (fun K hK => ?_)
    go_simp; refine (HRC.out _ (yb HBD.out hS)).mono ?_; rintro e w15 ⟨rfl, hb15⟩; replace hS := yb hS hb15
    refine hK _ _ hS ?_; clear hK K; try simp only [nrm]
    refine WpT.tq 7 rfl (fun c a w h => hpan _ _ _ _ _ h) (hS) ?_
    simp only [nrm]
    refine WpT.tq 8 rfl (fun c a w h => hpan _ _ _ _ _ h) (hS) ?_
    simp only [nrm]
    refine WpT.tq 9 rfl (fun c a w h => hpan _ _ _ _ _ h) (hS) ?_
    simp only [nrm]
    refine WpT.tq 10 rfl (fun c a w h => hpan _ _ _ _ _ h) (hS) ?_
    simp only [nrm]
    refine WpT.tq 11 rfl (fun c a w h => hpan _ _ _ _ _ h) (hS) ?_
    simp only [nrm]
    refine WpT.tq 12 rfl (fun c a w h => hpan _ _ _ _ _ h) (hS) ?_
    simp only [nrm]
    refine WpT.tq 13 rfl (fun c a w h => hpan _ _ _ _ _ h) (hS) ?_
    simp only [nrm]
    refine WpT.take (i := 14) rfl (by kernel_rfl) (fun c a w h => hpan _ _ _ _ _ h) (z1w (us := rcL RQ) (by rfl) rfl rfl z36 (by rw [z1n, h41q]) hcr) (hS) ?_
    simp only [nrm]
    refine WpT.take (i := 15) rfl (by kernel_rfl) (fun c a w h => hpan _ _ _ _ _ h) (z1w (us := shL s1) (by rfl) rfl rfl z42 (by rw [z2i, h60s]) x16) (hS) ?_
    simp only [nrm]
    refine WpT.on 16 rfl (fun K hK => ?_)
    go_simp; refine (HRF2.out _ (yb HBD.out hS) (HKS.out.below (yb HBS.out hS))).mono ?_; rintro e w16 ⟨rfl, hb16⟩; replace hS := yb hS hb16
    refine hK _ _ hS ?_; clear hK K; try simp only [nrm]
    refine WpT.tq 17 rfl (fun c a w h => hpan _ _ _ _ _ h) (hS) ?_
    simp only [nrm]
    refine WpT.done (by kernel_rfl) ?_ _
    skip
    go_wp2_with fail
    exact ⟨⟨q + 1, by go_num, by omega, yb hbq (yb HBD.out hS)⟩, by simp [intOf]; omega⟩
  ·obtain rfl : q = ci := by omega
   have dq : decide (((q + 1 : Nat) : Int) ≤ (q : Int)) = false := by rw [decide_eq_false_iff_not]; omega
   have dqn : decide (q + 1 ≤ q) = false := by rw [decide_eq_false_iff_not]; omega
   clear hce
   go_wp2_with fail
   exact HX.out _ _ _ _ _ _ _ _ _ _ _ _ _ _ _ _ _ _ _ _ _ _ _ _ _ _ _ _ _ _ _ _ _ _ _ _ _ _ _ _ _ _ _ _ _ _ _ _ _ _ _ _ _ _ _ _ _ _ _ _ _ _ _ _ hbq
theorem walkLedgerHonestOnesAreSafe (A : Option Addr) (n c : Nat) (es : List EvR) (B : Option Addr) (m d : Nat) (ss : List Bool) (w : World) (hnc : n ≤ c) (hcm : c ≤ maxLen) (hl : z3n w A n es) (hwf : ∀ r ∈ es, z0v r.e) (hmd : m ≤ d) (hdm : d ≤ maxLen) (hss : ss.length = m) (hs : Rd w B m (ss.map Value.bool)) (hg : GCon w) (hrc : RCon w) (hgb : GBru w) :
  Calls Tryz.prog 7 #[.slice A n c, .slice B m d] w (BIs true w) := by
 have HSA := ya (fun W (hb : Below w.heap.size w W) => sane W (hg.below hb) (hrc.below hb) (hgb.below hb))
 have HLN := ya hl.len
 have HE := ya (fun j (hj : j < es.length) W (hb : Below w.heap.size w W) => (hl.below hb).elem hj)
 have HFE := ya (fun j (hj : j < es.length) W (hb : Below w.heap.size w W) => zei es[j] W ((hl.ok _ (List.getElem_mem hj)).below hb))
 have HFA := ya (fun (ha : es.all (fun x => z1f x.e) = true) => (show z2s es from fun x hx => ⟨hwf x hx, (zeh _).1 (List.all_eq_true.1 ha x hx)⟩))
 have HMD := ya (fun (hf : z2s es) (hn : n ≤ 12) W (hb : Below w.heap.size w W) => zj6 lds es A n c ss B m d W (hl.below hb) hn hf (hs.below hb) (hg.below hb) (hgb.below hb))
 have HMO := ya (fun (hf : z2s es) (hn : n ≤ 12) (r : LgR) (A2 : Option Addr) (W : World) (er : z03 r = lgW (z0e 0 0 (ye es)) yj (ye es).length (z3m ss (ye es).length)) (kr : z0j W r) (rr : z6t W A2 n (z46 (z0e 0 0 (ye es)) yj (ye es).length)) => (show z4k W r A2 (z0e 0 0 (ye es)) yj (z3m ss n) ∧ (z0e 0 0 (ye es)).length = n by
  have h1 : (ye es).length = n := by rw [z1h, hl.len]
  have h2 : (z0e 0 0 (ye es)).length = n := by rw [z5v, h1]
  have hgr : z10 (z0e 0 0 (ye es)) := zes _ (by omega)
  rw [h1] at er rr
  refine ⟨⟨by rw [h2]; exact er, kr, by rw [h2]; exact rr, hgr, fun e he => ?_, fun c hc => by rw [h2]; exact zlc ss n c hc, by have := (zld ss n).2; omega⟩, h2⟩
  obtain ⟨j, hj, rfl⟩ := List.getElem_of_mem he
  have hj2 : j < es.length := by rw [z5v, z1h] at hj; exact hj
  obtain ⟨h3, h4⟩ := z8n (ye es) j (by rw [z1h]; exact hj2)
  rw [h4]
  have h5 := hgr.bound j (by omega)
  have h6 := hf _ (List.getElem_mem hj2)
  exact zen j _ _ (by omega) (by omega) (by simpa [ye] using h6.1) (by simpa [ye] using h6.2)))
 have HKY := ya (fun W => zey W)
 have HGC := ya (fun W (hb : Below w.heap.size w W) => (show GCon W ∧ GBru W from ⟨hg.below hb, hgb.below hb⟩))
 have HSU := ya (zlf ss n)
 have HSC := ya (fun (CS : List Nat) (hc : z3m ss n = CS) (k i : Nat) (h : k ≤ i) (hi : i < CS.length) => (show CS[k]'(by omega) ≤ CS[i] by subst hc; exact zv0 ss n k i h hi))
 have hsz := z3y
 have h5 := z4y
 have h25 := z20
 clear hl hwf hs hg hrc hgb hss hmd hdm hnc hcm
 unfold BIs at HSA HFE
 by_cases hbig : 12 < n
 ·have d1 : decide ((12 : Int) < (n : Int)) = true := by rw [decide_eq_true_eq]; omega
  have d1n : decide (12 < n) = true := by rw [decide_eq_true_eq]; omega
  clear HE HFE HFA HMD HMO HKY HSU HSC hbig
  unfold BIs
  go_enter Tryz.func7, Tryz.ntmps7
  go_wp2_with fail
  refine (HSA.out _ (Below.refl _ _)).mono ?_
  rintro e w3 ⟨rfl, hb3⟩
  go_wp2_with fail
  go_ret
  exact ⟨rfl, hb3⟩
 have d1 : decide ((12 : Int) < (n : Int)) = false := by rw [decide_eq_false_iff_not]; omega
 have d1n : decide (12 < n) = false := by rw [decide_eq_false_iff_not]; omega
 have hn12 : n ≤ 12 := by omega
 clear hbig
 unfold BIs
 go_enter Tryz.func7, Tryz.ntmps7
 go_wp2_with fail
 clear d1 d1n
 go_loopw [5] (fun v5 wr => ∃ k : Nat, v5 = .int .i64 (k : Int) ∧ k ≤ n ∧ Below w.heap.size w wr ∧ Hid (es.all (fun x => z1f x.e) = (es.drop k).all (fun x => z1f x.e))) (fun v5 _ => n - (intOf v5).toNat)
 case atStart => exact ⟨0, rfl, by omega, Below.refl _ _, ya rfl⟩
 case round =>
  obtain ⟨k, rfl, hk, hbw, HI⟩ := hrel
  by_cases hkn : k < n
  ·have hke : k < es.length := by rw [HLN.out]; exact hkn
   have dj : decide ((k : Int) < (n : Int)) = true := by rw [decide_eq_true_eq]; omega
   have djn : decide (k < n) = true := by rw [decide_eq_true_eq]; omega
   obtain ⟨ad, rfl, hce⟩ := HE.out k hke wr hbw
   have HFk := ya (HFE.out k hke wr hbw)
   have HS : Hid ((es.drop k).all (fun x => z1f x.e) = (z1f es[k].e && (es.drop (k + 1)).all (fun x => z1f x.e))) := ya (by rw [List.drop_eq_getElem_cons hke, List.all_cons])
   generalize es[k] = x at *
   generalize z1f x.e = fb at *
   have hx25 := h25 x
   clear HE HFE hke
   go_wp2_with ((with_reducible show sl 31); refine yw (us := evL x) rfl rfl rfl z23 (by rw [z1m, hx25]) hce ?_)
   refine HFk.out.mono ?_
   rintro e w4 ⟨rfl, hb4⟩
   cases fb with
   | true =>
    have HN : Hid (es.all (fun x => z1f x.e) = (es.drop (k + 1)).all (fun x => z1f x.e)) := ya (by rw [HI.out, HS.out, Bool.true_and])
    go_wp2_with fail
    exact ⟨⟨k + 1, by go_num, by omega, yb hbw hb4, HN⟩, by simp [intOf]; omega⟩
   | false =>
    clear HFA HMD HMO
    go_wp2_with fail
    refine (HSA.out _ (yb hbw hb4)).mono ?_
    rintro e w5 ⟨rfl, hb5⟩
    go_wp2_with fail
    go_ret
    exact ⟨rfl, yb hbw (yb hb4 hb5)⟩
  ·obtain rfl : k = n := by omega
   have dj : decide ((k : Int) < (k : Int)) = false := by rw [decide_eq_false_iff_not]; omega
   have djn : decide (k < k) = false := by rw [decide_eq_false_iff_not]; omega
   have hfi : z2s es := HFA.out (by rw [HI.out, List.drop_of_length_le (by rw [HLN.out]; exact Nat.le_refl _)]; rfl)
   have HMD2 := ya (HMD.out hfi hn12 wr hbw)
   have HMO2 := ya (HMO.out hfi hn12)
   unfold zbp at HMD2
   clear HE HFE HFA HMD HMO HI hfi hk
   go_wp2_with fail
   refine HMD2.out.mono ?_
   rintro e w5 ⟨r, A2, n2, c2, rfl, er, kr, rr, hn2, n2c, c2m, hb5⟩
   have hn2' : n2 = k := by rw [hn2, z1h, HLN.out]
   subst hn2'
   obtain ⟨M5, hES⟩ := HMO2.out r A2 w5 er kr rr
   clear HMD2 HMO2 er kr rr hn2 dj djn
   generalize z0e 0 0 (ye es) = ES at *
   generalize z3m ss n2 = CS at *
   replace HSC := ya (HSC.out CS rfl)
   go_upto_region 10 with ((with_reducible show sl 7); refine z1p (z := lgC (z0m 0)) (vs := lgC r) rfl rfl rfl rfl (z1l _) (fun _ => rfl) (fun _ => rfl) (by rw [hsz, hsz]) (by rw [yq, hsz]) (z0f _) ?_; intro w6 g7 hg7 b7 hb6 lt7; clear hg7 lt7)
   have M6 := M5.below hb6
   replace hbw := yb hbw (yb hb5 hb6)
   have HVA := ya (zrw lds M6 (HGC.out _ hbw).1 (HGC.out _ hbw).2 HSU.out)
   unfold BIs at HVA
   have zr := z1g b7
   clear hb5 hb6 M5
   go_wp2_with ((with_reducible show sl 46); refine z19 (us := lgL r) (by rfl) rfl rfl z0o (by rw [yq, h5]) zr ?_)
   refine HVA.out.mono ?_
   rintro e w7 ⟨rfl, hb7⟩
   replace b7 := b7.below hb7
   have M7 := M6.below hb7
   replace hbw := yb hbw hb7
   clear hb7 zr M6 HVA HSU
   go_wp2_with fail
   refine (HKY.out _).mono ?_
   rintro e w8 ⟨rfl, hb8⟩
   go_upto_region 13 with ((with_reducible show sl 51); refine zga rfl rfl rfl ?_; intro w9 gk rk hb9)
   replace b7 := b7.below (yb hb8 hb9)
   have M9 := ya (M7.below (yb hb8 hb9))
   replace hbw := yb hbw (yb hb8 hb9)
   have HRK := ya rk
   have HB7 := ya b7
   have HBW := ya hbw
   have hsz9 := M9.out.sz
   have HHN : Hid (r.hn = CS.length ∧ r.en = n2) := ya ⟨hsz9.2.2.2.2.1, by rw [hsz9.2.1, hES]⟩
   have HES := ya hES
   have HC2 : Hid (n2 ≤ c2 ∧ c2 ≤ maxLen ∧ r.en ≤ r.ec ∧ r.hn ≤ r.hc) := ya ⟨n2c, c2m, M9.out.ok.ec, M9.out.ok.hc⟩
   obtain ⟨hnn, hhn⟩ : ∃ x, r.hn = x := ⟨_, rfl⟩
   have HNN := ya hhn
   have hnb : hnn ≤ 100 := by have h0 := M9.out.len; have h1 := HHN.out.1; have h2 := HNN.out; omega
   clear hb8 hb9 M7 hsz9 hES n2c c2m rk b7 hhn
   go_wp2_with fail
   go_loopw [11] (fun v11 wi => ∃ i : Nat, v11 = .int .i64 (i : Int) ∧ i ≤ hnn ∧ Below w9.heap.size w9 wi) (fun v11 _ => hnn - (intOf v11).toNat)
   case atStart => exact ⟨0, rfl, by omega, Below.refl _ _⟩
   case round =>
    obtain ⟨i, rfl, hi, hbi⟩ := hrel
    have x3 := z4z (HB7.out.below hbi)
    rw [HNN.out] at x3
    by_cases hin : i < hnn
    ·have hic : i < CS.length := by have := HHN.out.1; have := HNN.out; omega
     have di : decide ((i : Int) < (hnn : Int)) = true := by rw [decide_eq_true_eq]; omega
     have din : decide (i < hnn) = true := by rw [decide_eq_true_eq]; omega
     have HLQ : Hid (LqAt w9 r A2 ES CS n2 c2 g7 gk) := ya ⟨M9.out, HB7.out, (HGC.out _ HBW.out).1, HRK.out, fun k i h hi => HSC.out k i h hi, HES.out, HC2.out, HHN.out.1, HHN.out.2, by rw [← HHN.out.1, HNN.out]; exact hnb⟩
     have HIC := ya hic
     clear hic
     go_wp2_with fail
     clear x3 di din
     refine lmq3 HLQ.out HIC.out hbi (fun _ d _ _ _ h => by cases d <;> exact h) ?_
     intro v4 v12 v13 v14 v59 v60 v61 v62 v63 v64 v65 v66 v67 v68 v69 v70 v71 v72 v73 v74 v75 v76 v77 v78 v79 v80 v81 v82 v83 v84 v85 v86 v87 v88 v89 v90 v91 v92 v93 v94 v95 v96 v97 v98 v99 v100 v101 v102 v103 v104 v105 v106 v107 v108 v109 v110 w3 hb3
     go_wp2_with fail
     refine lmq4 HLQ.out HIC.out hb3 (fun _ d _ _ _ h => by cases d <;> exact h) ?_
     intro z4 z15 z16 z17 z111 z112 z113 z114 z115 z116 z117 z118 z119 z120 z121 z122 z123 z124 z125 z126 z127 z128 z129 z130 z131 z132 z133 z134 z135 z136 z137 z138 z139 z140 z141 z142 z143 z144 z145 z146 z147 z148 z149 z150 z151 z152 z153 z154 z155 z156 z157 z158 z159 z160 z161 z162 z163 z164 z165 z166 z167 z168 z169 w4 hb4
     go_wp2_with fail
     exact ⟨⟨i + 1, by go_num, by omega, hb4⟩, by simp [intOf]; omega⟩
    ·obtain rfl : i = hnn := by omega
     have di : decide ((i : Int) < (i : Int)) = false := by rw [decide_eq_false_iff_not]; omega
     have din : decide (i < i) = false := by rw [decide_eq_false_iff_not]; omega
     go_wp2_with fail
     refine (HSA.out _ (yb HBW.out hbi)).mono ?_
     rintro e w10 ⟨rfl, hb10⟩
     go_wp2_with fail
     go_ret
     exact ⟨rfl, yb (yb HBW.out hbi) hb10⟩
theorem zep {α : Type} (f : α → List Value) (k : Nat) (hf : ∀ x, (f x).length = k) : ∀ (l : List α) (i : Nat) (x : α), i < l.length → (l.flatMap f).take (i * k) ++ f x ++ (l.flatMap f).drop (i * k + k) = (l.set i x).flatMap f
 | [], _, _, h => absurd h (Nat.not_lt_zero _)
 | y :: l, 0, x, _ => by
  rw [Nat.zero_mul, List.take_zero, List.nil_append, Nat.zero_add, List.flatMap_cons, List.set_cons_zero, List.flatMap_cons, ← hf y, List.drop_left]
 | y :: l, i + 1, x, h => by
  have ih := zep f k hf l i x (by simpa using h)
  have e : (i + 1) * k = (f y).length + i * k := by rw [hf, Nat.succ_mul, Nat.add_comm]
  have e2 : (i + 1) * k + k = (f y).length + (i * k + k) := by rw [e, Nat.add_assoc]
  rw [List.set_cons_succ, List.flatMap_cons, List.flatMap_cons, ← ih, e2, e]
  rw [List.take_append, List.drop_append, List.take_of_length_le (by omega), List.drop_of_length_le (by omega), Nat.add_sub_cancel_left, Nat.add_sub_cancel_left]
  simp
theorem zp9 (cur : List Value) (l : List EvR) (v : EvR) (i n : Nat) (hi : i < n) (hl : l.length = n) (ht : cur.take (n * 25) = l.flatMap evL) (hc : n * 25 ≤ cur.length) : (cur.take (i * 25) ++ evL v ++ cur.drop (i * 25 + 25)).take (n * 25) = (l.set i v).flatMap evL := by
 rw [← zep evL 25 z20 l i v (by omega), ← ht, List.take_take, Nat.min_eq_left (by omega), List.drop_take]
 have hA : (cur.take (i * 25) ++ evL v).length = i * 25 + 25 := by rw [List.length_append, List.length_take, z20, Nat.min_eq_left (by omega)]
 rw [List.take_append, List.take_of_length_le (by omega), hA]
theorem zpu {W : World} {v : EvR} (h : z1d W v) (k c d : Int) : z1d W (z7p v k c d) := ⟨h.vlen, h.vrd, h.vcap, h.vmax, h.ard, h.acap, h.amax, h.non⟩
theorem zt8 {W : World} {g n cap : Nat} {cur : List Value} {es : List EvR} {v : EvR} {i : Nat} (hb : Blk W g 27 (cur.take (i * 25) ++ evL v ++ cur.drop (i * 25 + (evL v).length)).toArray) (hi : i < n) (hl : es.length = n) (ht : cur.take (n * 25) = es.flatMap evL) (hc : cur.length = cap * 25) (hn : n ≤ cap) (hm : cap ≤ maxLen)
  (ho : ∀ x ∈ es, z1d W x) (hv : z1d W v) : z3n W (some ⟨g, 0, none⟩) n (es.set i v) := by
 have hx : n * 25 ≤ cap * 25 := Nat.mul_le_mul_right 25 hn
 have h25 := z20 v
 have hs : (cur.take (i * 25) ++ evL v ++ cur.drop (i * 25 + (evL v).length)).toArray.size = cap * 25 := by
  rw [List.size_toArray, List.length_append, List.length_append, List.length_take, List.length_drop, h25]; omega
 have hown : W.ownsRow 0 27 25 (.slice (some ⟨g, 0, none⟩) n cap) n ((es.set i v).flatMap evL) := by
  refine ⟨?_, .inr ⟨g, cap, _, rfl, Nat.zero_le _, hb, hn, hm, hs, ?_⟩⟩
  ·rw [← zep evL 25 z20 es i v (by omega), ← ht]
   simp only [List.length_append, List.length_take, List.length_drop, z20]; omega
  ·rw [h25]; exact zp9 cur es v i n hi hl ht (by omega)
 obtain ⟨A, c, e, -, -, hr⟩ := z4d hown
 injection e with e1 e2 e3
 subst e1
 refine ⟨by rw [List.length_set]; exact hl, hr, fun x hx => ?_⟩
 rcases List.mem_or_eq_of_mem_set hx with h | h
 ·exact ho x h
 ·rw [h]; exact hv
theorem zxf {ops : Array Oper} {S : World → Prop} {o : Oper} {a : Act} {x y : Operand} {p q : Fc} {u : TypeId} {b : Bool} (hw : Region.wanted o (yielded ops a.tmps) = true) (ho : o.op = .binOp .neq 29 x y u) (hx : a.eval x = fcV p) (hy : a.eval y = fcV q) (hp : p.blind < 2 ^ 128) (hq : q.blind < 2 ^ 128) (hb : (!decide (p = q)) = b)
  (hg : ∀ W, (eqGuard .neq 29 x y (fcV p) (fcV q)).run Tryz.prog W = .ok () W) : YieldsIf Tryz.prog ops S o (.bool b) a := by
 refine .inl ⟨hw, fun w hS => ?_⟩
 unfold execOp
 simp only [ho, hx, hy, Sem.run_bind, hg, zjd hp hq, Result.andThen_ok, Sem.run_pure, hb]
theorem zmm {ops : Array Oper} {S : World → Prop} {o : Oper} {a : Act} {x y : Operand} {p q : Nat} {u : TypeId} {b : Bool} (hw : Region.wanted o (yielded ops a.tmps) = true) (ho : o.op = .binOp .neq 25 x y u) (hx : a.eval x = dgV p) (hy : a.eval y = dgV q) (hp : p < 2 ^ 128) (hq : q < 2 ^ 128) (hb : (!decide (p = q)) = b)
  (hg : ∀ W, (eqGuard .neq 25 x y (dgV p) (dgV q)).run Tryz.prog W = .ok () W) : YieldsIf Tryz.prog ops S o (.bool b) a := by
 refine .inl ⟨hw, fun w hS => ?_⟩
 unfold execOp
 simp only [ho, hx, hy, Sem.run_bind, hg, z8o hp hq, Result.andThen_ok, Sem.run_pure, hb]
theorem zx1 {P : Program} {w : World} {ops : Array Oper} {rest : List Oper} {o : Oper} {a : Act} {Q : Exit → Act → World → Prop} (hgd : o.guard = none) {ty : TypeId} {x y : Operand} (ho : o.op = .store ty x y) {p : Addr} (hx : a.eval x = .pointer (some p)) {g j : Nat} (hp : p = ⟨g, j, none⟩)
  {T : TypeId} {cs : Array Value} {vs : List Value} (hy : a.eval y = .agg vs.toArray) (hb : Blk w g T cs) (hl : j + vs.length ≤ cs.size) (hi : (P.info? ty).map (·.size) = some vs.length) (h1 : ∀ v ∈ vs, v.oneCell' = true)
  (h : ∀ w', z0w g w w' → Blk w' g T (cs.toList.take j ++ vs ++ cs.toList.drop (j + vs.length)).toArray → wpList P ops Q rest (a.put o.dst undef) w') : wpList P ops Q (o :: rest) a w := by
 subst hp
 exact wpList_plain hgd fun K hK => za6 ho hx hy hb hl hi h1 rfl fun w' h2 h3 => hK _ _ (h w' h2 h3)
theorem zj8 (es : List EvR) (ss : List Bool) (n : Nat) (hl : es.length = n) (hn : n ≤ 12) (hf : z2s es) (r : LgR) (A2 : Option Addr) (W : World) (er : z03 r = lgW (z0e 0 0 (ye es)) yj (ye es).length (z3m ss (ye es).length)) (kr : z0j W r) (rr : z6t W A2 n (z46 (z0e 0 0 (ye es)) yj (ye es).length)) :
  z4k W r A2 (z0e 0 0 (ye es)) yj (z3m ss n) ∧ (z0e 0 0 (ye es)).length = n := by
 have h1 : (ye es).length = n := by rw [z1h, hl]
 have h2 : (z0e 0 0 (ye es)).length = n := by rw [z5v, h1]
 have hgr : z10 (z0e 0 0 (ye es)) := zes _ (by omega)
 rw [h1] at er rr
 refine ⟨⟨by rw [h2]; exact er, kr, by rw [h2]; exact rr, hgr, fun e he => ?_, fun c hc => by rw [h2]; exact zlc ss n c hc, by have := (zld ss n).2; omega⟩, h2⟩
 obtain ⟨j, hj, rfl⟩ := List.getElem_of_mem he
 have hj2 : j < es.length := by rw [z5v, z1h] at hj; exact hj
 obtain ⟨h3, h4⟩ := z8n (ye es) j (by rw [z1h]; exact hj2)
 rw [h4]
 have h5 := hgr.bound j (by omega)
 have h6 := hf _ (List.getElem_mem hj2)
 exact zen j _ _ (by omega) (by omega) (by simpa [ye] using h6.1) (by simpa [ye] using h6.2)
theorem zvv (es : List EvR) (i : Nat) (v : EvR) (hi : i < es.length) (hd : v.e.day = es[i].e.day) :
  ∃ e, z0e 0 0 (ye (es.set i v)) = (z0e 0 0 (ye es)).set i e ∧ ∀ c, z01 (z0e 0 0 (ye (es.set i v))) c = z01 (z0e 0 0 (ye es)) c := by
 have h0 : ye (es.set i v) = (ye es).set i v.e := by unfold ye; rw [List.map_set]
 obtain ⟨e, h1, h2⟩ := zj5 (ye es) 0 0 i v.e (by rw [z1h]; exact hi) (by rw [hd]; simp [ye])
 refine ⟨e, by rw [h0, h1], fun c => ?_⟩
 rw [h0, h1]
 exact zpa _ i e h2 c
theorem zts (ES : List Ev) (i : Nat) (e : Ev) (n : Nat) (hn : ES.length = n) (hi : i < n) (h : z22 ES yj i = z22 (ES.set i e) yj i) : (yn ES yj n).root = (yn (ES.set i e) yj n).root := by
 have h1 : i < ES.length := by omega
 have h2 : i < (ES.set i e).length := by rw [List.length_set]; omega
 rw [z7q ES yj i h1, z7q (ES.set i e) yj i h2, List.getElem_set_self] at h
 show root yj.nd yj.em (yo yj (ES.take n)) = root yj.nd yj.em (yo yj ((ES.set i e).take n))
 rw [List.take_of_length_le (by omega), List.take_of_length_le (by rw [List.length_set]; omega), zr8 yj ES i e h1 h]
theorem zpc (v : EvR) (y : Ev) (hw : z0v v.e) (hf : z1c v.e) (hy : z0v y) : z0v (z7p v v.e.kind v.e.commit y.day).e ∧ z1c (z7p v v.e.kind v.e.commit y.day).e := by
 have h3 := hw.nums
 have h4 := hy.nums
 refine ⟨⟨hw.vec, hw.attrs, fun z hz => ?_⟩, hf.vec, hf.attrs, hf.texts⟩
 simp only [List.mem_cons, List.not_mem_nil, or_false] at hz
 rcases hz with rfl | rfl | rfl | rfl | rfl | rfl | rfl
 ·exact h3 _ (by simp)
 ·exact h3 _ (by simp)
 ·exact h4 _ (by simp)
 ·exact h3 _ (by simp)
 ·exact h3 _ (by simp)
 ·exact h3 _ (by simp)
 ·exact h3 _ (by simp)
theorem zqc (es : List EvR) (i : Nat) (v : EvR) (hf : z2s es) (hv : z0v v.e ∧ z1c v.e) : z2s (es.set i v) := fun x hx => by
 rcases List.mem_or_eq_of_mem_set hx with h | h
 ·exact hf x h
 ·rw [h]; exact hv
theorem zv4 {W : World} {ES : List Ev} {s : ShR} {b j : Nat} (e : s.s = z2x yj ES b (j + 1)) (ks : z1y W s) (hb : b ≤ ES.length) (hl : ES.length ≤ 12) : s.n ≤ 1000 := by
 have h1 := ks.rd.len
 rw [e] at h1
 have h2 := Merk.incl_len yj.nd yj.em _ (yo yj (ES.take b)) (j + 1 - 1) (Nat.le_refl _)
 rw [z4w ES yj b hb] at h2
 have h3 : s.n = (incl yj.nd yj.em (yo yj (ES.take b)) (j + 1 - 1)).length := h1.symm
 omega
section
variable {W : World} {r r2 : LgR} {A A2 R : Option Addr} {ES ES2 : List Ev} {cs cs2 : List Nat} {rc n : Nat} (M : z4k W r A ES yj cs) (M2 : z4k W r2 A2 ES2 yj cs2) (hg : GCon W) (hr : RdK W R 1 [z11]) (h1 : ES.length = n) (h2 : ES2.length = n)
include M hg in
theorem zcl (i : Nat) (hi : i < ES.length) : ∃ h : i < r.es.length, Calls Tryz.prog 12 #[evV r.es[i]] W (z2t (z22 ES yj i) W) := by
 obtain ⟨h, he⟩ := M.evs i hi
 refine ⟨h, ?_⟩
 have hf := M.fineR _ (List.getElem_mem h)
 have := z99 lds r.es[i] W ((M.ok.ev).ok _ (List.getElem_mem h)) hf.1 hf.2 hg
 rwa [he, ← z7q ES yj i hi] at this
include M M2 hg hr h1 h2 in
theorem zrq (i : Nat) (hi : i < n) (s : ShR) (es' : s.s = z2x yj ES2 n (i + 1)) (ks : z1y W s) (ns : s.n ≤ 1000) :
  Calls Tryz.prog 44 #[.slice R 1 rc, rcV (z25 ES yj i), shV s] W (fun e w' => e = .returned (.bool (!decide (z22 ES yj i = z22 ES2 yj i))) ∧ Below W.heap.size W w') := by
 have := zja lds hg (rc := rc) hr M.fine M2.gr M2.fine i n (i + 1) (by omega) (by omega) (by omega) (by omega) s es' ks ns
 have h3 := znx yj M.gr M2.gr i (by omega) (by omega)
 rw [h2] at h3
 rwa [h3] at this
include M M2 hg hr h1 h2 in
theorem zrr (hd : z01 ES n = z01 ES2 n) :
  Calls Tryz.prog 46 #[.slice R 1 rc, hdV (yn ES yj n), hdV (yn ES2 yj n)] W (fun e w' => e = .returned (.bool (!decide ((yn ES yj n).root = (yn ES2 yj n).root))) ∧ Below W.heap.size W w') := by
 have := zer lds [z11] R 1 rc (yn ES yj n) (yn ES2 yj n) W (by omega) hr z5g.1 z5g.2 (z7r M.gr n (by omega)) (z7r M2.gr n (by omega)) (z5r lds n) (z5r lds n) hg
 rwa [znw yj M.gr M2.gr n h1.symm h2.symm hd] at this
end
def z79 (n : Nat) : Code → Option Code
 | .region m x y => match Nat.beq m n with
  | true => some (.region m x y)
  | false => none
 | .seq a b => match z79 n a with
  | some c => some c
  | none => z79 n b
 | .loop c => z79 n c
 | .block _ c => z79 n c
 | .scope c => z79 n c
 | .cond _ a b => match z79 n a with
  | some c => some c
  | none => z79 n b
 | _ => none
noncomputable def lr25 : Code := ((Tryz.f8.body.bind (z79 25)).getD .skip)
noncomputable def lr26 : Code := ((Tryz.f8.body.bind (z79 26)).getD .skip)
theorem zp3 {Q0 : Exit → Act → World → Prop} {wr : World} {g12 g15 i n ec ec2 : Nat} {ad ad2 : Addr} {e1 e2 : EvR} {f1 f2 : Fc} (x1 : wr.cell? ⟨g12, 1, none⟩ = some (.slice (some ad) n ec)) (x2 : wr.cell? ⟨g15, 1, none⟩ = some (.slice (some ad2) n ec2))
  (hc1 : ∀ j u, (evL e1)[j]? = some u → wr.cell? ((ad.add (i * 25)).add j) = some u) (hc2 : ∀ j u, (evL e2)[j]? = some u → wr.cell? ((ad2.add (i * 25)).add j) = some u) (hi : i < n) (hn : n ≤ 12)
  (F1 : ∀ W, Below wr.heap.size wr W → Calls Tryz.prog 12 #[evV e1] W (z2t f1 W)) (F2 : ∀ W, Below wr.heap.size wr W → Calls Tryz.prog 12 #[evV e2] W (z2t f2 W)) (hf1 : f1.blind < 2 ^ 128) (hf2 : f2.blind < 2 ^ 128)
  {u0 u1 u2 u3 u4 u5 u6 u7 u8 u9 u11 u13 u14 u16 u17 u18 u19 u20 u21 u22 u23 u24 u25 u26 u27 u28 u29 u30 u31 u32 u33 u34 u35 u36 u37 u38 u39 u40 u41 u42 u43 u44 u45 u46 u47 u48 u49 u50 u51 u52 u53 u54 u55 u56 u57 u58 u59 u60 u61 u62 u63 u64 u65 u66 u67 u68 u69 u70 u71 u72 u73 u74 u75 u76 u77 u78 u79 u80 u81 u82 u83 u84 u85 u86 u87 u88 u89 u90 u91 u92 u93 u94 u95 u96 u97 u98 u99 u100 u101 u102 u103 u104 u105 u106 u107 u108 u109 u110 u111 u112 u113 u114 u115 u116 u117 u118 u119 u120 u121 u122 u123 u124 u125 u126 u127 u128 u129 u130 u131 u132 u133 u134 u135 u136 u137 u138 u139 u140 u141 u142 u143 u144 u145 u146 u147 u148 u149 u150 u151 u152 u153 u154 u155 u156 u157 u158 u159 u160 u161 u162 u163 u164 u165 u166 u167 u168 u169 u170 u171 u172 u173 u174 u175 u176 u177 u178 u179 u180 u181 u182 u183 u184 u185 u186 u187 u188 u189 u190 : Value}
  (hpan : ∀ (c : List PanicEntry) (d : Option Tmp) (v : Value) (x : Act) (z : World), Q0 (.panic c) (x.put d v) z → Q0 (.panic c) x z)
  (hexit : ∀ (v144 v145 v146 v147 v148 v149 v150 v151 v152 v153 v154 v155 v156 : Value) (W : World), Below wr.heap.size wr W → Q0 .normal ⟨List.toArray (u0 :: u1 :: u2 :: u3 :: u4 :: u5 :: u6 :: u7 :: u8 :: u9 :: (.int .i64 (i : Int)) :: u11 :: (.pointer (some ⟨g12, 0, none⟩)) :: u13 :: u14 :: (.pointer (some ⟨g15, 0, none⟩)) :: u16 :: u17 :: u18 :: u19 :: u20 :: u21 :: u22 :: (.bool (!decide (f1 = f2))) :: u24 :: u25 :: u26 :: u27 :: u28 :: u29 :: u30 :: u31 :: u32 :: u33 :: u34 :: u35 :: u36 :: u37 :: u38 :: u39 :: u40 :: u41 :: u42 :: u43 :: u44 :: u45 :: u46 :: u47 :: u48 :: u49 :: u50 :: u51 :: u52 :: u53 :: u54 :: u55 :: u56 :: u57 :: u58 :: u59 :: u60 :: u61 :: u62 :: u63 :: u64 :: u65 :: u66 :: u67 :: u68 :: u69 :: u70 :: u71 :: u72 :: u73 :: u74 :: u75 :: u76 :: u77 :: u78 :: u79 :: u80 :: u81 :: u82 :: u83 :: u84 :: u85 :: u86 :: u87 :: u88 :: u89 :: u90 :: u91 :: u92 :: u93 :: u94 :: u95 :: u96 :: u97 :: u98 :: u99 :: u100 :: u101 :: u102 :: u103 :: u104 :: u105 :: u106 :: u107 :: u108 :: u109 :: u110 :: u111 :: u112 :: u113 :: u114 :: u115 :: u116 :: u117 :: u118 :: u119 :: u120 :: u121 :: u122 :: u123 :: u124 :: u125 :: u126 :: u127 :: u128 :: u129 :: u130 :: u131 :: u132 :: u133 :: u134 :: u135 :: u136 :: u137 :: u138 :: u139 :: u140 :: u141 :: u142 :: u143 :: v144 :: v145 :: v146 :: v147 :: v148 :: v149 :: v150 :: v151 :: v152 :: v153 :: v154 :: v155 :: v156 :: u157 :: u158 :: u159 :: u160 :: u161 :: u162 :: u163 :: u164 :: u165 :: u166 :: u167 :: u168 :: u169 :: u170 :: u171 :: u172 :: u173 :: u174 :: u175 :: u176 :: u177 :: u178 :: u179 :: u180 :: u181 :: u182 :: u183 :: u184 :: u185 :: u186 :: u187 :: u188 :: u189 :: u190 :: []), []⟩ W) :
  Code.wp Tryz.prog lr25 Q0 ⟨List.toArray (u0 :: u1 :: u2 :: u3 :: u4 :: u5 :: u6 :: u7 :: u8 :: u9 :: (.int .i64 (i : Int)) :: u11 :: (.pointer (some ⟨g12, 0, none⟩)) :: u13 :: u14 :: (.pointer (some ⟨g15, 0, none⟩)) :: u16 :: u17 :: u18 :: u19 :: u20 :: u21 :: u22 :: u23 :: u24 :: u25 :: u26 :: u27 :: u28 :: u29 :: u30 :: u31 :: u32 :: u33 :: u34 :: u35 :: u36 :: u37 :: u38 :: u39 :: u40 :: u41 :: u42 :: u43 :: u44 :: u45 :: u46 :: u47 :: u48 :: u49 :: u50 :: u51 :: u52 :: u53 :: u54 :: u55 :: u56 :: u57 :: u58 :: u59 :: u60 :: u61 :: u62 :: u63 :: u64 :: u65 :: u66 :: u67 :: u68 :: u69 :: u70 :: u71 :: u72 :: u73 :: u74 :: u75 :: u76 :: u77 :: u78 :: u79 :: u80 :: u81 :: u82 :: u83 :: u84 :: u85 :: u86 :: u87 :: u88 :: u89 :: u90 :: u91 :: u92 :: u93 :: u94 :: u95 :: u96 :: u97 :: u98 :: u99 :: u100 :: u101 :: u102 :: u103 :: u104 :: u105 :: u106 :: u107 :: u108 :: u109 :: u110 :: u111 :: u112 :: u113 :: u114 :: u115 :: u116 :: u117 :: u118 :: u119 :: u120 :: u121 :: u122 :: u123 :: u124 :: u125 :: u126 :: u127 :: u128 :: u129 :: u130 :: u131 :: u132 :: u133 :: u134 :: u135 :: u136 :: u137 :: u138 :: u139 :: u140 :: u141 :: u142 :: u143 :: u144 :: u145 :: u146 :: u147 :: u148 :: u149 :: u150 :: u151 :: u152 :: u153 :: u154 :: u155 :: u156 :: u157 :: u158 :: u159 :: u160 :: u161 :: u162 :: u163 :: u164 :: u165 :: u166 :: u167 :: u168 :: u169 :: u170 :: u171 :: u172 :: u173 :: u174 :: u175 :: u176 :: u177 :: u178 :: u179 :: u180 :: u181 :: u182 :: u183 :: u184 :: u185 :: u186 :: u187 :: u188 :: u189 :: u190 :: []), []⟩ wr := by
 have HX := ya hexit
 have HF1 := ya F1
 have HF2 := ya F2
 have hl1 := z20 e1
 have hl2 := z20 e2
 unfold z2t at HF1 HF2
 clear hexit F1 F2
 conv => arg 2; whnf
 have hS : Below wr.heap.size wr wr.drew := (Below.refl _ _).drew
 refine yz 13 (by kernel_rfl) ?_
 refine WpT.tq 0 rfl (fun c a w h => hpan _ _ _ _ _ h) (hS) ?_
 simp only [nrm]
 refine WpT.take (i := 1) rfl (by kernel_rfl) (fun c a w h => hpan _ _ _ _ _ h) (yh rfl rfl rfl (by kernel_rfl) x1) (hS) ?_
 simp only [nrm]
 refine WpT.tq 2 rfl (fun c a w h => hpan _ _ _ _ _ h) (hS) ?_
 simp only [nrm]
 refine WpT.tq 3 rfl (fun c a w h => hpan _ _ _ _ _ h) (hS) ?_
 simp only [nrm]
 refine WpT.take (i := 4) rfl (by kernel_rfl) (fun c a w h => hpan _ _ _ _ _ h) (z0k (us := evL e1) rfl rfl rfl z23 (by rw [z1m, hl1]) hc1) (hS) ?_
 simp only [nrm]
 refine WpT.tq 6 rfl (fun c a w h => hpan _ _ _ _ _ h) (hS) ?_
 simp only [nrm]
 refine WpT.take (i := 7) rfl (by kernel_rfl) (fun c a w h => hpan _ _ _ _ _ h) (yh rfl rfl rfl (by kernel_rfl) x2) (hS) ?_
 simp only [nrm]
 refine WpT.tq 8 rfl (fun c a w h => hpan _ _ _ _ _ h) (hS) ?_
 simp only [nrm]
 refine WpT.tq 9 rfl (fun c a w h => hpan _ _ _ _ _ h) (hS) ?_
 simp only [nrm]
 refine WpT.take (i := 10) rfl (by kernel_rfl) (fun c a w h => hpan _ _ _ _ _ h) (z0k (us := evL e2) rfl rfl rfl z23 (by rw [z1m, hl2]) hc2) (hS) ?_
 simp only [nrm]
 refine WpT.on 5 rfl (fun K hK => ?_)
 go_simp; refine (HF1.out _ hS).mono ?_; rintro e w5 ⟨rfl, hb5⟩; replace hS := yb hS hb5
 refine hK _ _ hS ?_; clear hK K; try simp only [nrm]
 refine WpT.on 11 rfl (fun K hK => ?_)
 go_simp; refine (HF2.out _ hS).mono ?_; rintro e w6 ⟨rfl, hb6⟩; replace hS := yb hS hb6
 refine hK _ _ hS ?_; clear hK K; try simp only [nrm]
 refine WpT.take (i := 12) rfl (by kernel_rfl) (fun c a w h => hpan _ _ _ _ _ h) (zxf (by rfl) rfl rfl rfl hf1 hf2 rfl (fun W => by kernel_rfl)) (hS) ?_
 simp only [nrm]
 refine WpT.ta 13 rfl (fun K hK => ?_)
 go_simp; (try go_bits)
 refine hK _ _ ?_; clear hK K; try simp only [nrm]
 refine WpT.done (by kernel_rfl) ?_ _
 exact HX.out _ _ _ _ _ _ _ _ _ _ _ _ _ _ hS
theorem zp4 {Q0 : Exit → Act → World → Prop} {wr : World} {g19 g20 g21 gk i n c2 : Nat} {adr : Addr} {hd1 hd2 : Hd} {rq : Rc} {s : ShR} {D R : Bool} (hnc : n ≤ c2) (hcm : c2 ≤ maxLen) (b19 : Blk wr g19 51 (hdC hd1)) (b20 : Blk wr g20 51 (hdC hd2)) (b21 : Blk wr g21 63 (shC s)) (ks : z1y wr s)
  (hcr : ∀ j u, (rcL rq)[j]? = some u → wr.cell? ((adr.add (i * 41)).add j) = some u) (hi : i < n) (hn : n ≤ 12) (hl1 : hd1.root < 2 ^ 128) (hl2 : hd2.root < 2 ^ 128)
  (SA : ∀ W, Below wr.heap.size wr W → Calls Tryz.prog 11 #[] W (BIs true W))
  (RF : ∀ W, Below wr.heap.size wr W → z1y W s → Calls Tryz.prog 44 #[.slice (some ⟨gk, 0, none⟩) 1 1, rcV rq, shV s] W (fun e w' => e = .returned (.bool D) ∧ Below W.heap.size W w'))
  (FK : ∀ W, Below wr.heap.size wr W → Calls Tryz.prog 46 #[.slice (some ⟨gk, 0, none⟩) 1 1, hdV hd1, hdV hd2] W (fun e w' => e = .returned (.bool R) ∧ Below W.heap.size W w'))
  (hR : (!decide (hd1.root = hd2.root)) = R) (hD : D = false → hd1.root = hd2.root)
  {u0 u1 u2 u3 u4 u5 u6 u7 u8 u9 u11 u12 u14 u15 u16 u17 u22 u24 u25 u26 u27 u28 u29 u30 u31 u32 u33 u34 u35 u36 u37 u38 u39 u40 u41 u42 u43 u44 u45 u46 u47 u48 u49 u50 u51 u52 u53 u54 u55 u56 u57 u58 u59 u60 u61 u62 u63 u64 u65 u66 u67 u68 u69 u70 u71 u72 u73 u74 u75 u76 u77 u78 u79 u80 u81 u82 u83 u84 u85 u86 u87 u88 u89 u90 u91 u92 u93 u94 u95 u96 u97 u98 u99 u100 u101 u102 u103 u104 u105 u106 u107 u108 u109 u110 u111 u112 u113 u114 u115 u116 u117 u118 u119 u120 u121 u122 u123 u124 u125 u126 u127 u128 u129 u130 u131 u132 u133 u134 u135 u136 u137 u138 u139 u140 u141 u142 u143 u144 u145 u146 u147 u148 u149 u150 u151 u152 u153 u154 u155 u156 u157 u158 u159 u160 u161 u162 u163 u164 u165 u166 u167 u168 u169 u170 u171 u172 u173 u174 u175 u176 u177 u178 u179 u180 u181 u182 u183 u184 u185 u186 u187 u188 u189 u190 : Value}
  (hpan : ∀ (c : List PanicEntry) (d : Option Tmp) (v : Value) (x : Act) (z : World), Q0 (.panic c) (x.put d v) z → Q0 (.panic c) x z)
  (hexit : ∀ (v157 v158 v159 v160 v161 v162 v163 v164 v165 v166 v167 v168 v169 v170 v171 v172 v173 v174 v175 v176 v177 v178 v179 v180 v181 v182 v183 v184 v185 v186 v187 v188 v189 v190 : Value) (W : World), Below wr.heap.size wr W → Q0 .normal ⟨List.toArray (u0 :: u1 :: u2 :: u3 :: u4 :: u5 :: (.bool true) :: u7 :: u8 :: u9 :: (.int .i64 (i : Int)) :: u11 :: u12 :: (.slice (some adr) n c2) :: u14 :: u15 :: u16 :: u17 :: (.slice (some ⟨gk, 0, none⟩) 1 1) :: (.pointer (some ⟨g19, 0, none⟩)) :: (.pointer (some ⟨g20, 0, none⟩)) :: (.pointer (some ⟨g21, 0, none⟩)) :: u22 :: (.bool D) :: u24 :: u25 :: u26 :: u27 :: u28 :: u29 :: u30 :: u31 :: u32 :: u33 :: u34 :: u35 :: u36 :: u37 :: u38 :: u39 :: u40 :: u41 :: u42 :: u43 :: u44 :: u45 :: u46 :: u47 :: u48 :: u49 :: u50 :: u51 :: u52 :: u53 :: u54 :: u55 :: u56 :: u57 :: u58 :: u59 :: u60 :: u61 :: u62 :: u63 :: u64 :: u65 :: u66 :: u67 :: u68 :: u69 :: u70 :: u71 :: u72 :: u73 :: u74 :: u75 :: u76 :: u77 :: u78 :: u79 :: u80 :: u81 :: u82 :: u83 :: u84 :: u85 :: u86 :: u87 :: u88 :: u89 :: u90 :: u91 :: u92 :: u93 :: u94 :: u95 :: u96 :: u97 :: u98 :: u99 :: u100 :: u101 :: u102 :: u103 :: u104 :: u105 :: u106 :: u107 :: u108 :: u109 :: u110 :: u111 :: u112 :: u113 :: u114 :: u115 :: u116 :: u117 :: u118 :: u119 :: u120 :: u121 :: u122 :: u123 :: u124 :: u125 :: u126 :: u127 :: u128 :: u129 :: u130 :: u131 :: u132 :: u133 :: u134 :: u135 :: u136 :: u137 :: u138 :: u139 :: u140 :: u141 :: u142 :: u143 :: u144 :: u145 :: u146 :: u147 :: u148 :: u149 :: u150 :: u151 :: u152 :: u153 :: u154 :: u155 :: u156 :: v157 :: v158 :: v159 :: v160 :: v161 :: v162 :: v163 :: v164 :: v165 :: v166 :: v167 :: v168 :: v169 :: v170 :: v171 :: v172 :: v173 :: v174 :: v175 :: v176 :: v177 :: v178 :: v179 :: v180 :: v181 :: v182 :: v183 :: v184 :: v185 :: v186 :: v187 :: v188 :: v189 :: v190 :: []), []⟩ W) :
  Code.wp Tryz.prog lr26 Q0 ⟨List.toArray (u0 :: u1 :: u2 :: u3 :: u4 :: u5 :: u6 :: u7 :: u8 :: u9 :: (.int .i64 (i : Int)) :: u11 :: u12 :: (.slice (some adr) n c2) :: u14 :: u15 :: u16 :: u17 :: (.slice (some ⟨gk, 0, none⟩) 1 1) :: (.pointer (some ⟨g19, 0, none⟩)) :: (.pointer (some ⟨g20, 0, none⟩)) :: (.pointer (some ⟨g21, 0, none⟩)) :: u22 :: (.bool D) :: u24 :: u25 :: u26 :: u27 :: u28 :: u29 :: u30 :: u31 :: u32 :: u33 :: u34 :: u35 :: u36 :: u37 :: u38 :: u39 :: u40 :: u41 :: u42 :: u43 :: u44 :: u45 :: u46 :: u47 :: u48 :: u49 :: u50 :: u51 :: u52 :: u53 :: u54 :: u55 :: u56 :: u57 :: u58 :: u59 :: u60 :: u61 :: u62 :: u63 :: u64 :: u65 :: u66 :: u67 :: u68 :: u69 :: u70 :: u71 :: u72 :: u73 :: u74 :: u75 :: u76 :: u77 :: u78 :: u79 :: u80 :: u81 :: u82 :: u83 :: u84 :: u85 :: u86 :: u87 :: u88 :: u89 :: u90 :: u91 :: u92 :: u93 :: u94 :: u95 :: u96 :: u97 :: u98 :: u99 :: u100 :: u101 :: u102 :: u103 :: u104 :: u105 :: u106 :: u107 :: u108 :: u109 :: u110 :: u111 :: u112 :: u113 :: u114 :: u115 :: u116 :: u117 :: u118 :: u119 :: u120 :: u121 :: u122 :: u123 :: u124 :: u125 :: u126 :: u127 :: u128 :: u129 :: u130 :: u131 :: u132 :: u133 :: u134 :: u135 :: u136 :: u137 :: u138 :: u139 :: u140 :: u141 :: u142 :: u143 :: u144 :: u145 :: u146 :: u147 :: u148 :: u149 :: u150 :: u151 :: u152 :: u153 :: u154 :: u155 :: u156 :: u157 :: u158 :: u159 :: u160 :: u161 :: u162 :: u163 :: u164 :: u165 :: u166 :: u167 :: u168 :: u169 :: u170 :: u171 :: u172 :: u173 :: u174 :: u175 :: u176 :: u177 :: u178 :: u179 :: u180 :: u181 :: u182 :: u183 :: u184 :: u185 :: u186 :: u187 :: u188 :: u189 :: u190 :: []), []⟩ wr := by
 have HX := ya hexit
 have HSA := ya SA
 have HRF := ya RF
 have HFK := ya FK
 have HKS := ya ks
 have h36a := z24 hd1
 have h36b := z24 hd2
 have h41 := z52 rq
 have h60 := z9v s
 have x19 := yy (xs := hdL hd1) b19
 have x20 := yy (xs := hdL hd2) b20
 have x21 := yy (xs := shL s) b21
 have y19 := z37 b19
 have y20 := z37 b20
 have h16a := z09 hd1.root
 have h16b := z09 hd2.root
 unfold BIs at HSA
 clear hexit SA RF FK ks b19 b20 b21
 cases D
 case false =>
  have he : decide (hd1.root = hd2.root) = true := decide_eq_true (hD rfl)
  have hR2 : (!decide (hd1.root = hd2.root)) = false := by rw [he]; rfl
  obtain rfl : R = false := by rw [← hR, hR2]
  have HE := ya he
  have HR := ya hR2
  clear he hR hR2 hD
  conv => arg 2; whnf
  have hS : Below wr.heap.size wr wr.drew := (Below.refl _ _).drew
  refine yz 34 (by kernel_rfl) ?_
  refine WpT.on 0 rfl (fun K hK => ?_)
  go_simp; refine (HSA.out _ hS).mono ?_; rintro e w1 ⟨rfl, hb1⟩; replace hS := yb hS hb1
  refine hK _ _ hS ?_; clear hK K; try simp only [nrm]
  refine WpT.tq 1 rfl (fun c a w h => hpan _ _ _ _ _ h) (hS) ?_
  simp only [nrm]
  refine WpT.tq 2 rfl (fun c a w h => hpan _ _ _ _ _ h) (hS) ?_
  simp only [nrm]
  refine WpT.tq 3 rfl (fun c a w h => hpan _ _ _ _ _ h) (hS) ?_
  simp only [nrm]
  refine WpT.tq 4 rfl (fun c a w h => hpan _ _ _ _ _ h) (hS) ?_
  simp only [nrm]
  refine WpT.tq 5 rfl (fun c a w h => hpan _ _ _ _ _ h) (hS) ?_
  simp only [nrm]
  refine WpT.take (i := 6) rfl (by kernel_rfl) (fun c a w h => hpan _ _ _ _ _ h) (z1w (us := rcL rq) (by rfl) rfl rfl z36 (by rw [z1n, h41]) hcr) (hS) ?_
  simp only [nrm]
  refine WpT.take (i := 7) rfl (by kernel_rfl) (fun c a w h => hpan _ _ _ _ _ h) (z1w (us := shL s) (by rfl) rfl rfl z42 (by rw [z2i, h60]) x21) (hS) ?_
  simp only [nrm]
  refine WpT.tq 9 rfl (fun c a w h => hpan _ _ _ _ _ h) (hS) ?_
  simp only [nrm]
  refine WpT.on 8 rfl (fun K hK => ?_)
  go_simp; refine (HRF.out _ hS (HKS.out.below hS)).mono ?_; rintro e w2 ⟨rfl, hb2⟩; replace hS := yb hS hb2
  refine hK _ _ hS ?_; clear hK K; try simp only [nrm]
  refine WpT.take (i := 10) rfl (by kernel_rfl) (fun c a w h => hpan _ _ _ _ _ h) (zdn (by rfl) rfl rfl rfl (fun W => by kernel_rfl)) (hS) ?_
  simp only [nrm]
  refine WpT.tq 11 rfl (fun c a w h => hpan _ _ _ _ _ h) (hS) ?_
  simp only [nrm]
  refine WpT.tq 12 rfl (fun c a w h => hpan _ _ _ _ _ h) (hS) ?_
  simp only [nrm]
  refine WpT.tq 13 rfl (fun c a w h => hpan _ _ _ _ _ h) (hS) ?_
  simp only [nrm]
  refine WpT.take (i := 14) rfl (by kernel_rfl) (fun c a w h => hpan _ _ _ _ _ h) (z1w (us := hdL hd1) (by rfl) rfl rfl z00 (by rw [ym, h36a]) x19) (hS) ?_
  simp only [nrm]
  refine WpT.take (i := 15) rfl (by kernel_rfl) (fun c a w h => hpan _ _ _ _ _ h) (z1w (us := hdL hd2) (by rfl) rfl rfl z00 (by rw [ym, h36b]) x20) (hS) ?_
  simp only [nrm]
  refine WpT.tq 17 rfl (fun c a w h => hpan _ _ _ _ _ h) (hS) ?_
  simp only [nrm]
  refine WpT.take (i := 18) rfl (by kernel_rfl) (fun c a w h => hpan _ _ _ _ _ h) (z1w (us := bv (dg hd1.root)) (by rfl) rfl rfl yu (by rw [yf, h16a]) y19) (hS) ?_
  simp only [nrm]
  refine WpT.tq 19 rfl (fun c a w h => hpan _ _ _ _ _ h) (hS) ?_
  simp only [nrm]
  refine WpT.take (i := 20) rfl (by kernel_rfl) (fun c a w h => hpan _ _ _ _ _ h) (z1w (us := bv (dg hd2.root)) (by rfl) rfl rfl yu (by rw [yf, h16b]) y20) (hS) ?_
  simp only [nrm]
  refine WpT.take (i := 21) rfl (by kernel_rfl) (fun c a w h => hpan _ _ _ _ _ h) (zmm (by rfl) rfl rfl rfl hl1 hl2 HR.out (fun W => by kernel_rfl)) (hS) ?_
  simp only [nrm]
  refine WpT.on 16 rfl (fun K hK => ?_)
  go_simp; refine (HFK.out _ hS).mono ?_; rintro e w3 ⟨rfl, hb3⟩; replace hS := yb hS hb3
  refine hK _ _ hS ?_; clear hK K; try simp only [nrm]
  refine WpT.take (i := 22) rfl (by kernel_rfl) (fun c a w h => hpan _ _ _ _ _ h) (zdn (by rfl) rfl rfl rfl (fun W => by kernel_rfl)) (hS) ?_
  simp only [nrm]
  refine WpT.tq 23 rfl (fun c a w h => hpan _ _ _ _ _ h) (hS) ?_
  simp only [nrm]
  refine WpT.tq 24 rfl (fun c a w h => hpan _ _ _ _ _ h) (hS) ?_
  simp only [nrm]
  refine WpT.tq 25 rfl (fun c a w h => hpan _ _ _ _ _ h) (hS) ?_
  simp only [nrm]
  refine WpT.tq 26 rfl (fun c a w h => hpan _ _ _ _ _ h) (hS) ?_
  simp only [nrm]
  refine WpT.tq 27 rfl (fun c a w h => hpan _ _ _ _ _ h) (hS) ?_
  simp only [nrm]
  refine WpT.take (i := 28) rfl (by kernel_rfl) (fun c a w h => hpan _ _ _ _ _ h) (z1w (us := bv (dg hd1.root)) (by rfl) rfl rfl yu (by rw [yf, h16a]) y19) (hS) ?_
  simp only [nrm]
  refine WpT.tq 29 rfl (fun c a w h => hpan _ _ _ _ _ h) (hS) ?_
  simp only [nrm]
  refine WpT.take (i := 30) rfl (by kernel_rfl) (fun c a w h => hpan _ _ _ _ _ h) (z1w (us := bv (dg hd2.root)) (by rfl) rfl rfl yu (by rw [yf, h16b]) y20) (hS) ?_
  simp only [nrm]
  refine WpT.take (i := 31) rfl (by kernel_rfl) (fun c a w h => hpan _ _ _ _ _ h) (zxd (by rfl) rfl rfl rfl hl1 hl2 HE.out (fun W => by kernel_rfl)) (hS) ?_
  simp only [nrm]
  refine WpT.tq 32 rfl (fun c a w h => hpan _ _ _ _ _ h) (hS) ?_
  simp only [nrm]
  refine WpT.tq 33 rfl (fun c a w h => hpan _ _ _ _ _ h) (hS) ?_
  simp only [nrm]
  refine WpT.ta 34 rfl (fun K hK => ?_)
  go_simp; (try go_bits)
  refine hK _ _ ?_; clear hK K; try simp only [nrm]
  refine WpT.done (by kernel_rfl) ?_ _
  exact HX.out _ _ _ _ _ _ _ _ _ _ _ _ _ _ _ _ _ _ _ _ _ _ _ _ _ _ _ _ _ _ _ _ _ _ _ hS
 case true =>
  have HR := ya hR
  clear hR hD
  conv => arg 2; whnf
  have hS : Below wr.heap.size wr wr.drew := (Below.refl _ _).drew
  refine yz 34 (by kernel_rfl) ?_
  refine WpT.on 0 rfl (fun K hK => ?_)
  go_simp; refine (HSA.out _ hS).mono ?_; rintro e w1 ⟨rfl, hb1⟩; replace hS := yb hS hb1
  refine hK _ _ hS ?_; clear hK K; try simp only [nrm]
  refine WpT.tq 1 rfl (fun c a w h => hpan _ _ _ _ _ h) (hS) ?_
  simp only [nrm]
  refine WpT.tq 2 rfl (fun c a w h => hpan _ _ _ _ _ h) (hS) ?_
  simp only [nrm]
  refine WpT.tq 3 rfl (fun c a w h => hpan _ _ _ _ _ h) (hS) ?_
  simp only [nrm]
  refine WpT.tq 4 rfl (fun c a w h => hpan _ _ _ _ _ h) (hS) ?_
  simp only [nrm]
  refine WpT.tq 5 rfl (fun c a w h => hpan _ _ _ _ _ h) (hS) ?_
  simp only [nrm]
  refine WpT.take (i := 6) rfl (by kernel_rfl) (fun c a w h => hpan _ _ _ _ _ h) (z1w (us := rcL rq) (by rfl) rfl rfl z36 (by rw [z1n, h41]) hcr) (hS) ?_
  simp only [nrm]
  refine WpT.take (i := 7) rfl (by kernel_rfl) (fun c a w h => hpan _ _ _ _ _ h) (z1w (us := shL s) (by rfl) rfl rfl z42 (by rw [z2i, h60]) x21) (hS) ?_
  simp only [nrm]
  refine WpT.tq 9 rfl (fun c a w h => hpan _ _ _ _ _ h) (hS) ?_
  simp only [nrm]
  refine WpT.on 8 rfl (fun K hK => ?_)
  go_simp; refine (HRF.out _ hS (HKS.out.below hS)).mono ?_; rintro e w2 ⟨rfl, hb2⟩; replace hS := yb hS hb2
  refine hK _ _ hS ?_; clear hK K; try simp only [nrm]
  refine WpT.take (i := 10) rfl (by kernel_rfl) (fun c a w h => hpan _ _ _ _ _ h) (zdn (by rfl) rfl rfl rfl (fun W => by kernel_rfl)) (hS) ?_
  simp only [nrm]
  refine WpT.tq 11 rfl (fun c a w h => hpan _ _ _ _ _ h) (hS) ?_
  simp only [nrm]
  refine WpT.tq 12 rfl (fun c a w h => hpan _ _ _ _ _ h) (hS) ?_
  simp only [nrm]
  refine WpT.tq 13 rfl (fun c a w h => hpan _ _ _ _ _ h) (hS) ?_
  simp only [nrm]
  refine WpT.take (i := 14) rfl (by kernel_rfl) (fun c a w h => hpan _ _ _ _ _ h) (z1w (us := hdL hd1) (by rfl) rfl rfl z00 (by rw [ym, h36a]) x19) (hS) ?_
  simp only [nrm]
  refine WpT.take (i := 15) rfl (by kernel_rfl) (fun c a w h => hpan _ _ _ _ _ h) (z1w (us := hdL hd2) (by rfl) rfl rfl z00 (by rw [ym, h36b]) x20) (hS) ?_
  simp only [nrm]
  refine WpT.tq 17 rfl (fun c a w h => hpan _ _ _ _ _ h) (hS) ?_
  simp only [nrm]
  refine WpT.take (i := 18) rfl (by kernel_rfl) (fun c a w h => hpan _ _ _ _ _ h) (z1w (us := bv (dg hd1.root)) (by rfl) rfl rfl yu (by rw [yf, h16a]) y19) (hS) ?_
  simp only [nrm]
  refine WpT.tq 19 rfl (fun c a w h => hpan _ _ _ _ _ h) (hS) ?_
  simp only [nrm]
  refine WpT.take (i := 20) rfl (by kernel_rfl) (fun c a w h => hpan _ _ _ _ _ h) (z1w (us := bv (dg hd2.root)) (by rfl) rfl rfl yu (by rw [yf, h16b]) y20) (hS) ?_
  simp only [nrm]
  refine WpT.take (i := 21) rfl (by kernel_rfl) (fun c a w h => hpan _ _ _ _ _ h) (zmm (by rfl) rfl rfl rfl hl1 hl2 HR.out (fun W => by kernel_rfl)) (hS) ?_
  simp only [nrm]
  refine WpT.on 16 rfl (fun K hK => ?_)
  go_simp; refine (HFK.out _ hS).mono ?_; rintro e w3 ⟨rfl, hb3⟩; replace hS := yb hS hb3
  refine hK _ _ hS ?_; clear hK K; try simp only [nrm]
  refine WpT.take (i := 22) rfl (by kernel_rfl) (fun c a w h => hpan _ _ _ _ _ h) (zdn (by rfl) rfl rfl rfl (fun W => by kernel_rfl)) (hS) ?_
  simp only [nrm]
  refine WpT.tq 23 rfl (fun c a w h => hpan _ _ _ _ _ h) (hS) ?_
  simp only [nrm]
  refine WpT.tq 24 rfl (fun c a w h => hpan _ _ _ _ _ h) (hS) ?_
  simp only [nrm]
  refine WpT.tq 25 rfl (fun c a w h => hpan _ _ _ _ _ h) (hS) ?_
  simp only [nrm]
  refine WpT.tq 26 rfl (fun c a w h => hpan _ _ _ _ _ h) (hS) ?_
  simp only [nrm]
  refine WpT.take (i := 27) rfl (by kernel_rfl) (fun c a w h => hpan _ _ _ _ _ h) (.inr ⟨by rfl, rfl⟩) (hS) ?_
  simp only [nrm]
  refine WpT.take (i := 28) rfl (by kernel_rfl) (fun c a w h => hpan _ _ _ _ _ h) (.inr ⟨by rfl, rfl⟩) (hS) ?_
  simp only [nrm]
  refine WpT.take (i := 29) rfl (by kernel_rfl) (fun c a w h => hpan _ _ _ _ _ h) (.inr ⟨by rfl, rfl⟩) (hS) ?_
  simp only [nrm]
  refine WpT.take (i := 30) rfl (by kernel_rfl) (fun c a w h => hpan _ _ _ _ _ h) (.inr ⟨by rfl, rfl⟩) (hS) ?_
  simp only [nrm]
  refine WpT.take (i := 31) rfl (by kernel_rfl) (fun c a w h => hpan _ _ _ _ _ h) (.inr ⟨by rfl, rfl⟩) (hS) ?_
  simp only [nrm]
  refine WpT.tq 32 rfl (fun c a w h => hpan _ _ _ _ _ h) (hS) ?_
  simp only [nrm]
  refine WpT.tq 33 rfl (fun c a w h => hpan _ _ _ _ _ h) (hS) ?_
  simp only [nrm]
  refine WpT.ta 34 rfl (fun K hK => ?_)
  go_simp; (try go_bits)
  refine hK _ _ ?_; clear hK K; try simp only [nrm]
  refine WpT.done (by kernel_rfl) ?_ _
  exact HX.out _ _ _ _ _ _ _ _ _ _ _ _ _ _ _ _ _ _ _ _ _ _ _ _ _ _ _ _ _ _ _ _ _ _ _ hS
theorem walkLedgerConvicts (A : Option Addr) (n c : Nat) (es : List EvR) (q : Int) (v : EvR) (w : World) (hnc : n ≤ c) (hcm : c ≤ maxLen) (hl : z3n w A n es) (hwf : ∀ r ∈ es, z0v r.e) (f1 : (Lit.int .u8 q).wf = true) (hv : z1d w v) (hw : z0v v.e) (hg : GCon w) (hrc : RCon w) (hgb : GBru w) :
  Calls Tryz.prog 8 #[.slice A n c, .int .u8 q, evV v] w (BIs true w) := by
 obtain ⟨wa, hwa, hb0, q1⟩ := zap w v
 have HWA := ya hwa
 have hq : 0 ≤ q ∧ q ≤ 255 := by simp [Lit.wf, IntKind.min, IntKind.max, IntKind.bits, IntKind.signed] at f1; omega
 have HSA := ya (fun W (hb : Below w.heap.size w W) => sane W (hg.below hb) (hrc.below hb) (hgb.below hb))
 have HLN := ya hl.len
 have HL := ya (fun W (hb : Below w.heap.size w W) => (hl.below hb))
 have HE := ya (fun j (hj : j < es.length) W (hb : Below w.heap.size w W) => (hl.below hb).elem hj)
 have HFE := ya (fun j (hj : j < es.length) W (hb : Below w.heap.size w W) => zei es[j] W ((hl.ok _ (List.getElem_mem hj)).below hb))
 have HFV := ya (fun W (hb : Below w.heap.size w W) => zei v W (hv.below hb))
 have HFA := ya (fun (ha : es.all (fun x => z1f x.e) = true) => (show z2s es from fun x hx => ⟨hwf x hx, (zeh _).1 (List.all_eq_true.1 ha x hx)⟩))
 have HVA := ya (fun (h : z1f v.e = true) => (zeh v.e).1 h)
 have HVW := ya hw
 have HVO := ya (fun W (hb : Below w.heap.size w W) => hv.below hb)
 have HMD := ya (fun (x : List EvR) (A' : Option Addr) (c' : Nat) (hf : z2s x) (hn : n ≤ 12) W (hb : Below w.heap.size w W) (hx : z3n W A' n x) => zj6 lds x A' n c' [] none 0 0 W hx hn hf (Rd.none_ W) (hg.below hb) (hgb.below hb))
 have HKY := ya (fun W => zey W)
 have HGC := ya (fun W (hb : Below w.heap.size w W) => (show GCon W from hg.below hb))
 have HQ1 := ya q1
 have hce0 := yy (xs := evL v) q1
 have hsz := z3y
 have h5 := z4y
 have h25 := z20
 have h25v := z20 v
 have hhz := z4b
 have h60 := z9u
 have h36 := z24
 clear hwa q1 hl hwf hw hv hg hrc hgb hnc hcm f1
 unfold BIs at HSA HFE HFV
 by_cases hz : n = 0
 ·subst hz
  clear HE HFE HFA HMD HKY HFV HVA HVO HL hce0
  unfold BIs
  go_enter Tryz.func8, Tryz.ntmps8
  go_upto_region 1 with fail
  change Code.wp _ _ _ _ (w.alloc (.cells (evC v) 27))
  rw [← HWA.out]
  go_wp2_with fail
  refine (HSA.out _ hb0).mono ?_
  rintro e w3 ⟨rfl, hb3⟩
  go_wp2_with fail
  go_ret
  exact ⟨rfl, yb hb0 hb3⟩
 have hpos : 0 < n := by omega
 clear hz
 have dz : decide ((n : Int) = 0) = false := by rw [decide_eq_false_iff_not]; omega
 have dzn : decide (n = 0) = false := by rw [decide_eq_false_iff_not]; omega
 by_cases hbig : 12 < n
 ·have d1 : decide ((12 : Int) < (n : Int)) = true := by rw [decide_eq_true_eq]; omega
  have d1n : decide (12 < n) = true := by rw [decide_eq_true_eq]; omega
  clear HE HFE HFA HMD HKY HFV HVA HVO HL hce0 hbig
  unfold BIs
  go_enter Tryz.func8, Tryz.ntmps8
  go_upto_region 1 with fail
  change Code.wp _ _ _ _ (w.alloc (.cells (evC v) 27))
  rw [← HWA.out]
  go_wp2_with fail
  refine (HSA.out _ hb0).mono ?_
  rintro e w3 ⟨rfl, hb3⟩
  go_wp2_with fail
  go_ret
  exact ⟨rfl, yb hb0 hb3⟩
 have d1 : decide ((12 : Int) < (n : Int)) = false := by rw [decide_eq_false_iff_not]; omega
 have d1n : decide (12 < n) = false := by rw [decide_eq_false_iff_not]; omega
 have hn12 : n ≤ 12 := by omega
 clear hbig
 unfold BIs
 go_enter Tryz.func8, Tryz.ntmps8
 go_upto_region 1 with fail
 change Code.wp _ _ _ _ (w.alloc (.cells (evC v) 27))
 rw [← HWA.out]
 go_wp2_with ((with_reducible show sl 33); refine yw (us := evL v) rfl rfl rfl z23 (by rw [z1m, h25v]) hce0 ?_)
 refine (HFV.out _ hb0).mono ?_
 rintro e w1 ⟨rfl, hb1⟩
 have HBA := ya hb0
 clear hce0 HFV
 go_wp2_with fail
 clear d1 d1n dz dzn
 go_loopw [7, 8] (fun v7 v8 wr => ∃ (k : Nat) (b : Bool), v7 = .bool b ∧ v8 = .int .i64 (k : Int) ∧ k ≤ n ∧ Below wa.heap.size wa wr ∧ Hid ((z1f v.e && es.all (fun x => z1f x.e)) = (b && (es.drop k).all (fun x => z1f x.e)))) (fun _ v8 _ => n - (intOf v8).toNat)
 case atStart => exact ⟨0, z1f v.e, rfl, rfl, by omega, hb1, ya rfl⟩
 case round =>
  obtain ⟨k, b, rfl, rfl, hk, hbx, HI⟩ := hrel
  have hbw := yb HBA.out hbx
  by_cases hkn : k < n
  ·have hke : k < es.length := by rw [HLN.out]; exact hkn
   have dj : decide ((k : Int) < (n : Int)) = true := by rw [decide_eq_true_eq]; omega
   have djn : decide (k < n) = true := by rw [decide_eq_true_eq]; omega
   obtain ⟨ad, rfl, hce⟩ := HE.out k hke wr hbw
   have HFk := ya (HFE.out k hke wr hbw)
   have HS : Hid ((es.drop k).all (fun x => z1f x.e) = (z1f es[k].e && (es.drop (k + 1)).all (fun x => z1f x.e))) := ya (by rw [List.drop_eq_getElem_cons hke, List.all_cons])
   generalize es[k] = x at *
   generalize z1f x.e = fb at *
   have hx25 := h25 x
   clear HE HFE hke HMD HL
   cases b with
   | true =>
    have HN : Hid ((z1f v.e && es.all (fun x => z1f x.e)) = (fb && (es.drop (k + 1)).all (fun x => z1f x.e))) := ya (by rw [HI.out, HS.out, Bool.true_and])
    go_wp2_with ((with_reducible show sl 44); refine yw (us := evL x) rfl rfl rfl z23 (by rw [z1m, hx25]) hce ?_)
    refine HFk.out.mono ?_
    rintro e w4 ⟨rfl, hb4⟩
    go_wp2_with fail
    exact ⟨⟨k + 1, fb, rfl, by go_num, by omega, yb hbx hb4, HN⟩, by simp [intOf]; omega⟩
   | false =>
    have HN : Hid ((z1f v.e && es.all (fun x => z1f x.e)) = (false && (es.drop (k + 1)).all (fun x => z1f x.e))) := ya (by rw [HI.out, Bool.false_and, Bool.false_and])
    go_wp2_with ((with_reducible show sl 44); refine yw (us := evL x) rfl rfl rfl z23 (by rw [z1m, hx25]) hce ?_)
    refine HFk.out.mono ?_
    rintro e w4 ⟨rfl, hb4⟩
    go_wp2_with fail
    exact ⟨⟨k + 1, false, rfl, by go_num, by omega, yb hbx hb4, HN⟩, by simp [intOf]; omega⟩
  ·obtain rfl : k = n := by omega
   have dj : decide ((k : Int) < (k : Int)) = false := by rw [decide_eq_false_iff_not]; omega
   have djn : decide (k < k) = false := by rw [decide_eq_false_iff_not]; omega
   have HW : Hid ((z1f v.e && es.all (fun x => z1f x.e)) = b) := ya (by rw [HI.out, List.drop_of_length_le (by rw [HLN.out]; exact Nat.le_refl _)]; simp)
   clear HI HFE
   cases b with
   | false =>
    clear HE HFA HMD HL
    go_wp2_with fail
    refine (HSA.out _ hbw).mono ?_
    rintro e w3 ⟨rfl, hb3⟩
    go_wp2_with fail
    go_ret
    exact ⟨rfl, yb hbw hb3⟩
   | true =>
    have hfv : z1f v.e = true := by have := HW.out; simp only [Bool.and_eq_true] at this; exact this.1
    have hfi : z2s es := HFA.out (by have := HW.out; simp only [Bool.and_eq_true] at this; exact this.2)
    have HFI := ya hfi
    have HVF := ya (HVA.out hfv)
    obtain ⟨i, hi⟩ : ∃ i : Nat, q % (k : Int) = i := ⟨(q % (k : Int)).toNat, by have := Int.emod_nonneg q (show (k : Int) ≠ 0 by omega); omega⟩
    have hin : i < k := by have := Int.emod_lt_of_pos q (show (0 : Int) < k by omega); omega
    have hie : i < es.length := by rw [HLN.out]; exact hin
    obtain ⟨ad, rfl, hce⟩ := HE.out i hie wr hbw
    clear HW HE HFA HVA hfv hfi hk
    have ho : (wr.alloc (.cells #[] 27)).ownsRow wr.heap.size 27 25 (.slice (some ⟨wr.heap.size, 0, none⟩) 0 0) 0 [] := World.ownsRow_made wr #[] 0 (Nat.le_refl _) (Nat.zero_le _) rfl
    have hbx2 := (Below.refl wr.heap.size wr).alloc (Nat.le_refl _) (.cells #[] 27)
    have HRD := ya ((HL.out wr hbw).rd.below hbx2)
    have H1 := ya (zf9 zb0 es)
    have HG5 : Hid (w.heap.size < wr.heap.size) := ya (Nat.lt_of_lt_of_le HQ1.out.lt hbx.size)
    go_upto_region 13 with (at_builtin; refine zbe rfl rfl zan rfl ho rfl HRD.out H1.out (by omega) (by simp) ?_; intro v3 w3 o3 _ hb3)
    rw [Nat.zero_add, List.nil_append] at o3
    replace hb3 := hbx2.trans hb3
    clear ho hbx2 HRD H1
    obtain ⟨-, ⟨e3, h3⟩ | ⟨g3, c3, cur, hv3, hg3, hh3, hn3, hm3, hs3, ht3⟩⟩ := o3
    ·exact absurd h3 (by omega)
    subst hv3
    have b3 : Blk w3 g3 27 cur := hh3
    have hb3w := yb hbw hb3
    have b5 := HQ1.out.below (yb hbx hb3)
    obtain ⟨DY, hDY⟩ : ∃ d, es[i].e.day = d := ⟨_, rfl⟩
    have hday : w3.cell? ⟨(ad.add (i * 25)).block, (ad.add (i * 25)).off + 2, none⟩ = some (.int .i64 DY) := by rw [← hDY]; exact cell_later hb3 (hce 2 _ (zee _))
    have HDY := ya hDY
    have HB3 := ya (And.intro b3 hb3w)
    have HT3 := ya (And.intro hs3 (And.intro hn3 (And.intro hm3 ht3)))
    clear hce hDY hh3 b3 hb3w hs3 hn3 hm3 ht3 hb3
    go_upto_region 14 with ((with_reducible show sn); refine z1v (v := .int .i64 DY) rfl rfl (by kernel_rfl) rfl rfl rfl b5 (by rw [z3w]; omega) (zi3 v DY) ?_; intro w4 ht4 b6)
    obtain ⟨v2, hv2⟩ : ∃ y : EvR, y = z7p v v.e.kind v.e.commit DY := ⟨_, rfl⟩
    have b7 : Blk w4 w.heap.size 27 (evC v2) := by rw [hv2]; exact b6
    have HV2 := ya hv2
    have hc5 := yy (xs := evL v2) b7
    have hv25 := h25 v2
    have b3 := ht4.blk HB3.out.1 (by have := HG5.out; omega)
    have hw4 := HB3.out.2.trans (ht4.below _ (Nat.le_refl _))
    have hfit : i * 25 + (evL v2).length ≤ cur.size := by rw [hv25, HT3.out.1]; have := HT3.out.2.1; omega
    have HB4 := ya hw4
    clear b5 b6 b7 hday ht4 hv2 hw4
    go_upto_region 15 with (first
     | ((with_reducible show sl 69); refine yw (us := evL v2) rfl rfl rfl z23 (by rw [z1m, hv25]) hc5 ?_)
     | ((with_reducible show sn); refine zx1 (g := g3) (j := i * 25) (vs := evL v2) rfl rfl rfl (by first | rfl | simp [Addr.add]) rfl b3 hfit (by rw [z1m, hv25]) (zb0 v2) ?_; intro w5 ht5 b8))
    have hw5 := HB4.out.trans (ht5.below _ (by have := HG5.out; omega))
    have HR2 := ya (zt8 b8 hin HLN.out HT3.out.2.2.2 (by rw [Array.length_toList]; exact HT3.out.1) HT3.out.2.1 HT3.out.2.2.1 (HL.out w5 hw5).ok (by rw [HV2.out]; exact zpu (HVO.out _ hw5) _ _ _))
    have HF2 := ya (zqc es i v2 HFI.out (by rw [HV2.out, ← HDY.out]; exact zpc v es[i].e HVW.out HVF.out (HFI.out _ (List.getElem_mem hie)).1))
    have HT2 := ya (zvv es i v2 hie (by rw [HV2.out, ← HDY.out]))
    have HW5 := ya hw5
    clear hc5 hv25 b3 hfit b8 ht5 hw5 HT3 HB3 HB4 HDY HV2 hg3
    have HM1 := ya (HMD.out es (some ad) c HFI.out hn12 w5 HW5.out (HL.out w5 HW5.out))
    have HM2 := ya (HMD.out (es.set i v2) (some ⟨g3, 0, none⟩) c3 HF2.out hn12)
    have HO1 := ya (fun r A2 W => zj8 es [] k HLN.out hn12 HFI.out r A2 W)
    have HO2 := ya (fun r A2 W => zj8 (es.set i v2) [] k (by rw [List.length_set]; exact HLN.out) hn12 HF2.out r A2 W)
    have HL1 : Hid ((ye es).length = k ∧ (ye (es.set i v2)).length = k) := ya ⟨by rw [z1h, HLN.out], by rw [z1h, List.length_set, HLN.out]⟩
    clear HMD HL HFI HF2
    unfold zbp at HM1 HM2
    go_wp2_with fail
    refine HM1.out.mono ?_
    rintro e w6 ⟨r, A2, n2, c2, rfl, er, kr, rr, hn2, n2c, c2m, hb6⟩
    obtain rfl : n2 = k := by rw [hn2, HL1.out.1]
    obtain ⟨M6, hES⟩ := HO1.out r A2 w6 er kr rr
    rw [zle] at M6
    obtain ⟨e0, he0, hd0⟩ := HT2.out
    have HE0 := ya he0
    have HD0 := ya hd0
    clear HM1 HO1 er kr rr hn2 HT2 he0 hd0
    generalize z0e 0 0 (ye es) = ES at *
    have HES := ya hES
    clear hES
    go_upto_region 16 with ((with_reducible show sl 12); refine z1p (z := lgC (z0m 0)) (vs := lgC r) rfl rfl rfl rfl (z1l _) (fun _ => rfl) (fun _ => rfl) (by rw [hsz, hsz]) (by rw [yq, hsz]) (z0f _) ?_; intro w7 g12 hg12 b12 hb7 lt12; clear hg12 lt12)
    have HM7 := ya (M6.below hb7)
    have hb67 := yb hb6 hb7
    have HW7 := ya (yb HW5.out hb67)
    have HM3 := ya (HM2.out w7 HW7.out (HR2.out.below hb67))
    have HB12 := ya b12
    clear M6 hb6 hb7 hb67 HR2 HM2 HW5 b12
    go_wp2_with fail
    refine HM3.out.mono ?_
    rintro e w8 ⟨r2, A3, n3, c4, rfl, er2, kr2, rr2, hn3, -, -, hb8⟩
    obtain rfl : n3 = n2 := by rw [hn3, HL1.out.2]
    obtain ⟨M8, hES2⟩ := HO2.out r2 A3 w8 er2 kr2 rr2
    rw [zle, HE0.out] at M8
    rw [HE0.out] at hES2
    have HDD := ya (fun c => (show z01 (ES.set i e0) c = z01 ES c by have := HD0.out c; rwa [HE0.out] at this))
    clear HM3 HO2 er2 kr2 rr2 hn3 HE0 HD0 HL1
    go_upto_region 17 with ((with_reducible show sl 15); refine z1p (z := lgC (z0m 0)) (vs := lgC r2) rfl rfl rfl rfl (z1l _) (fun _ => rfl) (fun _ => rfl) (by rw [hsz, hsz]) (by rw [yq, hsz]) (z0f _) ?_; intro w9 g15 hg15 b15 hb9 lt15; clear hg15 lt15)
    have hb89 := yb hb8 hb9
    have MA := HM7.out.below hb89
    have MB := M8.below hb9
    have HW9 := ya (yb HW7.out hb89)
    have b12 := HB12.out.below hb89
    have za := MA.sz
    have zb := MB.sz
    have ea : r.en = n3 := by rw [za.2.1, HES.out]
    have eb : r2.en = n3 := by rw [zb.2.1, hES2]
    have ha1 : r.hn = 1 := za.2.2.2.2.1
    have hb1' : r2.hn = 1 := zb.2.2.2.2.1
    have x3a := z4z b12
    have x3b := z4z b15
    have x1a := z4o b12
    have x1b := z4o b15
    rw [ha1] at x3a
    rw [hb1'] at x3b
    rw [ea] at x1a
    rw [eb] at x1b
    have HMA := ya MA
    have HMB := ya MB
    have HB9 := ya (And.intro b12 b15)
    have HEN := ya (And.intro (And.intro ea eb) (And.intro ha1 hb1'))
    have HE2 := ya hES2
    clear M8 HM7 hb8 hb9 hb89 HW7 HB12 MA MB za zb ea eb ha1 hb1' b12 b15 hES2
    go_upto_region 19 with (first
     | ((with_reducible show sl 91); refine wpList_loadW (by rfl) rfl rfl (by kernel_rfl) x3a ?_)
     | ((with_reducible show sl 97); refine wpList_loadW (by rfl) rfl rfl (by kernel_rfl) x3b ?_)
     | ((with_reducible show sl 103); refine wpList_loadW (by rfl) rfl rfl (by kernel_rfl) x1a ?_)
     | ((with_reducible show sl 111); refine wpList_loadW (by rfl) rfl rfl (by kernel_rfl) x1b ?_))
    clear x3a x3b x1a x1b
    go_wp2_with fail
    refine (HKY.out _).mono ?_
    rintro e w10 ⟨rfl, hb10⟩
    go_upto_region 20 with ((with_reducible show sl 125); refine zga rfl rfl rfl ?_; intro w11 gk rk hb11)
    have hb911 := yb hb10 hb11
    have HMA2 := ya (HMA.out.below hb911)
    have HMB2 := ya (HMB.out.below hb911)
    have HRK := ya rk
    have HB11 := ya (And.intro (HB9.out.1.below hb911) (HB9.out.2.below hb911))
    have HW11 := ya (yb HW9.out hb911)
    obtain ⟨hl0, hh0⟩ := HMA2.out.head 0 (by simp)
    obtain ⟨adh, hA0, hch⟩ := (HMA2.out.ok.hd).elem hl0
    rw [hh0] at hch
    obtain ⟨hl1, hh1⟩ := HMB2.out.head 0 (by simp)
    obtain ⟨adg, hB0, hcg⟩ := (HMB2.out.ok.hd).elem hl1
    rw [hh1] at hcg
    obtain ⟨h1, e1⟩ : ∃ x, yn ES yj n3 = x := ⟨_, rfl⟩
    obtain ⟨h2, e2⟩ : ∃ x, yn (ES.set i e0) yj n3 = x := ⟨_, rfl⟩
    have hch2 : ∀ j u, (hdL h1)[j]? = some u → w11.cell? ((adh.add (0 * 36)).add j) = some u := by rw [← e1]; exact hch
    have hcg2 : ∀ j u, (hdL h2)[j]? = some u → w11.cell? ((adg.add (0 * 36)).add j) = some u := by rw [← e2]; exact hcg
    have x3 := z4z HB11.out.1
    rw [HEN.out.2.1, hA0] at x3
    have HHA := ya hA0
    have HHB := ya hB0
    have HE1 := ya e1
    have HEE2 := ya e2
    have HCG := ya hcg2
    have h36a := h36 h1
    have h36b := h36 h2
    clear HMA HMB rk hb10 hb11 hb911 HB9 HW9 hl0 hh0 hA0 hch hl1 hh1 hB0 hcg e1 e2 hcg2 HKY
    go_upto_region 21 with (first
     | ((with_reducible show sl 129); refine yw (us := hdL h1) rfl rfl rfl z00 (by rw [ym, h36a]) hch2 ?_)
     | ((with_reducible show sl 19); refine z1p (z := hdC z3c) (vs := hdC h1) rfl rfl rfl rfl (z1k _) (fun _ => rfl) (fun _ => rfl) (by rw [hhz, hhz]) (by rw [ym, hhz]) (z18 _) ?_; intro w12 g19 hg19 b19 hb12 lt19; clear hg19 lt19))
    clear x3 hch2
    have x3 := z4z (HB11.out.2.below hb12)
    rw [HEN.out.2.2, HHB.out] at x3
    have hcg2 := fun j u h => cell_later hb12 (HCG.out j u h)
    go_upto_region 22 with (first
     | ((with_reducible show sl 133); refine yw (us := hdL h2) rfl rfl rfl z00 (by rw [ym, h36b]) hcg2 ?_)
     | ((with_reducible show sl 20); refine z1p (z := hdC z3c) (vs := hdC h2) rfl rfl rfl rfl (z1k _) (fun _ => rfl) (fun _ => rfl) (by rw [hhz, hhz]) (by rw [ym, hhz]) (z18 _) ?_; intro w13 g20 hg20 b20 hb13 lt20; clear hg20 lt20))
    have hb1113 := yb hb12 hb13
    have HB19 := ya (b19.below hb13)
    have HB20 := ya b20
    have HB1113 := ya hb1113
    have zr := z1g (HB11.out.2.below hb1113)
    have x20 := yy (xs := hdL h2) b20
    have h5r := h5 r2
    have HPV : Hid (Calls Tryz.prog 27 #[lgV r2, .int .i64 ((i : Int) + 1), hdV h2] w13 (z8c (z2x yj (ES.set i e0) n3 (i + 1), 0) w13)) := ya (by
     have := zj9 lds (HMB2.out.below hb1113) (HGC.out _ (yb HW11.out hb1113)) n3 (i + 1) (by simp) (by omega) (by omega)
     rw [HEE2.out] at this
     exact this)
    unfold z8c at HPV
    clear x3 hcg2 HCG b19 b20 hb12 hb13 hb1113
    go_wp2_with (first
     | ((with_reducible show sl 135); refine yw (us := lgL r2) rfl rfl rfl z0o (by rw [yq, h5r]) zr ?_)
     | ((with_reducible show sl 138); refine yw (us := hdL h2) rfl rfl rfl z00 (by rw [ym, h36b]) x20 ?_))
    refine HPV.out.mono ?_
    rintro e w14 ⟨s1, rfl, es1, ks1, -, -, hb14⟩
    go_upto_region 23 with ((with_reducible show sl 21); refine z1p (z := shC z40) (vs := shC s1) rfl rfl rfl rfl (zbn _) (fun _ => rfl) (fun _ => rfl) (by rw [h60, h60]) (by rw [z2i, h60]) (z77 _) ?_; intro w15 g21 hg21 b21 hb15 lt21; clear hg21 lt21)
    have hb1315 := yb hb14 hb15
    have hb1115 := yb HB1113.out hb1315
    have HKS := ya (ks1.below hb15)
    have HS1 := ya es1
    have HB21 := ya b21
    have HW15 := ya (yb HW11.out hb1115)
    have HMA3 := ya (HMA2.out.below hb1115)
    have HMB3 := ya (HMB2.out.below hb1115)
    have HB15 := ya (And.intro (HB11.out.1.below hb1115) (HB11.out.2.below hb1115))
    have HB15h := ya (And.intro (HB19.out.below hb1315) (HB20.out.below hb1315))
    have HRK2 := ya (HRK.out.below hb1115)
    clear zr x20 h5r HPV es1 ks1 b21 hb14 hb15 hb1315 hb1115 HMA2 HMB2 HB11 HB19 HB20 HRK HB1113
    go_upto_region 25 with fail
    obtain ⟨hla, fa⟩ := zcl HMA3.out (HGC.out _ HW15.out) i (by rw [HES.out]; exact hin)
    obtain ⟨ade, hAe, hcA⟩ := (HMA3.out.ok.ev).elem hla
    obtain ⟨hlb, fb⟩ := zcl HMB3.out (HGC.out _ HW15.out) i (by rw [HE2.out]; exact hin)
    obtain ⟨adf, hBe, hcB⟩ := (HMB3.out.ok.ev).elem hlb
    have x1a := z4o HB15.out.1
    have x1b := z4o HB15.out.2
    rw [HEN.out.1.1, hAe] at x1a
    rw [HEN.out.1.2, hBe] at x1b
    have FA := fun W (hb : Below w15.heap.size w15 W) => (zcl (HMA3.out.below hb) (HGC.out _ (yb HW15.out hb)) i (by rw [HES.out]; exact hin)).2
    have FB := fun W (hb : Below w15.heap.size w15 W) => (zcl (HMB3.out.below hb) (HGC.out _ (yb HW15.out hb)) i (by rw [HE2.out]; exact hin)).2
    refine zp3 x1a x1b hcA hcB hin hn12 FA FB (zc5 lds i) (zc5 lds i) (fun _ d _ _ _ h => by cases d <;> exact h) ?_
    intro v144 v145 v146 v147 v148 v149 v150 v151 v152 v153 v154 v155 v156 w16 hb16
    clear x1a x1b FA FB hcA hcB hAe hBe fa fb hla hlb
    obtain ⟨hlr, hrq⟩ := zko (H := yj) (es := ES) i (by rw [HES.out]; exact hin)
    obtain ⟨adr, hAr, hcr⟩ := HMA3.out.rr.elem hlr
    rw [hrq] at hcr
    subst hAr
    have HCR := ya hcr
    clear hlr hrq hcr
    go_upto_region 26 with fail
    have hroot := zts ES i e0 n3 HES.out hin
    have RF := fun W (hb : Below w16.heap.size w16 W) (kw : z1y W s1) => zrq (HMA3.out.below (yb hb16 hb)) (HMB3.out.below (yb hb16 hb)) (HGC.out _ (yb HW15.out (yb hb16 hb))) (rc := 1) (HRK2.out.below (yb hb16 hb)) HES.out HE2.out i hin s1 HS1.out kw (zv4 HS1.out kw (by rw [HE2.out]; exact Nat.le_refl _) (by rw [HE2.out]; exact hn12))
    have FK := fun W (hb : Below w16.heap.size w16 W) => zrr (HMA3.out.below (yb hb16 hb)) (HMB3.out.below (yb hb16 hb)) (HGC.out _ (yb HW15.out (yb hb16 hb))) (rc := 1) (HRK2.out.below (yb hb16 hb)) HES.out HE2.out (HDD.out n3).symm
    have l1 := (z5r lds (es := ES) n3).root
    have l2 := (z5r lds (es := ES.set i e0) n3).root
    rw [HE1.out] at hroot FK l1
    rw [HEE2.out] at hroot FK l2
    refine zp4 n2c c2m (HB15h.out.1.below hb16) (HB15h.out.2.below hb16) (HB21.out.below hb16) (HKS.out.below hb16) (fun j u h => cell_later hb16 (HCR.out j u h)) hin hn12 l1 l2 (fun W hb => HSA.out W (yb HW15.out (yb hb16 hb))) RF FK rfl (fun h => hroot (by simpa using h)) (fun _ d _ _ _ h => by cases d <;> exact h) ?_
    intro z157 z158 z159 z160 z161 z162 z163 z164 z165 z166 z167 z168 z169 z170 z171 z172 z173 z174 z175 z176 z177 z178 z179 z180 z181 z182 z183 z184 z185 z186 z187 z188 z189 z190 w17 hb17
    clear RF FK l1 l2 hroot
    go_wp2_with fail
    go_ret
    exact ⟨rfl, yb HW15.out (yb hb16 hb17)⟩
end
section
set_option maxRecDepth 20000
open Go.ChangeShapes Go.WideShapes Go.ChangeAt Go.RowKit Sha Exch Merk Ring
theorem own : ownKnob Tryz.prog.godebug = none := by kernel_rfl
theorem laidOut : laidOutB Tryz.prog = true := by kernel_rfl
theorem gCon : Tryz.prog.globalNamed "antiquary/hash.constants" = some 2 := by kernel_rfl
theorem gConT : (Tryz.prog.globals[2]?).map (·.type) = some 214 := by kernel_rfl
theorem con_of {W : World} {rest : List (String × DataW Unit)} (h : laidMet Tryz.prog (("antiquary/hash.constants", Rows.laid_antiquary_hash_constants) :: rest) W) : GCon W := by
 have t : Lib.TabIs Tryz.prog W "antiquary/hash.constants" .u32 (K.map fun n => ((n : Nat) : Int)) :=
  Lib.tabIs_of_head (rest := rest) gCon gConT (n := 64) (e := 186) (by kernel_rfl) (by kernel_rfl) (by kernel_rfl) (by kernel_rfl) h
 unfold Lib.TabIs World.var? at t
 rw [gCon] at t
 simp only [Option.bind_some] at t
 split at t
 ·rename_i cs T fr hh
  injection t with t
  refine ⟨T, fr, ?_⟩
  rw [hh, t]
  simp [wv]
 ·cases t
def zcd (cs : Array Value) : Obj → Obj
 | .cells _ t frozen => .cells cs t frozen
 | o => o
noncomputable def zin (os : Os) : World :=
 { World.holding Tryz.prog os ⟨#[], #[], []⟩ with heap := (World.holding Tryz.prog os ⟨#[], #[], []⟩).heap.modify 2 (zcd (K.map fun n => Value.int .u32 (n : Nat)).toArray) }
theorem gRef : Tryz.prog.globalNamed "antiquary/antiquaryref02.constants" = some 3 := by kernel_rfl
theorem gRefT : (Tryz.prog.globals[3]?).map (·.type) = some 214 := by kernel_rfl
theorem rcon_of {W : World} {rest : List (String × DataW Unit)} (h : laidMet Tryz.prog (("antiquary/antiquaryref02.constants", Rows.laid_antiquary_antiquaryref02_constants) :: rest) W) : RCon W := by
 have t : Lib.TabIs Tryz.prog W "antiquary/antiquaryref02.constants" .u32 (K.map fun n => ((n : Nat) : Int)) :=
  Lib.tabIs_of_head (rest := rest) gRef gRefT (n := 64) (e := 186) (by kernel_rfl) (by kernel_rfl) (by kernel_rfl) (by kernel_rfl) h
 intro k hk
 have hlen : K.length = 64 := by decide
 rw [t.cell gRef k (by simp [hlen, hk])]
 simp [hlen, hk]
theorem gBru : Tryz.prog.globalNamed "math/bits.deBruijn64tab" = some 1 := by kernel_rfl
theorem gBruT : (Tryz.prog.globals[1]?).map (·.type) = some 188 := by kernel_rfl
theorem bru_of {W : World} {rest : List (String × DataW Unit)} (h : laidMet Tryz.prog (("math/bits.deBruijn64tab", Rows.laid_math_bits_deBruijn64tab) :: rest) W) : GBru W := by
 have t : Lib.TabIs Tryz.prog W "math/bits.deBruijn64tab" .u8 (Lib.deBruijn64tab.map fun n => ((n : Nat) : Int)) :=
  Lib.tabIs_of_head (rest := rest) gBru gBruT (n := 64) (e := 5) (by kernel_rfl) (by kernel_rfl) (by kernel_rfl) (by kernel_rfl) h
 intro k hk
 have hlen : Lib.deBruijn64tab.length = 64 := by decide
 rw [t.cell gBru k (by simp [hlen, hk])]
 simp [hlen, hk]
noncomputable def laidWorldR (os : Os) : World :=
 { zin os with heap := (((zin os).heap.modify 3 (zcd (K.map fun n => Value.int .u32 (n : Nat)).toArray)).modify 1 (zcd (Lib.deBruijn64tab.map fun n => Value.int .u8 (n : Nat)).toArray)).modify 0 (zcd (Lib.deBruijn32tab.map fun n => Value.int .u8 (n : Nat)).toArray) }
def zct : TypeDesc → List (Nat × TypeId)
 | .struct fs => fs.toList.map fun f => (f.offset, f.type)
 | _ => []
theorem zi8 {d : Option TypeDesc} {l : List (Nat × TypeId)} (h : d.map zct = some l) (hl : l ≠ []) : ∃ fs : Array Field, d = some (.struct fs) ∧ fs.toList.map (fun f => (f.offset, f.type)) = l := by
 cases d with
 | none => simp at h
 | some d =>
  simp only [Option.map_some, Option.some.injEq] at h
  cases d <;> simp only [zct] at h <;> try (exact absurd h.symm hl)
  rename_i fs
  exact ⟨fs, rfl, h⟩
section
variable {H : Type} {enc : TypeId × Value → H} {W : World} {P : Program}
theorem zls {base fuel : Nat} {t : TypeId} {L : List (Nat × TypeId)} {cs : List Value} {x : DataW H × List MemPlace} (hu : (P.underlying t).map zct = some L) (hL : L ≠ []) (h : DataW.trod enc P W base (fun _ => true) true fuel t cs = some x) :
  cs.length = P.cellsOf t ∧ ∀ (i o : Nat) (ty : TypeId), L[i]? = some (o, ty) → ∃ n y, DataW.trod enc P W base (fun _ => true) true n ty ((cs.drop o).take (P.cellsOf ty)) = some y := by
 obtain ⟨fs, hs, hf⟩ := zi8 hu hL
 obtain ⟨xs, n, _, _, hcl, hxl, hx⟩ := DataW.trod_struct hs h
 refine ⟨hcl, fun i o ty hi => ?_⟩
 rw [← hf, List.getElem?_map, Option.map_eq_some_iff] at hi
 obtain ⟨f, h1, h2⟩ := hi
 injection h2 with e1 e2
 subst e1; subst e2
 have h3 : fs[i]? = some f := by rw [← h1]; simp
 have h4 := hx i f h3
 rw [List.getElem?_eq_getElem (by rw [hxl]; exact (Array.getElem?_eq_some_iff.1 h3).1)] at h4
 exact ⟨n, _, h4⟩
theorem zsk {base fuel k : Nat} {t e : TypeId} (hu : P.underlying t = some (.array k e)) (he : P.underlying e = some (.int .u8)) (hc : P.cellsOf e = 1) (hct : P.cellsOf t = k) {cs : List Value} {x : DataW H × List MemPlace}
  (h : DataW.trod enc P W base (fun _ => true) true fuel t cs = some x) : ∃ L : List UInt8, cs = bv L ∧ L.length = k := by
 obtain ⟨xs, m, _, _, hl, hxl, hrow⟩ := DataW.trod_array hu h
 rw [hct] at hl
 have each : ∀ i, i < k → ∃ b : UInt8, cs[i]? = some (.int .u8 (b.toNat : Nat)) := fun i hi => by
  have h1 := hrow i hi
  rw [hc, Nat.mul_one] at h1
  rw [List.getElem?_eq_getElem (by omega)] at h1
  obtain ⟨n, e1, _, hw⟩ := DataW.trod_int he h1
  have hn : 0 ≤ n ∧ n < 256 := by simp [Lit.wf, IntKind.min, IntKind.max, IntKind.bits, IntKind.signed] at hw; omega
  refine ⟨UInt8.ofNat n.toNat, ?_⟩
  have e2 : cs[i]? = some (.int .u8 n) := by
   have h3 : (cs.drop i)[0]? = some (.int .u8 n) := by
    have : ((cs.drop i).take 1)[0]? = some (.int .u8 n) := by rw [e1]; rfl
    rwa [List.getElem?_take_of_lt (by omega)] at this
   rwa [List.getElem?_drop, Nat.add_zero] at h3
  rw [e2]
  have : ((UInt8.ofNat n.toNat).toNat : Int) = n := by simp; omega
  rw [this]
 haveI : Inhabited UInt8 := ⟨0⟩
 obtain ⟨f, hf2⟩ := Go.Deep.choose_lt each
 refine ⟨(List.range k).map f, ?_, by simp⟩
 apply List.ext_getElem?
 intro i
 by_cases hi : i < k
 ·rw [hf2 i hi]
  simp [bv, hi]
 ·rw [List.getElem?_eq_none (by omega), List.getElem?_eq_none (by simp [bv]; omega)]
theorem zcr {α : Type} [Inhabited α] {base fuel k : Nat} {t e : TypeId} (ht : P.underlying t = some (.slice e)) (hc : P.cellsOf e = k) (hk : 0 < k) (f : α → List Value) (hf : ∀ x, (f x).length = k) (Wf : α → Prop)
  (hel : ∀ base fuel cs x, DataW.trod enc P W base (fun _ => true) true fuel e cs = some x → ∃ a, cs = f a ∧ Wf a) {cs : List Value} {x : DataW H × List MemPlace} (h : DataW.trod enc P W base (fun _ => true) true fuel t cs = some x) :
  ∃ A n c, ∃ l : List α, cs = [.slice A n c] ∧ n ≤ c ∧ c ≤ maxLen ∧ l.length = n ∧ Rd W A (n * k) (l.flatMap f) ∧ ∀ a ∈ l, Wf a := by
 rcases Go.Deep.open_slice ht h with ⟨hcs, _⟩ | ⟨x, n, c, m, q, D, Pl, hcs, _, hl, hm, hmm, _, hrow⟩
 ·exact ⟨none, 0, 0, [], hcs, Nat.le_refl _, by simp [maxLen], rfl, by rw [Nat.zero_mul]; exact Rd.none_ _, by simp⟩
 ·simp only [if_true] at hmm
  have each : ∀ i, i < n → ∃ a : α, (∀ j u, (f a)[j]? = some u → W.cell? ((x.add (i * k)).add j) = some u) ∧ Wf a := fun i hi => by
   obtain ⟨cs', h1, h2⟩ := hrow i (by omega)
   obtain ⟨a, rfl, hw⟩ := hel _ _ _ _ h2
   refine ⟨a, fun j u hj => ?_, hw⟩
   rw [hc] at h1
   obtain ⟨_, hlen, hcell⟩ := World.cells?_some h1
   rw [hcell j (by have := (List.getElem?_eq_some_iff.1 hj).1; rw [hf] at this; exact this), hj]
  obtain ⟨K, hK⟩ := Go.Deep.choose_lt each
  refine ⟨some x, n, c, (List.range n).map K, hcs, hl, hm, by simp, ⟨by rw [zch hf]; simp, fun j u hj => ⟨x, rfl, ?_⟩⟩, fun r hr => ?_⟩
  ·have hlt := (List.getElem?_eq_some_iff.1 hj).1
   rw [zch hf] at hlt
   simp only [List.length_map, List.length_range] at hlt
   have hdk : j / k < n := Nat.div_lt_of_lt_mul (by rw [Nat.mul_comm]; exact hlt)
   have e : j = j / k * k + j % k := by rw [Nat.mul_comm]; exact (Nat.div_add_mod j k).symm
   have hg := zc6 hf ((List.range n).map K) (j / k) (by simp; exact hdk) (j % k) (Nat.mod_lt _ hk)
   rw [← e] at hg
   rw [hg] at hj
   simp only [List.getElem_map, List.getElem_range] at hj
   have := (hK (j / k) hdk).1 (j % k) u hj
   rw [zbr, ← e] at this
   exact this
  ·simp only [List.mem_map, List.mem_range] at hr
   obtain ⟨i, hi, rfl⟩ := hr
   exact (hK i hi).2
end
section
variable {H : Type} {enc : TypeId × Value → H} {W : World}
theorem uDg : Tryz.prog.underlying 25 = some (.array 16 5) := by kernel_rfl
theorem cDg : Tryz.prog.cellsOf 25 = 16 := by kernel_rfl
theorem z65 : Tryz.prog.cellsOf 3 = 1 := by kernel_rfl
theorem cStr : Tryz.prog.cellsOf 9 = 1 := by kernel_rfl
theorem uInt : Tryz.prog.underlying 3 = some (.int .i64) := by kernel_rfl
theorem uStr : Tryz.prog.underlying 9 = some .string := by kernel_rfl
theorem zsl {base fuel : Nat} {cs : List Value} {x : DataW H × List MemPlace} (h : DataW.trod enc Tryz.prog W base (fun _ => true) true fuel 25 cs = some x) : ∃ n, cs = bv (dg n) ∧ n < 2 ^ 128 := by
 obtain ⟨L, rfl, hl⟩ := zsk uDg (by kernel_rfl) (by kernel_rfl) cDg h
 refine ⟨val L, by rw [zbz hl], ?_⟩
 have := z8t L
 rw [hl] at this
 exact this
theorem z4n (cs : List Value) (o n : Nat) : cs.drop o = (cs.drop o).take n ++ cs.drop (o + n) := by
 rw [← List.drop_drop]; exact (List.take_append_drop n (cs.drop o)).symm
theorem zs7 {P : Program} {base : Nat} {t : TypeId} {fs : Array Field} {v : Value} (hs : P.underlying t = some (.struct fs)) (hval : Value.okWide P W .any base t v) : ∃ cs, v = .agg cs := by
 simp only [Value.okWide, hs] at hval
 obtain ⟨cs, rfl, _⟩ := hval
 exact ⟨cs, rfl⟩
theorem zwb {n : Int} (h : (Lit.int .i64 n).wf = true) : -9223372036854775808 ≤ n ∧ n ≤ 9223372036854775807 := by
 simp [Lit.wf, IntKind.min, IntKind.max, IntKind.bits, IntKind.signed] at h
 omega
theorem z6d {base fuel : Nat} {cs : List Value} {x : DataW H × List MemPlace} (h : DataW.trod enc Tryz.prog W base (fun _ => true) true fuel 3 cs = some x) : ∃ z : Int, cs = [.int .i64 z] ∧ -9223372036854775808 ≤ z ∧ z ≤ 9223372036854775807 := by
 obtain ⟨z, e, _, w⟩ := DataW.trod_int uInt h
 exact ⟨z, e, zwb w⟩
theorem oStr {base fuel : Nat} {cs : List Value} {x : DataW H × List MemPlace} (h : DataW.trod enc Tryz.prog W base (fun _ => true) true fuel 9 cs = some x) : ∃ s : ByteArray, cs = [.string s] ∧ s.size ≤ maxLen := by
 obtain ⟨s, e, _, w⟩ := DataW.trod_string uStr h
 exact ⟨s, e, w⟩
instance : Inhabited At := ⟨⟨⟨#[]⟩, 0, 0, ⟨#[]⟩⟩⟩
instance : Inhabited EvR := ⟨z87⟩
instance : Inhabited Hd := ⟨z3c⟩
def WfAt (a : At) : Prop := (-9223372036854775808 ≤ a.kind ∧ a.kind ≤ 9223372036854775807) ∧ -9223372036854775808 ≤ a.n ∧ a.n ≤ 9223372036854775807
theorem zqg (l : List Int) : (l.flatMap fun z => [Value.int .i64 z]) = iv l := by
 induction l with
 | nil => rfl
 | cons x l ih => rw [List.flatMap_cons, ih]; rfl
theorem oInts {base fuel : Nat} {cs : List Value} {x : DataW H × List MemPlace} (h : DataW.trod enc Tryz.prog W base (fun _ => true) true fuel 22 cs = some x) :
  ∃ A n c, ∃ l : List Int, cs = [.slice A n c] ∧ n ≤ c ∧ c ≤ maxLen ∧ l.length = n ∧ Rd W A n (iv l) ∧ z29 l := by
 obtain ⟨A, n, c, l, e, h1, h2, h3, h4, h5⟩ := zcr (t := 22) (e := 3) (by kernel_rfl) (k := 1) z65 (by omega) (fun z : Int => [Value.int .i64 z]) (fun _ => rfl) (fun z => -9223372036854775808 ≤ z ∧ z ≤ 9223372036854775807) (fun _ _ _ _ h => z6d h) h
 rw [zqg, Nat.mul_one] at h4
 exact ⟨A, n, c, l, e, h1, h2, h3, h4, h5⟩
theorem zsj {base fuel : Nat} {cs : List Value} {x : DataW H × List MemPlace} (h : DataW.trod enc Tryz.prog W base (fun _ => true) true fuel 100 cs = some x) : ∃ a : At, cs = atL a ∧ WfAt a := by
 obtain ⟨hl, hf⟩ := zls (L := [(0, 9), (1, 3), (2, 3), (3, 9)]) (by kernel_rfl) (by simp) h
 rw [show Tryz.prog.cellsOf 100 = 4 by kernel_rfl] at hl
 obtain ⟨m0, y0, g0⟩ := hf 0 0 _ rfl
 rw [cStr] at g0
 obtain ⟨z0, e0, w0⟩ := oStr g0
 obtain ⟨m1, y1, g1⟩ := hf 1 1 _ rfl
 rw [z65] at g1
 obtain ⟨z1, e1, w1⟩ := z6d g1
 obtain ⟨m2, y2, g2⟩ := hf 2 2 _ rfl
 rw [z65] at g2
 obtain ⟨z2, e2, w2⟩ := z6d g2
 obtain ⟨m3, y3, g3⟩ := hf 3 3 _ rfl
 rw [cStr] at g3
 obtain ⟨z3, e3, w3⟩ := oStr g3
 have t4 : cs.drop 4 = [] := List.drop_of_length_le (by omega)
 have t3 := z4n cs 3 1
 rw [e3, t4] at t3
 have t2 := z4n cs 2 1
 rw [e2, t3] at t2
 have t1 := z4n cs 1 1
 rw [e1, t2] at t1
 have t0 := z4n cs 0 1
 rw [e0, t1] at t0
 rw [List.drop_zero] at t0
 exact ⟨⟨z0, z1, z2, z3⟩, t0, w1, w2⟩
theorem zjn {base fuel : Nat} {cs : List Value} {x : DataW H × List MemPlace} (h : DataW.trod enc Tryz.prog W base (fun _ => true) true fuel 27 cs = some x) : ∃ r : EvR, cs = evL r ∧ z1d W r ∧ z0v r.e := by
 obtain ⟨hl, hf⟩ := zls (L := [(0, 3), (1, 3), (2, 3), (3, 3), (4, 3), (5, 3), (6, 3), (7, 22), (8, 23), (9, 25)]) (by kernel_rfl) (by simp) h
 rw [show Tryz.prog.cellsOf 27 = 25 by kernel_rfl] at hl
 obtain ⟨m0, y0, g0⟩ := hf 0 0 _ rfl
 rw [z65] at g0
 obtain ⟨z0, e0, w0⟩ := z6d g0
 obtain ⟨m1, y1, g1⟩ := hf 1 1 _ rfl
 rw [z65] at g1
 obtain ⟨z1, e1, w1⟩ := z6d g1
 obtain ⟨m2, y2, g2⟩ := hf 2 2 _ rfl
 rw [z65] at g2
 obtain ⟨z2, e2, w2⟩ := z6d g2
 obtain ⟨m3, y3, g3⟩ := hf 3 3 _ rfl
 rw [z65] at g3
 obtain ⟨z3, e3, w3⟩ := z6d g3
 obtain ⟨m4, y4, g4⟩ := hf 4 4 _ rfl
 rw [z65] at g4
 obtain ⟨z4, e4, w4⟩ := z6d g4
 obtain ⟨m5, y5, g5⟩ := hf 5 5 _ rfl
 rw [z65] at g5
 obtain ⟨z5, e5, w5⟩ := z6d g5
 obtain ⟨m6, y6, g6⟩ := hf 6 6 _ rfl
 rw [z65] at g6
 obtain ⟨z6, e6, w6⟩ := z6d g6
 obtain ⟨m7, y7, g7⟩ := hf 7 7 _ rfl
 rw [(show Tryz.prog.cellsOf 22 = 1 by kernel_rfl)] at g7
 obtain ⟨A7, n7, c7, z7, e7, a7, b7, l7, r7, w7⟩ := oInts g7
 obtain ⟨m8, y8, g8⟩ := hf 8 8 _ rfl
 rw [(show Tryz.prog.cellsOf 23 = 1 by kernel_rfl)] at g8
 obtain ⟨A8, n8, c8, z8, e8, a8, b8, l8, r8, w8⟩ := zcr (t := 23) (e := 100) (by kernel_rfl) (k := 4) (by kernel_rfl) (by omega) atL zdr WfAt (fun _ _ _ _ h => zsj h) g8
 obtain ⟨m9, y9, g9⟩ := hf 9 9 _ rfl
 rw [cDg] at g9
 obtain ⟨z9, e9, w9⟩ := zsl g9
 have t10 : cs.drop 25 = [] := List.drop_of_length_le (by omega)
 have t9 := z4n cs 9 16
 rw [e9, t10] at t9
 have t8 := z4n cs 8 1
 rw [e8, t9] at t8
 have t7 := z4n cs 7 1
 rw [e7, t8] at t7
 have t6 := z4n cs 6 1
 rw [e6, t7] at t6
 have t5 := z4n cs 5 1
 rw [e5, t6] at t5
 have t4 := z4n cs 4 1
 rw [e4, t5] at t4
 have t3 := z4n cs 3 1
 rw [e3, t4] at t3
 have t2 := z4n cs 2 1
 rw [e2, t3] at t2
 have t1 := z4n cs 1 1
 rw [e1, t2] at t1
 have t0 := z4n cs 0 1
 rw [e0, t1] at t0
 rw [List.drop_zero] at t0
 exact ⟨⟨⟨z0, z1, z2, z3, z4, z5, z6, z7, z8, z9⟩, A7, n7, c7, A8, n8, c8⟩, by rw [t0]; simp [evL], ⟨l7, r7, a7, b7, ⟨l8, r8⟩, a8, b8, w9⟩, ⟨w7, w8, fun x hx => by simp only [List.mem_cons, List.not_mem_nil, or_false] at hx; rcases hx with rfl | rfl | rfl | rfl | rfl | rfl | rfl <;> assumption⟩⟩
theorem open_ev {base : Nat} {v : Value} {d : DataW H} {p : List MemPlace} (hval : Value.okWide Tryz.prog W .any base 27 v) (h : DataW.Trod enc Tryz.prog W 0 (fun _ => true) true 27 v d p) : ∃ r : EvR, v = evV r ∧ z1d W r ∧ z0v r.e := by
 obtain ⟨fs, hs, _⟩ := zi8 (l := [(0, 3), (1, 3), (2, 3), (3, 3), (4, 3), (5, 3), (6, 3), (7, 22), (8, 23), (9, 25)]) (show (Tryz.prog.underlying 27).map zct = _ by kernel_rfl) (by simp)
 obtain ⟨cs, rfl⟩ := zs7 hs hval
 obtain ⟨fuel, hf⟩ := h
 obtain ⟨r, e, hr⟩ := zjn hf
 refine ⟨r, ?_, hr⟩
 simp only [Value.cells] at e
 show Value.agg cs = .agg (evL r).toArray
 rw [← e]
theorem open_rdEvents {base : Nat} {v : Value} {d : DataW H} {p : List MemPlace} (hval : Value.okWide Tryz.prog W .any base 36 v) (h : DataW.Trod enc Tryz.prog W 0 (fun _ => true) true 36 v d p) :
  ∃ A n c, ∃ l : List EvR, v = .slice A n c ∧ n ≤ c ∧ c ≤ maxLen ∧ z3n W A n l ∧ ∀ r ∈ l, z0v r.e := by
 obtain ⟨fuel, hf⟩ := h
 obtain ⟨A, n, c, l, e, h1, h2, h3, h4, h5⟩ := zcr (t := 36) (e := 27) (by kernel_rfl) (k := 25) (by kernel_rfl) (by omega) evL z20 (fun r => z1d W r ∧ z0v r.e) (fun _ _ _ _ h => zjn h) hf
 have hs : Tryz.prog.underlying 36 = some (.slice 27) := by kernel_rfl
 obtain ⟨A0, n0, c0, rfl⟩ : ∃ A n c, v = .slice A n c := by
  cases v <;> simp only [Value.okWide, hs, Cell.okWide, Cell.ok] at hval <;> first | exact ⟨_, _, _, rfl⟩ | (simp [Value.cells] at e) | exact hval.elim
 simp only [Value.cells] at e
 injection e with e _
 injection e with e1 e2 e3
 subst e1; subst e2; subst e3
 exact ⟨_, _, _, l, rfl, h1, h2, ⟨h3, h4, fun r hr => (h5 r hr).1⟩, fun r hr => (h5 r hr).2⟩
end
end
end Go.Proofs.YtcapckngikekpaaGreatDoor
