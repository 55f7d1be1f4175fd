/-
  These texts, joined.
  The laws' of: the stock of texts. Conditions: at most 200 texts, each of at most 200 bytes; the table of constants stands.
  Stocks and parcels in a world, and Hear at them. Conditions: the table of constants stands.
  The reference's bytes and Sum. Conditions: the prefix is right; at most 1000 items; the table of constants stands.
  What sanity of antiquarylaw44 reckons; parcels in a row. Conditions: the table of constants stands.
  Same of the reference: two stocks. Conditions: none.
  sanity answers true. Conditions: the tables of constants stand.
  The laws' few. Conditions: none.
  The laws' valid; the names under a prefix are those under its halves. Conditions: the table of constants stands.
  From the row's reading of stocks, prefixes and parcels to the walks' premises. Conditions: none.
  From the row's reading of lists of strings and bytes to the walks' premises. Conditions: none.
-/
import Derived.Test.YtieamjjnofelcaaDoorB9
import Derived.Test.YtieamjjnofelcaaDoorB6
import Derived.Test.YtieamjjnofelcaaDoorB7
import Derived.Test.YtieamjjnofelcaaDoorB8
import Derived.Test.YtieamjjnofelcaaDoorB5
import Derived.Test.YtieamjjnofelcaaDoorB4
import Derived.Test.YtieamjjnofelcaaDoorCards
import Derived.Test.YtieamjjnofelcaaDoorTie
import Derived.ProofKit
import Derived.OpenShut
import Derived.ShutString
import Derived.SliceStrings
import Derived.Carry
import Derived.Deep.DeepHandedRow
import Derived.Lib.LaidTab
import Derived.Stop.LaidErr
import Derived.Deep.Slices
import Derived.ChangeSame
import Derived.WideKeyPair
namespace Go.Proofs.YtieamjjnofelcaaDoor
set_option linter.unusedSimpArgs false
set_option linter.unusedVariables false
open Go.RowKit Exch
theorem ofL_succ (ts : List ByteArray) (k : Nat) (h : k < ts.length) : ofL (ts.take (k + 1)) = (addS (ofL (ts.take k)) ts[k]).1 := by
  unfold ofL
  rw [List.take_succ_eq_append_getElem h, List.foldl_append]
  rfl
/-- What of returns. -/
def OfIs (l : List It) (w : World) (e : Ending) (w' : World) : Prop := ∃ A n c, e = .returned (.tuple #[stV A n c, .bool true]) ∧ RdT w' A n l ∧ n ≤ c ∧ c ≤ maxLen ∧ Below w.heap.size w w' ∧ KA w w' none A
theorem RdT.turned {w w' : World} {A : Option Addr} {n g : Nat} {l : List It} (h : RdT w A n l) (ht : Turned g w w') (ha : Away A g) : RdT w' A n l := ⟨h.len, h.rd.turned ht ha⟩
set_option maxRecDepth 20000 in
set_option maxHeartbeats 2000000 in
theorem lawOf_any (ts : List ByteArray) (A : Option Addr) (n c : Nat) (w : World) (hn : n ≤ 200) (hlen : ts.length = n) (hr : Rd w A n (sv ts)) (hts : ∀ t ∈ ts, t.size ≤ 200) (hg : GCon w) :
    Calls Tryd.prog 38 #[.slice A n c] w (OfIs (ofL ts) w) := by
  have HR := Lib.hid hr
  have HG := Lib.hid hg
  have HTL := Lib.hid hlen
  have HTS := Lib.hid hts
  have HV : Hid (∀ k, Vl (ofL (ts.take k)) ∧ (ofL (ts.take k)).length ≤ 200) := Lib.hid (fun k => by
    have h := fun t (ht : t ∈ ts.take k) => hts t (List.mem_of_mem_take ht)
    exact ⟨ofL_vl h, by have := ofL_len h; rw [List.length_take] at this; omega⟩)
  clear hr hg hlen hts
  go_enter Tryd.func38, Tryd.ntmps38
  go_upto_region 2 with first
    | ((with_reducible show wpList _ _ _ (⟨some 2, _, _, _, _, _⟩ :: _) _ _); refine wpList_new rfl rfl zeroSt ?_; intro w2 g2 hg2 q2 hb2 lt2; have HG2 := Lib.hid hg2; clear hg2)
    | ((with_reducible show wpList _ _ _ (⟨some 4, _, _, _, _, _⟩ :: _) _ _); refine wpList_new rfl rfl zeroSt ?_; intro w3 g4 hg4 q4 hb3 lt4; have HG4 := Lib.hid hg4; clear hg4; replace q2 := q2.below hb3)
  have hb : Below w.heap.size w w3 := bstep hb2 hb3
  have hgw : w.heap.size ≤ g2 := by have := HG2.out; omega
  have hgw4 : w.heap.size ≤ g4 := by have := HG4.out; have := hb2.size; omega
  have hg24 : g2 ≠ g4 := by have := HG4.out; omega
  have lt2' : g2 < w3.heap.size := by have := hb3.size; omega
  clear hb2 hb3 lt2
  go_wp2_with fail
  go_loopw [5] (fun vk wr => ∃ (k : Nat) (A1 : Option Addr) (n1 c1 : Nat), k ≤ n ∧ vk = .int .i64 k ∧ Blk wr g4 24 (stC A1 n1 c1) ∧ Blk wr g2 24 (stC none 0 0) ∧ RdT wr A1 n1 (ofL (ts.take k)) ∧ n1 ≤ c1 ∧ c1 ≤ maxLen ∧ KA w3 wr none A1 ∧ Below w.heap.size w wr ∧ w3.heap.size ≤ wr.heap.size) (fun vk _ => n - (intOf vk).toNat)
  case atStart => exact ⟨0, none, 0, 0, Nat.zero_le _, rfl, q4, q2, RdT.none_ _, Nat.le_refl _, Nat.zero_le _, KA.none _ _, hb, Nat.le_refl _⟩
  case round =>
    clear q4 q2 hb
    obtain ⟨k, A1, n1, c1, hk, rfl, b4, q2, hr1, hn1, hc1, hka, hbw, hsz⟩ := hrel
    obtain ⟨hvl, hl200⟩ := HV.out k
    by_cases hlt : k < n
    · have hku : k < ts.length := by have := HTL.out; omega
      obtain ⟨ad, had, hc⟩ := (HR.out.below hbw).at_ k (.string ts[k]) (by simp [sv, List.getElem?_eq_getElem hku])
      obtain rfl := had
      have hsucc := ofL_succ ts k hku
      have her := addS_err (ofL (ts.take k)) ts[k]
      have htk : ts[k].size ≤ 400 := by have := HTS.out _ (List.getElem_mem hku); omega
      have HA := Lib.hid (fun W (hR : RdT W A1 n1 (ofL (ts.take k))) (hG : GCon W) => exAdd_any (ofL (ts.take k)) A1 n1 c1 ts[k] W (by have := hR.len; omega) hR hn1 hc1 hvl.wf hvl.so htk hG)
      have HG1 := Lib.hid (HG.out.below hbw)
      have HR1 := Lib.hid hr1
      have HA1 : Hid (∀ g, wr.heap.size ≤ g → Away A1 g) := Lib.hid (fun g hg => hka g (.inr hg) (Away.none g))
      obtain ⟨r, hr⟩ : ∃ r, addS (ofL (ts.take k)) ts[k] = r := ⟨_, rfl⟩
      rw [hr] at HA her hsucc
      obtain ⟨l5, er⟩ := r
      have HSU := Lib.hid hsucc
      have HER := Lib.hid her
      clear hsucc her hr hvl hr1 htk
      generalize ts[k] = t at *
      have HKA := Lib.hid hka
      clear hka
      go_upto_region 5 with fail
      go_cut [6, 7] (fun v6 v7 wx => ∃ (gN : Nat) (A5 : Option Addr) (n5 c5 : Nat), v6 = .pointer (some ⟨gN, 0, none⟩) ∧ v7 = .int .i64 er ∧ Blk wx gN 24 (stC A5 n5 c5) ∧ RdT wx A5 n5 l5 ∧ n5 ≤ c5 ∧ c5 ≤ maxLen ∧ Below wr.heap.size wr wx ∧ KA wr wx A1 A5)
      case first =>
       have hS : Below wr.heap.size wr wr.drew := (Below.refl _ wr).drew
       refine wp_region_TB (S := Below (wr).heap.size (wr)) 10 (by kernel_rfl) ?_
       refine WpT.take (i := 0) rfl (by kernel_rfl) (fun _ _ _ h => h) (yields_blk rfl rfl rfl aggSt (by rw [sizeSt]; rfl) b4) (hS) ?_
       try simp only [nrm]
       refine WpT.take (i := 1) rfl (by kernel_rfl) (fun _ _ _ h => h) (.inl ⟨by rfl, fun w hSw => by clear hSw; go_simp; (try go_bits); (try rw [if_pos (by omega)]); (try with_reducible rfl)⟩) (hS) ?_
       try simp only [nrm]
       refine WpT.take (i := 2) rfl (by kernel_rfl) (fun _ _ _ h => h) (.inl ⟨by rfl, fun w hSw => by clear hSw; go_simp; (try go_bits); (try rw [if_pos (by omega)]); (try with_reducible rfl)⟩) (hS) ?_
       try simp only [nrm]
       refine WpT.take (i := 3) rfl (by kernel_rfl) (fun _ _ _ h => h) (.inl ⟨by rfl, fun w hSw => by clear hSw; go_simp; (try go_bits); (try rw [if_pos (by omega)]); (try with_reducible rfl)⟩) (hS) ?_
       try simp only [nrm]
       refine WpT.take (i := 4) rfl (by kernel_rfl) (fun _ _ _ h => h) (yields_load rfl rfl rfl (by kernel_rfl) hc) (hS) ?_
       try simp only [nrm]
       refine WpT.fork (i := 5) (j := 9) rfl rfl (by kernel_rfl) (fun K hK => ?_) (fun K hK => ?_)
       · go_simp; refine (HA.out _ (HR1.out.below hS) (HG1.out.below hS)).mono ?_; rintro e w5 ⟨A5, n5, c5, rfl, hr5, hn5, hc5, hb5, hka5⟩; (try have haN : Away A5 gN := hka5 gN (.inl qN.lt) (HA1.out gN hgeN)); have hkw := KA.wide (w := wr) (w3 := w5) hka5 hS.size (Nat.le_refl _); clear hka5; replace hS := bstep hS hb5; (try replace qN := qN.below hb5)
         refine hK _ _ (hS) ?_; clear hK K; try simp only [nrm]
         refine WpT.take (i := 6) rfl (by kernel_rfl) (fun _ _ _ h => h) (.inl ⟨by rfl, fun w hSw => by clear hSw; go_simp; (try go_bits); (try rw [if_pos (by omega)]); (try with_reducible rfl)⟩) (hS) ?_
         try simp only [nrm]
         refine WpT.take (i := 7) rfl (by kernel_rfl) (fun _ _ _ h => h) (.inl ⟨by rfl, fun w hSw => by clear hSw; go_simp; (try go_bits); (try rw [if_pos (by omega)]); (try with_reducible rfl)⟩) (hS) ?_
         try simp only [nrm]
         refine WpT.takeP (i := 8) rfl (by kernel_rfl) (fun _ _ _ h => h) (.inl ⟨by rfl, fun w hSw => by clear hSw; go_simp; (try go_bits); (try rw [if_pos (by omega)]); (try with_reducible rfl)⟩) (hS) ?_
         try simp only [nrm]
         refine WpT.one (i := 9) rfl (by kernel_rfl) (fun K hK => ?_)
         refine wp_new rfl zeroSt ?_; intro wN gN hgN qN hbN ltN; have hgeN : wr.heap.size ≤ gN := (by rw [hgN]; exact hS.size); (try have haN : Away A5 gN := hkw gN (.inr (by rw [hgN]; exact Nat.le_refl _)) (HA1.out gN hgeN)); clear hgN; replace hS := bstep hS hbN; (try replace hr5 := hr5.below hbN); (try replace hkw := hkw.wide (w := wr) (w3 := wN) (Nat.le_refl _) hbN.size)
         refine hK _ _ (hS) ?_; clear hK K; try simp only [nrm]
         refine WpT.tail (i := 10) rfl (by kernel_rfl) (by kernel_rfl) (fun K hK => ?_)
         refine wp_put (vs := stC A5 n5 c5) rfl (by rfl) (by rfl) qN rfl (by kernel_rfl) (by simp [Value.oneCell']) ?_; intro w9 ht9 b9
         refine hK _ _ ?_; clear hK K; try simp only [nrm]
         refine WpT.tail (i := 11) rfl (by kernel_rfl) (by kernel_rfl) (fun K hK => ?_)
         go_simp; (try go_bits)
         refine hK _ _ ?_; clear hK K; try simp only [nrm]
         refine WpT.done (by kernel_rfl) ?_ _
         go_wp2_with fail; go_meet; exact ⟨gN, A5, n5, c5, rfl, rfl, b9, hr5.turned ht9 haN, hn5, hc5, hS.trans (ht9.below _ hgeN), hkw.sized ht9.size⟩
       · refine wp_new rfl zeroSt ?_; intro wN gN hgN qN hbN ltN; have hgeN : wr.heap.size ≤ gN := (by rw [hgN]; exact hS.size); (try have haN : Away A5 gN := hkw gN (.inr (by rw [hgN]; exact Nat.le_refl _)) (HA1.out gN hgeN)); clear hgN; replace hS := bstep hS hbN; (try replace hr5 := hr5.below hbN); (try replace hkw := hkw.wide (w := wr) (w3 := wN) (Nat.le_refl _) hbN.size)
         refine hK _ _ (hS) ?_; clear hK K; try simp only [nrm]
         refine WpT.one (i := 5) rfl (by kernel_rfl) (fun K hK => ?_)
         go_simp; refine (HA.out _ (HR1.out.below hS) (HG1.out.below hS)).mono ?_; rintro e w5 ⟨A5, n5, c5, rfl, hr5, hn5, hc5, hb5, hka5⟩; (try have haN : Away A5 gN := hka5 gN (.inl qN.lt) (HA1.out gN hgeN)); have hkw := KA.wide (w := wr) (w3 := w5) hka5 hS.size (Nat.le_refl _); clear hka5; replace hS := bstep hS hb5; (try replace qN := qN.below hb5)
         refine hK _ _ (hS) ?_; clear hK K; try simp only [nrm]
         refine WpT.take (i := 6) rfl (by kernel_rfl) (fun _ _ _ h => h) (.inl ⟨by rfl, fun w hSw => by clear hSw; go_simp; (try go_bits); (try rw [if_pos (by omega)]); (try with_reducible rfl)⟩) (hS) ?_
         try simp only [nrm]
         refine WpT.take (i := 7) rfl (by kernel_rfl) (fun _ _ _ h => h) (.inl ⟨by rfl, fun w hSw => by clear hSw; go_simp; (try go_bits); (try rw [if_pos (by omega)]); (try with_reducible rfl)⟩) (hS) ?_
         try simp only [nrm]
         refine WpT.takeP (i := 8) rfl (by kernel_rfl) (fun _ _ _ h => h) (.inl ⟨by rfl, fun w hSw => by clear hSw; go_simp; (try go_bits); (try rw [if_pos (by omega)]); (try with_reducible rfl)⟩) (hS) ?_
         try simp only [nrm]
         refine WpT.tail (i := 10) rfl (by kernel_rfl) (by kernel_rfl) (fun K hK => ?_)
         refine wp_put (vs := stC A5 n5 c5) rfl (by rfl) (by rfl) qN rfl (by kernel_rfl) (by simp [Value.oneCell']) ?_; intro w9 ht9 b9
         refine hK _ _ ?_; clear hK K; try simp only [nrm]
         refine WpT.tail (i := 11) rfl (by kernel_rfl) (by kernel_rfl) (fun K hK => ?_)
         go_simp; (try go_bits)
         refine hK _ _ ?_; clear hK K; try simp only [nrm]
         refine WpT.done (by kernel_rfl) ?_ _
         go_wp2_with fail; go_meet; exact ⟨gN, A5, n5, c5, rfl, rfl, b9, hr5.turned ht9 haN, hn5, hc5, hS.trans (ht9.below _ hgeN), hkw.sized ht9.size⟩
      case rest =>
        obtain ⟨gN, A5, n5, c5, rfl, rfl, b9, hr9, hn5, hc5, hbS, hk9⟩ := hcut
        have b49 := b4.below hbS
        have q29 := q2.below hbS
        have hb9 := bstep hbw hbS
        have hk39 : KA w3 wc none A5 := HKA.out.trans hk9 hsz hbS.size
        have ha4 : Away A5 g4 := hk39 g4 (.inl lt4) (Away.none g4)
        have hsz9 : w3.heap.size ≤ wc.heap.size := by have := hbS.size; omega
        clear hbS hk9 b4 q2 hbw hc
        have her := HER.out
        rcases her with rfl | rfl
        · go_wp2_with first
            | ((with_reducible show wpList _ _ _ (⟨some 30, _, _, _, _, _⟩ :: _) _ _); refine wpList_loadRow rfl rfl rfl b9 aggSt (by rw [sizeSt]; rfl) ?_)
            | ((with_reducible show wpList _ _ _ (⟨none, _, _, _, _, _⟩ :: _) _ _); refine wpList_put (vs := stC A5 n5 c5) rfl rfl rfl rfl b49 rfl (by kernel_rfl) (by simp [Value.oneCell']) ?_; intro w10 ht10 b10)
          exact ⟨⟨k + 1, A5, n5, c5, by omega, by go_num, b10, ht10.blk q29 hg24, by rw [HSU.out]; exact hr9.turned ht10 ha4, hn5, hc5, hk39.sized ht10.size, hb9.trans (ht10.below _ hgw4), by rw [ht10.size]; exact hsz9⟩, by simp [intOf]; omega⟩
        · go_wp2_with first
            | ((with_reducible show wpList _ _ _ (⟨some 30, _, _, _, _, _⟩ :: _) _ _); refine wpList_loadRow rfl rfl rfl b9 aggSt (by rw [sizeSt]; rfl) ?_)
            | ((with_reducible show wpList _ _ _ (⟨none, _, _, _, _, _⟩ :: _) _ _); refine wpList_put (vs := stC A5 n5 c5) rfl rfl rfl rfl b49 rfl (by kernel_rfl) (by simp [Value.oneCell']) ?_; intro w10 ht10 b10)
          exact ⟨⟨k + 1, A5, n5, c5, by omega, by go_num, b10, ht10.blk q29 hg24, by rw [HSU.out]; exact hr9.turned ht10 ha4, hn5, hc5, hk39.sized ht10.size, hb9.trans (ht10.below _ hgw4), by rw [ht10.size]; exact hsz9⟩, by simp [intOf]; omega⟩
    · obtain rfl : k = n := by omega
      rw [List.take_of_length_le (by have := HTL.out; omega)] at hr1
      have ha2 : Away A1 g2 := hka g2 (.inl lt2') (Away.none g2)
      have hkw := hka.early (w0 := w) (by omega)
      have HR1 := Lib.hid hr1
      have HKA := Lib.hid hkw
      clear hr1 hka hkw
      go_wp2_with first
        | ((with_reducible show wpList _ _ _ (⟨some 31, _, _, _, _, _⟩ :: _) _ _); refine wpList_loadRow rfl rfl rfl b4 aggSt (by rw [sizeSt]; rfl) ?_)
        | ((with_reducible show wpList _ _ _ (⟨none, _, _, _, _, _⟩ :: _) _ _); refine wpList_put (vs := stC A1 n1 c1) rfl rfl rfl rfl q2 rfl (by kernel_rfl) (by simp [Value.oneCell']) ?_; intro w10 ht10 b10)
      exact ret_blk2 rfl rfl rfl b10 aggSt (by rw [sizeSt]; rfl) ⟨A1, n1, c1, rfl, HR1.out.turned ht10 ha2, hn1, hc1, hbw.trans (ht10.below _ hgw), HKA.out.sized ht10.size⟩
end Go.Proofs.YtieamjjnofelcaaDoor
namespace Go.Proofs.YtieamjjnofelcaaDoor
set_option linter.unusedSimpArgs false
set_option linter.unusedVariables false
open Go.RowKit Exch
/-- A stock in a world; the blocks of G are variables'. -/
structure StAt (W : World) (G : Nat → Prop) (A : Option Addr) (n c : Nat) (l : List It) : Prop where
  rd : RdT W A n l
  nc : n ≤ c
  cm : c ≤ maxLen
  un : Under A W.heap.size
  vl : Vl l
  aw : ∀ g, G g → Away A g
/-- A parcel in a world. -/
structure PaAt (W : World) (G : Nat → Prop) (r : PaR) : Prop where
  rd : RdD W r.A r.n r.p.names
  un : Under r.A W.heap.size
  ok : PaOk r.p
  aw : ∀ g, G g → Away r.A g
section
variable {W W' : World} {G : Nat → Prop}
theorem StAt.below {A : Option Addr} {n c : Nat} {l : List It} (h : StAt W G A n c l) (hb : Below W.heap.size W W') : StAt W' G A n c l := ⟨h.rd.below hb, h.nc, h.cm, h.un.le hb.size, h.vl, h.aw⟩
theorem StAt.turned {A : Option Addr} {n c g : Nat} {l : List It} (h : StAt W G A n c l) (ht : Turned g W W') (hg : G g) : StAt W' G A n c l := ⟨h.rd.turned ht (h.aw g hg), h.nc, h.cm, by rw [ht.size]; exact h.un, h.vl, h.aw⟩
theorem RdD.turned {A : Option Addr} {n g : Nat} {l : List Nat} (h : RdD W A n l) (ht : Turned g W W') (ha : Away A g) : RdD W' A n l := ⟨h.len, h.rd.turned ht ha⟩
theorem PaAt.below {r : PaR} (h : PaAt W G r) (hb : Below W.heap.size W W') : PaAt W' G r := ⟨h.rd.below hb, h.un.le hb.size, h.ok, h.aw⟩
theorem PaAt.turned {r : PaR} {g : Nat} (h : PaAt W G r) (ht : Turned g W W') (hg : G g) : PaAt W' G r := ⟨h.rd.turned ht (h.aw g hg), by rw [ht.size]; exact h.un, h.ok, h.aw⟩
theorem StAt.only {G' : Nat → Prop} {A : Option Addr} {n c : Nat} {l : List It} (h : StAt W G A n c l) (hg : ∀ g, G' g → G g) : StAt W G' A n c l := ⟨h.rd, h.nc, h.cm, h.un, h.vl, fun g h' => h.aw g (hg g h')⟩
theorem PaAt.only {G' : Nat → Prop} {r : PaR} (h : PaAt W G r) (hg : ∀ g, G' g → G g) : PaAt W G' r := ⟨h.rd, h.un, h.ok, fun g h' => h.aw g (hg g h')⟩
theorem OutP.at_ {B : Nat} {v : Value} {rs : List PaR} (h : OutP W B v rs) (hB : ∀ g, G g → g < B) {r : PaR} (hr : r ∈ rs) (hok : PaOk r.p) : PaAt W G r := by
  obtain ⟨A, c, e, -, -, h3⟩ := (h.2 r hr).form
  injection e with e1 e2 e3
  rw [← e1, ← e2] at h3
  have h4 := h.2 r hr
  refine ⟨h3, ?_, hok, fun g hg => ?_⟩
  · exact own_under (n := r.n) (c := r.c) h4
  · exact own_away (n := r.n) (c := r.c) h4 (hB g hg)
theorem OutP.form {B : Nat} {v : Value} {rs : List PaR} (h : OutP W B v rs) (hne : rs ≠ []) : ∃ go co, v = .slice (some ⟨go, 0, none⟩) rs.length co ∧ B ≤ go ∧ go < W.heap.size ∧ Rd W (some ⟨go, 0, none⟩) (rs.length * 37) (paRs rs) := by
  have h1 := h.1
  rcases h1.2 with ⟨_, h0⟩ | ⟨g, cap, cur, rfl, hB, hh, hcap, hmax, hsz, hcur⟩
  · exact absurd (List.length_eq_zero_iff.1 h0) hne
  · obtain ⟨A1, c1, e1, -, -, h3⟩ := ownsRow_form h1
    injection e1 with e2 _ _
    rw [← e2] at h3
    exact ⟨g, cap, rfl, hB, (Array.getElem?_eq_some_iff.1 hh).1, h3⟩
theorem OutP.nilForm {B : Nat} {v : Value} (h : OutP W B v []) : ∃ A c, v = .slice A 0 c := by
  rcases h.1.2 with ⟨rfl, _⟩ | ⟨g, cap, cur, rfl, _⟩
  · exact ⟨_, _, rfl⟩
  · exact ⟨_, _, rfl⟩
/-- What Hear leaves behind. -/
def HearAt (r : List It × List Pa × Int) (G : Nat → Prop) (w : World) (e : Ending) (w' : World) : Prop :=
  ∃ A n c vo rs, e = .returned (.tuple #[stV A n c, vo, .int .i64 r.2.2]) ∧ StAt w' G A n c r.1 ∧ OutP w' w.heap.size vo rs ∧ rs.map (·.p) = r.2.1 ∧ (∀ q ∈ rs, PaOk q.p) ∧ Below w.heap.size w w' ∧ rs.length ≤ 2000
theorem sums_len (l : List It) (p : Px) (E : Nat) (cnt : Int) : (sumsL l p E cnt).length ≤ 2 := by
  unfold sumsL
  generalize (decide (sumOf (namL l p) = E) && ((namL l p).length : Int) == cnt) = b
  cases b
  · simp only [Bool.false_eq_true, if_false]
    split
    · simp only [List.length_singleton]; omega
    · split
      · simp only [List.length_singleton]; omega
      · simp only [List.length_cons, List.length_nil]; omega
  · simp only [if_true, List.length_nil]; omega
theorem names_len (l : List It) (ns : List Nat) (p : Px) : (namesL l ns p).length ≤ l.length + 1 := by
  unfold namesL
  rw [List.length_append]
  have h1 := restL_len (undL l p) ns
  have h2 := List.length_filter_le (fun x : It => under p x.nm) l
  have h3 : (if lackN l ns = [] then [] else [wantP (lackN l ns)]).length ≤ 1 := by
    by_cases h : lackN l ns = []
    · rw [if_pos h]; exact Nat.zero_le _
    · rw [if_neg h]; exact Nat.le_refl _
  have h4 : (undL l p).length ≤ l.length := h2
  omega
theorem hear_count {l : List It} {m : Pa} (hl : l.length ≤ 900) (hm : m.names.length ≤ 1000) : (hearL l m).2.1.length ≤ 2000 := by
  have h1 := sums_len l ⟨m.v, m.len.toNat⟩ m.sum m.count
  have h2 := names_len l m.names ⟨m.v, m.len.toNat⟩
  have h3 := want_len l m.names
  unfold hearL hearK
  by_cases h0 : checkP m = 0
  · rw [if_pos h0]
    by_cases e1 : m.kind = 1
    · rw [if_pos e1]; dsimp only; omega
    · rw [if_neg e1]
      by_cases e2 : m.kind = 2
      · rw [if_pos e2]; dsimp only; omega
      · rw [if_neg e2]
        by_cases e3 : m.kind = 3
        · rw [if_pos e3]; dsimp only; omega
        · rw [if_neg e3]; dsimp only; exact Nat.zero_le _
  · rw [if_neg h0]; exact Nat.zero_le _
theorem hear_at {A : Option Addr} {n c : Nat} {l : List It} {r : PaR} (hs : StAt W G A n c l) (hl : l.length ≤ 900) (hp : PaAt W G r) (hG : ∀ g, G g → g < W.heap.size) (hg : GCon W) :
    Calls Tryd.prog 33 #[stV A n c, paV r.p r.A r.n r.c] W (HearAt (hearL l r.p) G W) := by
  have hln := hs.rd.len
  have hpn := hp.rd.len
  have hok := hp.ok
  refine (hear_any l A n c r.p r.A r.n r.c W (by omega) hs.rd hs.nc hs.cm hs.vl.wf hs.vl.so hs.un hok.v hok.sum hp.rd hp.un (by have := hok.len; omega) hok.lt (by have := hok.text; omega) hg).mono fun e w' h => ?_
  obtain ⟨A', n', c', vo, rs, he, hr', hn', hc', ho, hps, hb, hka⟩ := h
  obtain ⟨f1, f2⟩ := hear_fine hs.vl (by omega) hok
  refine ⟨A', n', c', vo, rs, he, ⟨hr', hn', hc', hka.under hb.size hs.un, f1, fun g hg => hka.away (hG g hg) (hs.aw g hg)⟩, ho, hps, fun q hq => f2 q.p (hps ▸ List.mem_map_of_mem hq), hb, ?_⟩
  have := hear_count hl hok.len
  rw [← hps, List.length_map] at this
  exact this
end
end Go.Proofs.YtieamjjnofelcaaDoor
namespace Go.Proofs.YtieamjjnofelcaaDoor
set_option linter.unusedSimpArgs false
set_option linter.unusedVariables false
open Go.RowKit Exch
theorem build1_U (u : UInt8) (W : World) : (Instr.buildSlice 67 1 #[(0, .int .u8 (u.toNat : Nat))]).run Tryd.prog W = .ok (.slice (some ⟨W.heap.size, 0, none⟩) 1 1) (W.alloc (.cells #[.int .u8 (u.toNat : Nat)] 5)) := by kernel_rfl
theorem wpList_lit1U {w : World} {ops : Array Oper} {rest : List Oper} {o : Oper} {a : Act} {Q : Exit → Act → World → Prop} (u : UInt8) (hgd : o.guard = none) {x : Operand} (ho : o.op = .buildSlice 67 1 #[(0, x)]) (hx : a.eval x = .int .u8 (u.toNat : Nat))
    (h : ∀ w' g, Rd w' (some ⟨g, 0, none⟩) (1 * 1) (bv [u]) → Below w.heap.size w w' → wpList Tryd.prog ops Q rest (a.put o.dst (.slice (some ⟨g, 0, none⟩) 1 1)) w') : wpList Tryd.prog ops Q (o :: rest) a w := by
  refine wpList_plain hgd fun K hK => ?_
  have h2 := h _ _ (Rd.new1 w _ 5) ((Below.refl _ _).alloc (Nat.le_refl _) _)
  unfold Oper.wp execOp
  simp only [ho, List.map_toArray, List.map_cons, List.map_nil, hx, build1_U, Sem.run_bind, Result.andThen_ok, Sem.run_pure]
  exact hK _ _ h2
theorem yields_build4 {P : Program} {ops : Array Oper} {S : World → Prop} {o : Oper} {a : Act} {T : TypeId} {i j k l : Nat} {x y z u : Operand} {vx vy vz vu v : Value} (ho : o.op = .build T #[(i, x), (j, y), (k, z), (l, u)]) (hgd : o.guard = none) (hx : a.eval x = vx) (hy : a.eval y = vy) (hz : a.eval z = vz) (hu : a.eval u = vu)
    (h : ∀ W, (Instr.build T #[(i, vx), (j, vy), (k, vz), (l, vu)]).run P W = .ok v W) : YieldsIf P ops S o v a := by
  refine .inl ⟨by simp [Region.wanted, hgd], fun w hS => ?_⟩
  unfold execOp
  simp only [ho, List.map_toArray, List.map_cons, List.map_nil, hx, hy, hz, hu, Sem.run_bind, h, Result.andThen_ok, Sem.run_pure]
set_option maxRecDepth 20000 in
set_option maxHeartbeats 1000000 in
theorem refBytes_any (n : Nat) (w : World) : Calls Tryd.prog 50 #[dgV n] w fun e w' => e = .returned (.string (dgS n)) ∧ Below w.heap.size w w' := by
  obtain ⟨wa, hwa, hb0, q0⟩ : ∃ wa : World, wa = w.alloc (.cells (dgC n) 26) ∧ Below w.heap.size w wa ∧ Blk wa w.heap.size 26 (dgC n) := ⟨_, rfl, (Below.refl w.heap.size w).alloc (Nat.le_refl _) _, Blk.new _ _ _⟩
  have HWA := Lib.hid hwa
  clear hwa
  have hlen := dg_len n
  have h1 : wa.ownsRow wa.heap.size 5 1 (.slice none 0 0) 0 (bv ((dg n).take 0)) := World.ownsRow_nil _ _ _ 1
  go_enter Tryd.func50, Tryd.ntmps50
  go_upto_region 1 with (fail)
  change Code.wp _ _ _ _ (w.alloc (.cells (dgC n) 26))
  rw [← HWA.out]
  go_wp2_with fail
  go_loopw [3, 4] (fun v5 vk wr => ∃ k : Nat, k ≤ 16 ∧ vk = .int .i64 k ∧ wr.ownsRow wa.heap.size 5 1 v5 k (bv ((dg n).take k)) ∧ Below wa.heap.size wa wr) (fun _ vk _ => 16 - (intOf vk).toNat)
  case atStart => exact ⟨0, Nat.zero_le _, rfl, h1, Below.refl _ _⟩
  case round =>
    clear h1
    obtain ⟨k, hk, rfl, hown, hbw⟩ := hrel
    replace q0 := q0.below hbw
    have hbx := bstep hb0 hbw
    by_cases hlt : k < 16
    · have hkl : k < (dg n).length := by omega
      have c0 := q0.cell k
      simp only [dgC, List.getElem?_toArray, bv, List.getElem?_map, List.getElem?_eq_getElem hkl, Option.map_some] at c0
      have hts : bv ((dg n).take (k + 1)) = bv ((dg n).take k) ++ bv [(dg n)[k]] := by rw [List.take_succ_eq_append_getElem hkl, bv_append]
      generalize (dg n)[k] = u at *
      go_upto_region 4 with (first
        | ((with_reducible show wpList _ _ _ _ _ _); refine wpList_lit1U u rfl rfl rfl ?_; intro w7 g7 hr7 hb7)
        | ((with_reducible show wpList _ _ _ _ _ _); refine wpList_appK rfl rfl elemU rfl (ownsRow_below hown hb7) rfl (m := 1) hr7 (one_bvE _) (by omega) (by have := hbw.size; have := hb7.size; omega) ?_; intro v8 w8 hown8 _ hb8))
      have hbB : Below wa.heap.size wa w8 := (bstep hbw hb7).trans hb8
      rw [← hts] at hown8
      clear hown hts
      go_wp2_with fail
      exact ⟨⟨k + 1, by omega, by go_num, hown8, hbB⟩, by simp [intOf]; omega⟩
    · obtain rfl : k = 16 := by omega
      rw [List.take_of_length_le (by omega)] at hown
      obtain ⟨A5, c5, rfl, -, -, hr5⟩ := ownsRow_form hown
      go_wp2_with ((with_reducible show wpList _ _ _ _ _ _); refine wpList_bts rfl rfl btE stE rfl (l := dg n) hr5 ?_)
      go_ret
      exact ⟨rfl, hbx⟩
theorem take_snoc (l : List Nat) (k : Nat) (h : k < l.length) : l.take (k + 1) = l.take k ++ [l[k]] := by rw [List.take_succ_eq_append_getElem h]
set_option maxRecDepth 20000 in
set_option maxHeartbeats 4000000 in
theorem refSum44_any (l : List It) (A : Option Addr) (m c : Nat) (p : Px) (w : World) (hm : m ≤ 1000) (hr : RdT w A m l) (hnc : m ≤ c) (hcm : c ≤ maxLen) (hl : ∀ x ∈ l, WfT x) (hp : Right p) (hg : RCon w) :
    Calls Tryd.prog 21 #[stV A m c, pxV p.v p.len] w fun e w' => e = .returned (paV (sumP l p) none 0 0) ∧ Below w.heap.size w w' := by
  obtain ⟨wa, hwa, hb0, q0, q1, q2⟩ : ∃ wa : World, wa = ((w.alloc (.cells (stC A m c) 24)).alloc (.cells (pxC p.v p.len) 28)).alloc (.cells (paC pa0 none 0 0) 47) ∧ Below w.heap.size w wa ∧ Blk wa w.heap.size 24 (stC A m c) ∧ Blk wa (w.heap.size + 1) 28 (pxC p.v p.len) ∧ Blk wa (w.heap.size + 1 + 1) 47 (paC pa0 none 0 0) := by
    refine ⟨_, rfl, (((Below.refl w.heap.size w).alloc (Nat.le_refl _) _).alloc (by simp) _).alloc (by simp; omega) _, ((Blk.new _ _ _).alloc _).alloc _, (Blk.new2 _ _ _ _).alloc _, ?_⟩
    have := Blk.new ((w.alloc (.cells (stC A m c) 24)).alloc (.cells (pxC p.v p.len) 28)) 47 (paC pa0 none 0 0)
    simpa using this
  have HWA := Lib.hid hwa
  clear hwa
  have HN := Lib.hid (refNames_any l A m c p wa hm (hr.below hb0) hnc hcm hl hp)
  have hnl : (namL l p).length ≤ m := by rw [← hr.len]; exact namL_len
  have HG := Lib.hid (hg.below hb0)
  have HOF := Lib.hid (fun (A : Option Addr) (n c : Nat) (W : World) (hn : n ≤ 4096) (hr : Rd W A n (sv ((namL l p).map dgS))) (hG : RCon W) => refOf_any 45 A n c ((namL l p).map dgS) W hn (fun s hs => by
    obtain ⟨x, _, rfl⟩ := List.mem_map.1 hs
    rw [dgS_size]; omega) hr hG)
  have hsd := sumOf_dg (namL l p)
  rw [hsd] at HOF
  clear hsd
  unfold sumP
  generalize namL l p = ns at *
  have hB := build_sum p.v p.len (sumOf ns) ns.length
  have hPs := paC_size ⟨1, p.v, p.len, sumOf ns, ns.length, [], ⟨#[]⟩⟩ none 0 0
  have hP1 := one_paC ⟨1, p.v, p.len, sumOf ns, ns.length, [], ⟨#[]⟩⟩ none 0 0
  have hQs := paC_size pa0 none 0 0
  show Calls _ _ _ _ fun e w' => e = .returned (.agg (paC ⟨1, p.v, p.len, sumOf ns, ns.length, [], ⟨#[]⟩⟩ none 0 0)) ∧ Below w.heap.size w w'
  replace hB : ∀ W, (Instr.build 47 #[(0, .int .i64 1), (1, pxV p.v p.len), (2, dgV (sumOf ns)), (3, .int .i64 ns.length)]).run Tryd.prog W = .ok (.agg (paC ⟨1, p.v, p.len, sumOf ns, ns.length, [], ⟨#[]⟩⟩ none 0 0)) W := hB
  generalize paC ⟨1, p.v, p.len, sumOf ns, ns.length, [], ⟨#[]⟩⟩ none 0 0 = P at *
  generalize sumOf ns = D at *
  have HB := Lib.hid hB
  clear hB hr hl hg
  generalize hQ0 : paC pa0 none 0 0 = Q0 at *
  have HQ0 := Lib.hid hQ0
  clear hQ0
  go_enter Tryd.func21, Tryd.ntmps21
  go_upto_region 1 with (fail)
  change Code.wp _ _ _ _ (((w.alloc (.cells (stC A m c) 24)).alloc (.cells (pxC p.v p.len) 28)).alloc (.cells (paC pa0 none 0 0) 47))
  rw [HQ0.out]
  rw [← HWA.out]
  go_wp2_with (first
    | ((with_reducible show wpList _ _ _ _ _ _); refine wpList_loadRow rfl rfl rfl q0 aggSt (by rw [sizeSt]; rfl) ?_)
    | ((with_reducible show wpList _ _ _ _ _ _); refine wpList_loadRow rfl rfl rfl q1 aggPx (by rw [sizePx, pxC_size]) ?_))
  refine HN.out.mono ?_
  rintro e w1 ⟨v1, rfl, hown1, hb1⟩
  obtain ⟨A1, c1, rfl, hn1, hc1, hr1⟩ := hown1.form
  have hcm1 : c1 ≤ 9223372036854775807 := hc1
  replace q1 := q1.below hb1
  replace q2 := q2.below hb1
  have HG1 := Lib.hid (HG.out.below hb1)
  have hb01 := bstep hb0 hb1
  have h1 : OwnSt w1 w1.heap.size (.slice none 0 0) (ns.take 0) := OwnSt.nil _ _
  have HR1 := Lib.hid hr1
  have HNU : Hid (∀ k, k ≤ ns.length → (ns.take k).length = k) := Lib.hid (fun k h => by simp; omega)
  have HBY := Lib.hid (fun n W => refBytes_any n W)
  have hlim : ns.length ≤ 1000 := by omega
  clear q0 hb1 hr1 hown1
  go_wp2_with fail
  go_loopw [6, 7] (fun v5 vk wr => ∃ k : Nat, k ≤ ns.length ∧ vk = .int .i64 k ∧ OwnSt wr w1.heap.size v5 (ns.take k) ∧ Below w1.heap.size w1 wr) (fun _ vk _ => ns.length - (intOf vk).toNat)
  case atStart => exact ⟨0, Nat.zero_le _, rfl, h1, Below.refl _ _⟩
  case round =>
    clear h1
    obtain ⟨k, hk, rfl, hown, hbw⟩ := hrel
    have hsz := hbw.size
    have hsz0 := hb01.size
    by_cases hlt : k < ns.length
    · obtain ⟨ad, rfl, hc⟩ := (HR1.out.below hbw).elem hlt
      have hts := take_snoc ns k hlt
      have hlk := HNU.out k (by omega)
      generalize ns[k] = x at *
      have hown2 := hown
      unfold OwnSt at hown2
      rw [hlk] at hown2
      go_wp2_with ((with_reducible show wpList _ _ _ _ _ _); refine wpList_loadK (us := bv (dg x)) rfl rfl rfl aggDg (by rw [sizeDg, bv_dg_len]) hc ?_)
      refine (HBY.out x _).mono ?_
      rintro e w6 ⟨rfl, hb6⟩
      go_upto_region 5 with (first
        | ((with_reducible show wpList _ _ _ _ _ _); refine wpList_lit1S rfl rfl rfl ?_; intro w7 g7 hg7 hr7 hb7; clear hg7)
        | ((with_reducible show wpList _ _ _ _ _ _); refine wpList_appK rfl rfl elemS rfl (ownsRow_below hown2 (bstep hb6 hb7)) rfl (m := 1) (by rw [Nat.mul_one]; exact hr7) (one_svE _) (by omega) (by have := hb6.size; have := hb7.size; omega) ?_; intro v8 w8 hown8 _ hb8))
      have hbB : Below w1.heap.size w1 w8 := (bstep hbw (bstep hb6 hb7)).trans hb8
      have hfin : OwnSt w8 w1.heap.size v8 (ns.take (k + 1)) := by
        unfold OwnSt
        rw [hts, List.map_append, sv_app, List.length_append, hlk]
        exact hown8
      clear hown hown2 hown8 hts
      go_wp2_with fail
      exact ⟨⟨k + 1, by omega, by go_num, hfin, hbB⟩, by simp [intOf]; omega⟩
    · have hke : k = ns.length := by omega
      subst hke
      rw [List.take_of_length_le (Nat.le_refl _)] at hown
      unfold OwnSt at hown
      obtain ⟨A5, c5, rfl, h51, h52, hr5⟩ := ownsRow_form hown
      rw [Nat.mul_one] at hr5
      replace q1 := q1.below hbw
      replace q2 := q2.below hbw
      have hbx : Below w.heap.size w wr := hb01.trans (hbw.mono hsz0)
      have HGx := Lib.hid (HG1.out.below hbw)
      have h52' : c5 ≤ 9223372036854775807 := h52
      have hgw : w.heap.size ≤ w.heap.size + 1 + 1 := by omega
      have hq2 := q2.lt
      clear hown
      go_upto_region 7 with fail
      have hS : Below wr.heap.size wr wr.drew := (Below.refl _ wr).drew
      have hbb := HB.out
      refine wp_region_TB (S := Below (wr).heap.size (wr)) 6 (by kernel_rfl) ?_
      refine WpT.take (i := 0) rfl (by kernel_rfl) (fun _ _ _ h => h) (yields_blk rfl rfl rfl aggPx (by rw [sizePx, pxC_size]) q1) (hS) ?_
      try simp only [nrm]
      refine WpT.take (i := 1) rfl (by kernel_rfl) (fun _ _ _ h => h) (.inl ⟨by rfl, fun w hSw => by clear hSw; go_simp; (try go_bits); (try rw [if_pos (by omega)]); (try with_reducible rfl)⟩) (hS) ?_
      try simp only [nrm]
      refine WpT.take (i := 3) rfl (by kernel_rfl) (fun _ _ _ h => h) (.inl ⟨by rfl, fun w hSw => by clear hSw; go_simp; (try go_bits); (try rw [if_pos (by omega)]); (try with_reducible rfl)⟩) (hS) ?_
      try simp only [nrm]
      refine WpT.take (i := 4) rfl (by kernel_rfl) (fun _ _ _ h => h) (.inl ⟨by rfl, fun w hSw => by clear hSw; go_simp; (try go_bits); (try rw [if_pos (by omega)]); (try with_reducible rfl)⟩) (hS) ?_
      try simp only [nrm]
      refine WpT.one (i := 2) rfl (by kernel_rfl) (fun K hK => ?_)
      go_simp; refine (HOF.out A5 ns.length c5 _ (by omega) (hr5.below hS) (HGx.out.below hS)).mono ?_; rintro e w9 ⟨rfl, hb9⟩; replace hS := bstep hS hb9
      refine hK _ _ (hS) ?_; clear hK K; try simp only [nrm]
      refine WpT.take (i := 5) rfl (by kernel_rfl) (fun _ _ _ h => h) (yields_build4 rfl rfl (by rfl) (by rfl) (by rfl) (by rfl) hbb) (hS) ?_
      try simp only [nrm]
      refine WpT.tail (i := 6) rfl (by kernel_rfl) (by kernel_rfl) (fun K hK => ?_)
      refine wp_put (vs := P) rfl (by rfl) (by rfl) (q2.below hS) (by rw [hPs, hQs]) (by rw [sizePa, hPs]) hP1 ?_; intro w8 ht8 b8
      refine hK _ _ ?_; clear hK K; try simp only [nrm]
      refine WpT.done (by kernel_rfl) ?_ _
      go_wp2_with fail
      exact ret_blk rfl rfl rfl b8 aggPa (by rw [sizePa, hPs]) ⟨rfl, (bstep hbx hS).trans (ht8.below _ hgw)⟩
end Go.Proofs.YtieamjjnofelcaaDoor
namespace Go.Proofs.YtieamjjnofelcaaDoor
set_option linter.unusedSimpArgs false
set_option linter.unusedVariables false
open Go.RowKit Exch
deriving instance DecidableEq for Pa
def X1 : ByteArray := ⟨#[120]⟩
def Y1 : ByteArray := ⟨#[121]⟩
def Z1 : ByteArray := ⟨#[122]⟩
def ix : It := ⟨296727873533065360739416893001171078019, X1⟩
def iy : It := ⟨42304486706090533091631299893479609410, Y1⟩
def iz : It := ⟨71392926196949968589399252159039670747, Z1⟩
def a0 : List It := [iy, ix]
def b0 : List It := [iy, iz]
def ab : List It := [iy, iz, ix]
set_option maxRecDepth 100000 in
theorem o1 : ofL [X1, Y1] = a0 := by decide +kernel
set_option maxRecDepth 100000 in
theorem o2 : ofL [Y1, Z1] = b0 := by decide +kernel
set_option maxRecDepth 100000 in
theorem va0 : validS a0 = true := by decide +kernel
def nP : Pa := ⟨2, 0, 0, 0, 0, [iy.nm, iz.nm], ⟨#[]⟩⟩
set_option maxRecDepth 100000 in
theorem k1 : hearL b0 (sumP a0 ⟨0, 0⟩) = (b0, [nP], 0) := by decide +kernel
set_option maxRecDepth 100000 in
theorem k2 : hearL a0 nP = (a0, [wantP [iz.nm], textP X1], 0) := by decide +kernel
set_option maxRecDepth 100000 in
theorem k3 : hearL b0 (wantP [iz.nm]) = (b0, [textP Z1], 0) := by decide +kernel
set_option maxRecDepth 100000 in
theorem k4 : hearL b0 (textP X1) = (ab, [], 0) := by decide +kernel
set_option maxRecDepth 100000 in
theorem k5 : hearL a0 (textP Z1) = (ab, [], 0) := by decide +kernel
set_option maxRecDepth 100000 in
theorem k6 : hearL ab (sumP ab ⟨0, 0⟩) = (ab, [], 0) := by decide +kernel
section
variable {W : World} {G : Nat → Prop}
theorem hear_eq {A : Option Addr} {n c : Nat} {l l' : List It} {r : PaR} {ps : List Pa} {er : Int} (hk : hearL l r.p = (l', ps, er)) (hs : StAt W G A n c l) (hl : l.length ≤ 900) (hp : PaAt W G r) (hG : ∀ g, G g → g < W.heap.size) (hg : GCon W) :
    Calls Tryd.prog 33 #[stV A n c, paV r.p r.A r.n r.c] W fun e w' => ∃ A n c vo rs, e = .returned (.tuple #[stV A n c, vo, .int .i64 er]) ∧ StAt w' G A n c l' ∧ OutP w' W.heap.size vo rs ∧ rs.map (·.p) = ps ∧ (∀ q ∈ rs, PaOk q.p) ∧ Below W.heap.size W w' := by
  have h := hear_at hs hl hp hG hg
  rw [hk] at h
  refine h.mono fun e w' h => ?_
  obtain ⟨A', n', c', vo, rs, he, h1, h2, h3, h4, h5, -⟩ := h
  exact ⟨A', n', c', vo, rs, he, h1, h2, h3, h4, h5⟩
theorem out_cell {go : Nat} {rs : List PaR} (h : Rd W (some ⟨go, 0, none⟩) (rs.length * 37) (paRs rs)) (i : Nat) (hi : i < rs.length) (j : Nat) (u : Value) (hj : (rs[i].cells)[j]? = some u) : W.cell? ⟨go, i * 37 + j, none⟩ = some u := by
  have e : paRs rs = rs.flatMap PaR.cells := by simp only [paRs, List.flatMap_def]
  rw [e] at h
  obtain ⟨ad, e1, h1⟩ := Rd.elem (f := PaR.cells) (k := 37) (fun r => paL_len r.p r.A r.n r.c) (by omega) h hi
  obtain rfl := Option.some.inj e1
  have h2 := h1 j u hj
  rw [add_of_add] at h2
  have e2 : (⟨go, 0, none⟩ : Addr).add (i * 37 + j) = ⟨go, i * 37 + j, none⟩ := by
    unfold Addr.add
    split
    · rename_i h0; rw [h0]
    · simp
  rwa [e2] at h2
theorem out_row {go : Nat} {rs : List PaR} (h : Rd W (some ⟨go, 0, none⟩) (rs.length * 37) (paRs rs)) (i : Nat) (hi : i < rs.length) : ∀ j u, (rs[i].cells)[j]? = some u → W.cell? ((⟨go, i * 37, none⟩ : Addr).add j) = some u := by
  intro j u hj
  have h2 := out_cell h i hi j u hj
  unfold Addr.add
  split
  · rename_i h0; subst h0; exact h2
  · exact h2
theorem paL_kind (m : Pa) (A : Option Addr) (n c : Nat) : (paL m A n c)[0]? = some (.int .i64 m.kind) := rfl
theorem paL_names (m : Pa) (A : Option Addr) (n c : Nat) : (paL m A n c)[35]? = some (.slice A n c) := by rw [paL_tail m A n c 1]; rfl
theorem paL_text (m : Pa) (A : Option Addr) (n c : Nat) : (paL m A n c)[36]? = some (.string m.text) := by rw [paL_tail m A n c 2]; rfl
end
theorem build2_S (s u : ByteArray) (W : World) : (Instr.buildSlice 66 2 #[(0, .string s), (1, .string u)]).run Tryd.prog W = .ok (.slice (some ⟨W.heap.size, 0, none⟩) 2 2) (W.alloc (.cells #[.string s, .string u] 9)) := by kernel_rfl
theorem wpList_lit2S {w : World} {ops : Array Oper} {rest : List Oper} {o : Oper} {a : Act} {Q : Exit → Act → World → Prop} (hgd : o.guard = none) {x y : Operand} {s u : ByteArray} (ho : o.op = .buildSlice 66 2 #[(0, x), (1, y)]) (hx : a.eval x = .string s) (hy : a.eval y = .string u)
    (h : ∀ w' g, g = w.heap.size → Rd w' (some ⟨g, 0, none⟩) 2 (sv [s, u]) → Below w.heap.size w w' → wpList Tryd.prog ops Q rest (a.put o.dst (.slice (some ⟨g, 0, none⟩) 2 2)) w') : wpList Tryd.prog ops Q (o :: rest) a w := by
  refine wpList_plain hgd fun K hK => ?_
  have h2 := h _ _ rfl (rd_newL w (sv [s, u]) 9) ((Below.refl _ _).alloc (Nat.le_refl _) _)
  unfold Oper.wp execOp
  simp only [ho, List.map_toArray, List.map_cons, List.map_nil, hx, hy, build2_S, Sem.run_bind, Result.andThen_ok, Sem.run_pure]
  exact hK _ _ h2
end Go.Proofs.YtieamjjnofelcaaDoor
namespace Go.Proofs.YtieamjjnofelcaaDoor
set_option linter.unusedSimpArgs false
set_option linter.unusedVariables false
open Go.RowKit Exch
set_option maxRecDepth 20000 in
set_option maxHeartbeats 1000000 in
theorem same44_any (a b : List It) (A : Option Addr) (n c : Nat) (B : Option Addr) (m d : Nat) (w : World) (ha : RdT w A n a) (hb : RdT w B m b) (hn : n ≤ 1000000) (hm : m ≤ 1000000) (wa : ∀ x ∈ a, WfT x) (wb : ∀ x ∈ b, WfT x) :
    Calls Tryd.prog 22 #[stV A n c, stV B m d] w fun e w' => e = .returned (.bool (decide (a = b))) ∧ Below w.heap.size w w' := by
  obtain ⟨wx, hwa, hb0, q0, q1⟩ : ∃ wx : World, wx = (w.alloc (.cells (stC A n c) 24)).alloc (.cells (stC B m d) 24) ∧ Below w.heap.size w wx ∧ Blk wx w.heap.size 24 (stC A n c) ∧ Blk wx (w.heap.size + 1) 24 (stC B m d) :=
    ⟨_, rfl, ((Below.refl w.heap.size w).alloc (Nat.le_refl _) _).alloc (by simp) _, (Blk.new _ _ _).alloc _, Blk.new2 _ _ _ _⟩
  have HWA := Lib.hid hwa
  clear hwa
  have HA := Lib.hid ha
  have HB := Lib.hid hb
  have HLA := Lib.hid ha.len
  have HLB := Lib.hid hb.len
  have WA := Lib.hid wa
  have WB := Lib.hid wb
  clear wa wb
  have c0 := q0.cell 0
  have c1 := q1.cell 0
  simp only [List.getElem?_toArray, List.getElem?_cons_zero] at c0 c1
  by_cases hnm : n = m
  · subst hnm
    have HX := Lib.hid (fun (h : ∀ j (hj : j < a.length) (hj2 : j < b.length), a[j] = b[j]) => (show decide (a = b) = true by
      rw [decide_eq_true_eq]; exact List.ext_getElem (by rw [ha.len, hb.len]) (fun i h1 h2 => h i h1 h2)))
    have HY := Lib.hid (fun k (h1 : k < a.length) (h2 : k < b.length) (h : a[k] ≠ b[k]) => drop_ne h1 h2 h)
    generalize decide (a = b) = V at *
    clear ha hb
    have dn : ((n : Int) != n) = false := by simp
    go_enter Tryd.func22, Tryd.ntmps22
    go_upto_region 1 with (fail)
    change Code.wp _ _ _ _ ((w.alloc (.cells (stC A n c) 24)).alloc (.cells (stC B n d) 24))
    rw [← HWA.out]
    go_wp2_with fail
    clear c0 c1
    go_loopw [5] (fun vk wr => ∃ k : Nat, k ≤ n ∧ vk = .int .i64 k ∧ Below wx.heap.size wx wr ∧ Hid (∀ j (hj : j < a.length) (hj2 : j < b.length), j < k → a[j] = b[j])) (fun vk _ => n - (intOf vk).toNat)
    case atStart => exact ⟨0, Nat.zero_le _, rfl, Below.refl _ _, Lib.hid (fun j hj hj2 h => by omega)⟩
    case round =>
      obtain ⟨k, hk, rfl, hbw, HV⟩ := hrel
      replace q0 := q0.below hbw
      replace q1 := q1.below hbw
      have hbx := bstep hb0 hbw
      have c0 := q0.cell 0
      have c1 := q1.cell 0
      simp only [List.getElem?_toArray, List.getElem?_cons_zero] at c0 c1
      by_cases hlt : k < n
      · have hka : k < a.length := by have := HLA.out; omega
        have hkb : k < b.length := by have := HLB.out; omega
        obtain ⟨ad, rfl, hca⟩ := (HA.out.below hbx).elem hka
        obtain ⟨bd, rfl, hcb⟩ := (HB.out.below hbx).elem hkb
        have hne := neq_It (WA.out _ (List.getElem_mem hka)).nm (WB.out _ (List.getElem_mem hkb)).nm
        have HN : Hid (a[k] = b[k] → ∀ j (hj : j < a.length) (hj2 : j < b.length), j < k + 1 → a[j] = b[j]) := Lib.hid (fun h j hj hj2 hjk => by
          by_cases e : j = k
          · subst e; exact h
          · exact HV.out j hj hj2 (by omega))
        have HM := Lib.hid (HY.out k hka hkb)
        generalize a[k] = x at *
        generalize b[k] = y at *
        go_upto_region 6 with fail
        by_cases hxy : x = y
        · have dx : eqT x y = true := (eqT_iff x y).2 hxy
          rw [dx] at hne
          have HN2 := Lib.hid (HN.out hxy)
          clear HN HM HV dx hxy
          refine wp_region_T 11 (by kernel_rfl) ?_
          refine WpT.take (i := 0) rfl (by kernel_rfl) (fun _ _ _ h => h) (.inl ⟨by rfl, fun w hSw => by clear hSw; go_simp; (try go_bits); (try rw [if_pos (by omega)]); (try with_reducible rfl)⟩) ((Below.refl _ _).drew) ?_
          try simp only [nrm]
          refine WpT.take (i := 1) rfl (by kernel_rfl) (fun _ _ _ h => h) (yields_load rfl rfl rfl (by kernel_rfl) c0) ((Below.refl _ _).drew) ?_
          try simp only [nrm]
          refine WpT.take (i := 2) rfl (by kernel_rfl) (fun _ _ _ h => h) (.inl ⟨by rfl, fun w hSw => by clear hSw; go_simp; (try go_bits); (try rw [if_pos (by omega)]); (try with_reducible rfl)⟩) ((Below.refl _ _).drew) ?_
          try simp only [nrm]
          refine WpT.take (i := 3) rfl (by kernel_rfl) (fun _ _ _ h => h) (.inl ⟨by rfl, fun w hSw => by clear hSw; go_simp; (try go_bits); (try rw [if_pos (by omega)]); (try with_reducible rfl)⟩) ((Below.refl _ _).drew) ?_
          try simp only [nrm]
          refine WpT.take (i := 4) rfl (by kernel_rfl) (fun _ _ _ h => h) (yields_loadK (us := itL x) rfl rfl rfl aggIt (by rw [sizeIt, itL_len]) hca) ((Below.refl _ _).drew) ?_
          try simp only [nrm]
          refine WpT.take (i := 5) rfl (by kernel_rfl) (fun _ _ _ h => h) (.inl ⟨by rfl, fun w hSw => by clear hSw; go_simp; (try go_bits); (try rw [if_pos (by omega)]); (try with_reducible rfl)⟩) ((Below.refl _ _).drew) ?_
          try simp only [nrm]
          refine WpT.take (i := 6) rfl (by kernel_rfl) (fun _ _ _ h => h) (yields_load rfl rfl rfl (by kernel_rfl) c1) ((Below.refl _ _).drew) ?_
          try simp only [nrm]
          refine WpT.take (i := 7) rfl (by kernel_rfl) (fun _ _ _ h => h) (.inl ⟨by rfl, fun w hSw => by clear hSw; go_simp; (try go_bits); (try rw [if_pos (by omega)]); (try with_reducible rfl)⟩) ((Below.refl _ _).drew) ?_
          try simp only [nrm]
          refine WpT.take (i := 8) rfl (by kernel_rfl) (fun _ _ _ h => h) (.inl ⟨by rfl, fun w hSw => by clear hSw; go_simp; (try go_bits); (try rw [if_pos (by omega)]); (try with_reducible rfl)⟩) ((Below.refl _ _).drew) ?_
          try simp only [nrm]
          refine WpT.take (i := 9) rfl (by kernel_rfl) (fun _ _ _ h => h) (yields_loadK (us := itL y) rfl rfl rfl aggIt (by rw [sizeIt, itL_len]) hcb) ((Below.refl _ _).drew) ?_
          try simp only [nrm]
          refine WpT.take (i := 10) rfl (by kernel_rfl) (fun _ _ _ h => h) (.inl ⟨by rfl, fun w hSw => by clear hSw; go_simp; (try go_bits); (try rw [if_pos (by omega)]); (try with_reducible rfl)⟩) ((Below.refl _ _).drew) ?_
          try simp only [nrm]
          refine WpT.done (by kernel_rfl) ?_ _
          go_wp2_with fail
          exact ⟨⟨k + 1, by omega, by go_num, hbw.drew, HN2⟩, by simp [intOf]; omega⟩
        · have dx : eqT x y = false := by rw [Bool.eq_false_iff]; exact fun h => hxy ((eqT_iff x y).1 h)
          rw [dx] at hne
          have hV := HM.out hxy
          subst hV
          clear HN HM HV dx hxy HX HY
          refine wp_region_T 11 (by kernel_rfl) ?_
          refine WpT.take (i := 0) rfl (by kernel_rfl) (fun _ _ _ h => h) (.inl ⟨by rfl, fun w hSw => by clear hSw; go_simp; (try go_bits); (try rw [if_pos (by omega)]); (try with_reducible rfl)⟩) ((Below.refl _ _).drew) ?_
          try simp only [nrm]
          refine WpT.take (i := 1) rfl (by kernel_rfl) (fun _ _ _ h => h) (yields_load rfl rfl rfl (by kernel_rfl) c0) ((Below.refl _ _).drew) ?_
          try simp only [nrm]
          refine WpT.take (i := 2) rfl (by kernel_rfl) (fun _ _ _ h => h) (.inl ⟨by rfl, fun w hSw => by clear hSw; go_simp; (try go_bits); (try rw [if_pos (by omega)]); (try with_reducible rfl)⟩) ((Below.refl _ _).drew) ?_
          try simp only [nrm]
          refine WpT.take (i := 3) rfl (by kernel_rfl) (fun _ _ _ h => h) (.inl ⟨by rfl, fun w hSw => by clear hSw; go_simp; (try go_bits); (try rw [if_pos (by omega)]); (try with_reducible rfl)⟩) ((Below.refl _ _).drew) ?_
          try simp only [nrm]
          refine WpT.take (i := 4) rfl (by kernel_rfl) (fun _ _ _ h => h) (yields_loadK (us := itL x) rfl rfl rfl aggIt (by rw [sizeIt, itL_len]) hca) ((Below.refl _ _).drew) ?_
          try simp only [nrm]
          refine WpT.take (i := 5) rfl (by kernel_rfl) (fun _ _ _ h => h) (.inl ⟨by rfl, fun w hSw => by clear hSw; go_simp; (try go_bits); (try rw [if_pos (by omega)]); (try with_reducible rfl)⟩) ((Below.refl _ _).drew) ?_
          try simp only [nrm]
          refine WpT.take (i := 6) rfl (by kernel_rfl) (fun _ _ _ h => h) (yields_load rfl rfl rfl (by kernel_rfl) c1) ((Below.refl _ _).drew) ?_
          try simp only [nrm]
          refine WpT.take (i := 7) rfl (by kernel_rfl) (fun _ _ _ h => h) (.inl ⟨by rfl, fun w hSw => by clear hSw; go_simp; (try go_bits); (try rw [if_pos (by omega)]); (try with_reducible rfl)⟩) ((Below.refl _ _).drew) ?_
          try simp only [nrm]
          refine WpT.take (i := 8) rfl (by kernel_rfl) (fun _ _ _ h => h) (.inl ⟨by rfl, fun w hSw => by clear hSw; go_simp; (try go_bits); (try rw [if_pos (by omega)]); (try with_reducible rfl)⟩) ((Below.refl _ _).drew) ?_
          try simp only [nrm]
          refine WpT.take (i := 9) rfl (by kernel_rfl) (fun _ _ _ h => h) (yields_loadK (us := itL y) rfl rfl rfl aggIt (by rw [sizeIt, itL_len]) hcb) ((Below.refl _ _).drew) ?_
          try simp only [nrm]
          refine WpT.take (i := 10) rfl (by kernel_rfl) (fun _ _ _ h => h) (.inl ⟨by rfl, fun w hSw => by clear hSw; go_simp; (try go_bits); (try rw [if_pos (by omega)]); (try with_reducible rfl)⟩) ((Below.refl _ _).drew) ?_
          try simp only [nrm]
          refine WpT.done (by kernel_rfl) ?_ _
          go_wp2_with fail
          go_ret
          exact ⟨rfl, hbx.drew⟩
      · obtain rfl : k = n := by omega
        have hV : V = true := HX.out (fun j hj hj2 => HV.out j hj hj2 (by have := HLA.out; omega))
        subst hV
        clear HX HY HV
        go_wp2_with fail
        go_ret
        exact ⟨rfl, hbx⟩
  · have hV : decide (a = b) = false := by
      rw [decide_eq_false_iff_not]
      intro e
      subst e
      exact hnm (ha.len.symm.trans hb.len)
    rw [hV]
    have dn : ((n : Int) != m) = true := by simp; omega
    clear ha hb hV
    go_enter Tryd.func22, Tryd.ntmps22
    go_upto_region 1 with (fail)
    change Code.wp _ _ _ _ ((w.alloc (.cells (stC A n c) 24)).alloc (.cells (stC B m d) 24))
    rw [← HWA.out]
    go_wp2_with fail
    go_ret
    exact ⟨rfl, hb0⟩
end Go.Proofs.YtieamjjnofelcaaDoor
namespace Go.Proofs.YtieamjjnofelcaaDoor
set_option linter.unusedSimpArgs false
set_option linter.unusedVariables false
open Go.RowKit Exch
/-- A row of parcels in a world. -/
structure OutAt (W : World) (G : Nat → Prop) (go : Nat) (rs : List PaR) : Prop where
  rd : Rd W (some ⟨go, 0, none⟩) (rs.length * 37) (paRs rs)
  lt : go < W.heap.size
  ne : ∀ g, G g → go ≠ g
  pa : ∀ r ∈ rs, PaAt W G r
section
variable {W W' : World} {G : Nat → Prop}
theorem OutAt.below {go : Nat} {rs : List PaR} (h : OutAt W G go rs) (hb : Below W.heap.size W W') : OutAt W' G go rs := ⟨h.rd.below hb, Nat.lt_of_lt_of_le h.lt hb.size, h.ne, fun r hr => (h.pa r hr).below hb⟩
theorem OutAt.turned {go g : Nat} {rs : List PaR} (h : OutAt W G go rs) (ht : Turned g W W') (hg : G g) : OutAt W' G go rs := ⟨h.rd.turned ht (fun ad e => by obtain rfl := Option.some.inj e; exact h.ne g hg), by rw [ht.size]; exact h.lt, h.ne, fun r hr => (h.pa r hr).turned ht hg⟩
theorem OutP.toAt {B : Nat} {v : Value} {rs : List PaR} (h : OutP W B v rs) (hB : ∀ g, G g → g < B) (hok : ∀ q ∈ rs, PaOk q.p) (hne : rs ≠ []) : ∃ go co, v = .slice (some ⟨go, 0, none⟩) rs.length co ∧ OutAt W G go rs := by
  obtain ⟨go, co, e, h1, h2, h3⟩ := h.form hne
  exact ⟨go, co, e, h3, h2, fun g hg => by have := hB g hg; omega, fun r hr => h.at_ hB hr (hok r hr)⟩
theorem OutAt.cell {go : Nat} {rs : List PaR} (h : OutAt W G go rs) (i : Nat) (hi : i < rs.length) (j k : Nat) (u : Value) (hj : (rs[i].cells)[j]? = some u) (hk : i * 37 + j = k) : W.cell? ⟨go, k, none⟩ = some u := by
  subst hk; exact out_cell h.rd i hi j u hj
theorem OutAt.row {go : Nat} {rs : List PaR} (h : OutAt W G go rs) (i k : Nat) (hi : i < rs.length) (hk : i * 37 = k) : ∀ j u, (rs[i].cells)[j]? = some u → W.cell? ((⟨go, k, none⟩ : Addr).add j) = some u := by
  subst hk; exact out_row h.rd i hi
end
theorem hk_of {l : List It} {q p : Pa} {r : List It × List Pa × Int} (h : q = p) (k : hearL l p = r) : hearL l q = r := by rw [h]; exact k
theorem map_one {rs : List PaR} {p : Pa} (h : rs.map (·.p) = [p]) : ∃ q, rs = [q] ∧ q.p = p := by
  match rs, h with
  | [q], h => exact ⟨q, rfl, by simpa using h⟩
theorem map_two {rs : List PaR} {p p' : Pa} (h : rs.map (·.p) = [p, p']) : ∃ q q', rs = [q, q'] ∧ q.p = p ∧ q'.p = p' := by
  match rs, h with
  | [q, q'], h => exact ⟨q, q', rfl, by simpa using h⟩
set_option maxRecDepth 20000 in
set_option maxHeartbeats 8000000 in
theorem sanity_any (w : World) (hg : GCon w) (hr : RCon w) : Calls Tryd.prog 10 #[] w fun e w' => e = .returned (.bool true) ∧ Below w.heap.size w w' := by
  have HG := Lib.hid hg
  have HRC := Lib.hid hr
  clear hg hr
  obtain ⟨SP, hSP⟩ : ∃ SP, sumP a0 ⟨0, 0⟩ = SP := ⟨_, rfl⟩
  obtain ⟨SQ, hSQ⟩ : ∃ SQ, sumP ab ⟨0, 0⟩ = SQ := ⟨_, rfl⟩
  have K1 := k1
  have K6 := k6
  rw [hSP] at K1
  rw [hSQ] at K6
  have HK1 := Lib.hid K1
  have HK6 := Lib.hid K6
  clear K1 K6
  have HSP : Hid (∀ W G, PaAt W G ⟨SP, none, 0, 0⟩) := Lib.hid (fun W G => by rw [← hSP]; exact ⟨RdD.none_ W, Under.none _, sumP_ok a0 _ right0, fun g _ => Away.none g⟩)
  have HSQ : Hid (∀ W G, PaAt W G ⟨SQ, none, 0, 0⟩) := Lib.hid (fun W G => by rw [← hSQ]; exact ⟨RdD.none_ W, Under.none _, sumP_ok ab _ right0, fun g _ => Away.none g⟩)
  have HO1 : Hid (∀ W G A n c, StAt W G A n c a0 → GCon W → Calls Tryd.prog 29 #[stV A n c] W fun e w' => e = .returned (paV SP none 0 0) ∧ Below W.heap.size W w') := Lib.hid (fun W G A n c h hg => by rw [← hSP]; exact open_any a0 A n c W (by have := h.rd.len; simp [a0] at this; omega) h.rd h.nc h.cm h.vl.wf h.vl.so hg)
  have HO6 : Hid (∀ W G A n c, StAt W G A n c ab → GCon W → Calls Tryd.prog 29 #[stV A n c] W fun e w' => e = .returned (paV SQ none 0 0) ∧ Below W.heap.size W w') := Lib.hid (fun W G A n c h hg => by rw [← hSQ]; exact open_any ab A n c W (by have := h.rd.len; simp [ab] at this; omega) h.rd h.nc h.cm h.vl.wf h.vl.so hg)
  clear hSP hSQ
  go_enter Tryd.func10, Tryd.ntmps10
  go_wp2_with ((with_reducible show wpList _ _ _ (⟨some 19, _, _, _, _, _⟩ :: _) _ _); refine wpList_lit2S rfl rfl (s := X1) (u := Y1) rfl rfl ?_; intro wa ga hga ra hba; clear hga)
  refine (lawOf_any [X1, Y1] _ 2 2 wa (by omega) rfl ra (by intro t ht; simp at ht; rcases ht with rfl | rfl <;> decide) (HG.out.below hba)).mono ?_
  rw [o1]
  rintro e wb ⟨A1, n1, c1, rfl, r1, hn1, hc1, hbb, hka1⟩
  have hbq : Below w.heap.size w wb := bstep hba hbb
  have s1 : StAt wb (fun _ => False) A1 n1 c1 a0 := ⟨r1, hn1, hc1, fun ad e => Nat.lt_of_not_le (fun hc => hka1 ad.block (.inr hc) (Away.none _) ad e rfl), by rw [← o1]; exact ofL_vl (by intro t ht; simp at ht; rcases ht with rfl | rfl <;> decide), fun g h => h.elim⟩
  have hx1 : Hid (∀ g, wb.heap.size ≤ g → Away A1 g) := Lib.hid (fun g hg => hka1 g (.inr hg) (Away.none _))
  clear r1 hn1 hc1 hbb hka1 hba ra
  go_upto_region 2 with first
    | ((with_reducible show wpList _ _ _ (⟨some 1, _, _, _, _, _⟩ :: _) _ _); refine wpList_new rfl rfl zeroSt ?_; intro w1 g1 hg1 q1 hb1 lt1; have HG1 := Lib.hid hg1; clear hg1)
    | ((with_reducible show wpList _ _ _ (⟨none, _, _, _, _, _⟩ :: _) _ _); refine wpList_put (vs := stC A1 n1 c1) rfl rfl rfl rfl q1 rfl (by kernel_rfl) (by simp [Value.oneCell']) ?_; intro wc ht1 b1)
  have hgw1 : w.heap.size ≤ g1 := by have := HG1.out; have := hbq.size; omega
  have hge1 : wb.heap.size ≤ g1 := by have := HG1.out; omega
  have s1 := (s1.below (hb1.trans (ht1.below _ hge1)))
  have hbq := bstep hbq (hb1.trans (ht1.below _ hge1))
  have ltc1 : g1 < wc.heap.size := by rw [ht1.size]; exact lt1
  have hy1 := Lib.hid (hx1.out g1 hge1)
  clear hb1 ht1 q1 hx1 lt1 HG1
  go_wp2_with ((with_reducible show wpList _ _ _ (⟨some 24, _, _, _, _, _⟩ :: _) _ _); refine wpList_lit2S rfl rfl (s := Y1) (u := Z1) rfl rfl ?_; intro wa ga hga ra hba; clear hga)
  refine (lawOf_any [Y1, Z1] _ 2 2 wa (by omega) rfl ra (by intro t ht; simp at ht; rcases ht with rfl | rfl <;> decide) (HG.out.below (bstep hbq hba))).mono ?_
  rw [o2]
  rintro e wb ⟨A3, n3, c3, rfl, r3, hn3, hc3, hbb, hka3⟩
  have hbq := bstep hbq (bstep hba hbb)
  have s1 := s1.below (bstep hba hbb)
  have b1 := b1.below (bstep hba hbb)
  have ltc1 : g1 < wb.heap.size := by have := (bstep hba hbb).size; omega
  have lta1 : g1 < wa.heap.size := by have := hba.size; omega
  have s3 : StAt wb (fun _ => False) A3 n3 c3 b0 := ⟨r3, hn3, hc3, fun ad e => Nat.lt_of_not_le (fun hc => hka3 ad.block (.inr hc) (Away.none _) ad e rfl), by rw [← o2]; exact ofL_vl (by intro t ht; simp at ht; rcases ht with rfl | rfl <;> decide), fun g h => h.elim⟩
  have hx3 : Hid (∀ g, wb.heap.size ≤ g → Away A3 g) := Lib.hid (fun g hg => hka3 g (.inr hg) (Away.none _))
  have hx31 : Hid (Away A3 g1) := Lib.hid (hka3 g1 (.inl lta1) (Away.none _))
  clear r3 hn3 hc3 hbb hka3 hba ra lta1
  go_upto_region 3 with first
    | ((with_reducible show wpList _ _ _ (⟨some 3, _, _, _, _, _⟩ :: _) _ _); refine wpList_new rfl rfl zeroSt ?_; intro w3 g3 hg3 q3 hb3 lt3; have HG3 := Lib.hid hg3; clear hg3)
    | ((with_reducible show wpList _ _ _ (⟨none, _, _, _, _, _⟩ :: _) _ _); refine wpList_put (vs := stC A3 n3 c3) rfl rfl rfl rfl q3 rfl (by kernel_rfl) (by simp [Value.oneCell']) ?_; intro wd ht3 b3)
  have hge3 : wb.heap.size ≤ g3 := by have := HG3.out; omega
  have hg13 : g1 ≠ g3 := by omega
  have hg31 : g3 ≠ g1 := by omega
  have hbx := hb3.trans (ht3.below _ hge3)
  have s1 : StAt wd (fun g => g = g1 ∨ g = g3) A1 n1 c1 a0 := by
    have h := s1.below hbx
    exact ⟨h.rd, h.nc, h.cm, h.un, h.vl, fun g hg => by
      rcases hg with rfl | rfl
      · exact hy1.out
      · exact s1.un.away hge3⟩
  have s3 : StAt wd (fun g => g = g1 ∨ g = g3) A3 n3 c3 b0 := by
    have h := s3.below hbx
    exact ⟨h.rd, h.nc, h.cm, h.un, h.vl, fun g hg => by
      rcases hg with rfl | rfl
      · exact hx31.out
      · exact hx3.out _ hge3⟩
  have b1 := b1.below hbx
  have hbq := bstep hbq hbx
  have ltd1 : g1 < wd.heap.size := by have := hbx.size; omega
  have ltd3 : g3 < wd.heap.size := b3.lt
  have hgw3 : w.heap.size ≤ g3 := by omega
  clear hb3 ht3 q3 hbx hx3 hx31 hy1 lt3 HG3 ltc1 hge1
  have hn1 : n1 = 2 := s1.rd.len.symm
  have hv1 := valid_any a0 A1 n1 c1 wd (by omega) s1.rd s1.vl.wf (fun x hx => by have := (s1.vl.it x hx).2; omega) (HG.out.below hbq)
  rw [va0] at hv1
  have HV1 := Lib.hid hv1
  have HN1 := Lib.hid hn1
  clear hv1
  have cst1 := b1.cell 0
  simp only [List.getElem?_toArray, List.getElem?_cons_zero] at cst1
  have hcs1 := blk_cells (xs := [.slice A1 n1 c1]) b1
  have hne2 : ((n1 : Int) != 2) = false := by simp; omega
  have hne2b : decide ((n1 : Int) = 2) = true := by simp; omega
  clear hn1
  go_wp2_with ((with_reducible show wpList _ _ _ (⟨some 41, _, _, _, _, _⟩ :: _) _ _); refine wpList_loadKW (us := [.slice A1 n1 c1]) (by rfl) rfl rfl aggSt (by rw [sizeSt]; rfl) hcs1 ?_)
  refine HV1.out.mono ?_
  rintro e we ⟨rfl, hbe⟩
  have s1 := s1.below hbe
  have s3 := s3.below hbe
  have b1 := b1.below hbe
  have b3 := b3.below hbe
  have hbq := bstep hbq hbe
  have lt1 : g1 < we.heap.size := b1.lt
  have lt3 : g3 < we.heap.size := b3.lt
  clear HV1 hcs1 cst1 hbe ltd1 ltd3 hne2 hne2b HN1
  go_upto_region 5 with fail
  have hS : Below we.heap.size we we.drew := (Below.refl _ _).drew
  have hGl : ∀ g, (g = g1 ∨ g = g3) → g < we.heap.size := by rintro g (rfl | rfl); exact lt1; exact lt3
  refine wp_region_TB (S := Below (we).heap.size (we)) 8 (by kernel_rfl) ?_
  refine WpT.take (i := 0) rfl (by kernel_rfl) (fun _ _ _ h => h) (yields_blk rfl rfl rfl aggSt (by rw [sizeSt]; rfl) b3) (hS) ?_
  try simp only [nrm]
  refine WpT.take (i := 1) rfl (by kernel_rfl) (fun _ _ _ h => h) (yields_blk rfl rfl rfl aggSt (by rw [sizeSt]; rfl) b1) (hS) ?_
  try simp only [nrm]
  refine WpT.one (i := 2) rfl (by kernel_rfl) (fun K hK => ?_)
  go_simp; refine (HO1.out _ _ _ _ _ (s1.below hS) (HG.out.below (bstep hbq hS))).mono ?_; rintro e w4 ⟨rfl, hb4⟩; replace hS := bstep hS hb4
  refine hK _ _ (hS) ?_; clear hK K; try simp only [nrm]
  refine WpT.one (i := 3) rfl (by kernel_rfl) (fun K hK => ?_)
  go_simp; refine (hear_eq (r := ⟨SP, none, 0, 0⟩) HK1.out (s3.below hS) (by decide) (HSP.out _ _) (fun g hg => Nat.lt_of_lt_of_le (hGl g hg) hS.size) (HG.out.below (bstep hbq hS))).mono ?_; rintro e w5 ⟨A5, n5, c5, vo, rs, rfl, st, ho, hps, hok, hb5⟩; replace ho := ho.lower hS.size; replace hS := bstep hS hb5
  refine hK _ _ (hS) ?_; clear hK K; try simp only [nrm]
  refine WpT.take (i := 4) rfl (by kernel_rfl) (fun _ _ _ h => h) (.inl ⟨by rfl, fun w hSw => by clear hSw; go_simp; (try go_bits); (try rw [if_pos (by omega)]); (try with_reducible rfl)⟩) (hS) ?_
  try simp only [nrm]
  refine WpT.take (i := 5) rfl (by kernel_rfl) (fun _ _ _ h => h) (.inl ⟨by rfl, fun w hSw => by clear hSw; go_simp; (try go_bits); (try rw [if_pos (by omega)]); (try with_reducible rfl)⟩) (hS) ?_
  try simp only [nrm]
  refine WpT.takeP (i := 6) rfl (by kernel_rfl) (fun _ _ _ h => h) (.inl ⟨by rfl, fun w hSw => by clear hSw; go_simp; (try go_bits); (try rw [if_pos (by omega)]); (try with_reducible rfl)⟩) (hS) ?_
  try simp only [nrm]
  refine WpT.takeP (i := 7) rfl (by kernel_rfl) (fun _ _ _ h => h) (.inl ⟨by rfl, fun w hSw => by clear hSw; go_simp; (try go_bits); (try rw [if_pos (by omega)]); (try with_reducible rfl)⟩) (hS) ?_
  try simp only [nrm]
  refine WpT.tail (i := 8) rfl (by kernel_rfl) (by kernel_rfl) (fun K hK => ?_)
  refine wp_put (vs := stC A5 n5 c5) rfl (by rfl) (by rfl) (b3.below hS) rfl (by kernel_rfl) (by simp [Value.oneCell']) ?_; intro w5 ht9 b9
  refine hK _ _ ?_; clear hK K; try simp only [nrm]
  refine WpT.tail (i := 9) rfl (by kernel_rfl) (by kernel_rfl) (fun K hK => ?_)
  go_simp; (try go_bits)
  refine hK _ _ ?_; clear hK K; try simp only [nrm]
  refine WpT.tail (i := 10) rfl (by kernel_rfl) (by kernel_rfl) (fun K hK => ?_)
  go_simp; (try go_bits)
  refine hK _ _ ?_; clear hK K; try simp only [nrm]
  refine WpT.done (by kernel_rfl) ?_ _
  skip
  have s1 := (s1.below hS).turned ht9 (Or.inr rfl)
  have s3 := st.turned ht9 (Or.inr rfl)
  have b1 := ht9.blk (b1.below hS) hg13
  have b3 := b9
  have hbq := (bstep hbq hS).trans (ht9.below _ hgw3)
  replace ho := ho.turned ht9 (hGl g3 (Or.inr rfl))
  obtain ⟨q5, rfl, hq5⟩ := map_one hps
  have HQ5 := Lib.hid hq5
  clear hq5
  obtain ⟨o5, co, hvo, ho5⟩ := ho.toAt hGl hok (by simp)
  rw [show ([q5] : List PaR).length = 1 from rfl] at hvo
  subst hvo
  have lt1 : g1 < w5.heap.size := b1.lt
  have lt3 : g3 < w5.heap.size := b3.lt
  clear hps hok ho ht9 hS st hGl
  have ck : w5.cell? ⟨o5, 0, none⟩ = some (.int .i64 2) := by
    have h := ho5.cell 0 (by simp) 0 0 _ (paL_kind q5.p q5.A q5.n q5.c) rfl
    rw [HQ5.out] at h
    exact h
  have cs : w5.cell? ⟨o5, 35, none⟩ = some (.slice q5.A q5.n q5.c) := by
    have h := ho5.cell 0 (by simp) 35 35 _ (paL_names q5.p q5.A q5.n q5.c) rfl
    exact h
  have hl : ((q5.n : Int) != 2) = false := by
    have h := (ho5.pa q5 (by simp)).rd.len
    rw [HQ5.out] at h
    rw [← h]
    try rfl
  go_upto_region 8 with fail
  have hS : Below w5.heap.size w5 w5.drew := (Below.refl _ _).drew
  have hGl : ∀ g, (g = g1 ∨ g = g3) → g < w5.heap.size := by rintro g (rfl | rfl); exact lt1; exact lt3
  have hrow : ∀ j u, (paL q5.p q5.A q5.n q5.c)[j]? = some u → w5.cell? ((⟨o5, 0, none⟩ : Addr).add j) = some u := ho5.row 0 0 (by simp) rfl
  have hpq := ho5.pa q5 (by simp)
  refine wp_region_TB (S := Below (w5).heap.size (w5)) 9 (by kernel_rfl) ?_
  refine WpT.take (i := 0) rfl (by kernel_rfl) (fun _ _ _ h => h) (yields_blk rfl rfl rfl aggSt (by rw [sizeSt]; rfl) b1) (hS) ?_
  try simp only [nrm]
  refine WpT.take (i := 1) rfl (by kernel_rfl) (fun _ _ _ h => h) (.inl ⟨by rfl, fun w hSw => by clear hSw; go_simp; (try go_bits); (try rw [if_pos (by omega)]); (try with_reducible rfl)⟩) (hS) ?_
  try simp only [nrm]
  refine WpT.take (i := 2) rfl (by kernel_rfl) (fun _ _ _ h => h) (.inl ⟨by rfl, fun w hSw => by clear hSw; go_simp; (try go_bits); (try rw [if_pos (by omega)]); (try with_reducible rfl)⟩) (hS) ?_
  try simp only [nrm]
  refine WpT.take (i := 3) rfl (by kernel_rfl) (fun _ _ _ h => h) (yields_loadK (us := paL q5.p q5.A q5.n q5.c) rfl rfl rfl aggPa (by rw [sizePa, paL_len]) hrow) (hS) ?_
  try simp only [nrm]
  refine WpT.one (i := 4) rfl (by kernel_rfl) (fun K hK => ?_)
  go_simp; refine (hear_eq (r := q5) (hk_of HQ5.out k2) (s1.below hS) (by decide) (hpq.below hS) (fun g hg => Nat.lt_of_lt_of_le (hGl g hg) hS.size) (HG.out.below (bstep hbq hS))).mono ?_; rintro e w5 ⟨A7, n7, c7, vo, rs, rfl, st, ho, hps, hok, hb5⟩; replace ho := ho.lower hS.size; replace hS := bstep hS hb5
  refine hK _ _ (hS) ?_; clear hK K; try simp only [nrm]
  refine WpT.take (i := 5) rfl (by kernel_rfl) (fun _ _ _ h => h) (.inl ⟨by rfl, fun w hSw => by clear hSw; go_simp; (try go_bits); (try rw [if_pos (by omega)]); (try with_reducible rfl)⟩) (hS) ?_
  try simp only [nrm]
  refine WpT.take (i := 6) rfl (by kernel_rfl) (fun _ _ _ h => h) (.inl ⟨by rfl, fun w hSw => by clear hSw; go_simp; (try go_bits); (try rw [if_pos (by omega)]); (try with_reducible rfl)⟩) (hS) ?_
  try simp only [nrm]
  refine WpT.takeP (i := 7) rfl (by kernel_rfl) (fun _ _ _ h => h) (.inl ⟨by rfl, fun w hSw => by clear hSw; go_simp; (try go_bits); (try rw [if_pos (by omega)]); (try with_reducible rfl)⟩) (hS) ?_
  try simp only [nrm]
  refine WpT.takeP (i := 8) rfl (by kernel_rfl) (fun _ _ _ h => h) (.inl ⟨by rfl, fun w hSw => by clear hSw; go_simp; (try go_bits); (try rw [if_pos (by omega)]); (try with_reducible rfl)⟩) (hS) ?_
  try simp only [nrm]
  refine WpT.tail (i := 9) rfl (by kernel_rfl) (by kernel_rfl) (fun K hK => ?_)
  refine wp_put (vs := stC A7 n7 c7) rfl (by rfl) (by rfl) (b1.below hS) rfl (by kernel_rfl) (by simp [Value.oneCell']) ?_; intro w6 ht9 b9
  refine hK _ _ ?_; clear hK K; try simp only [nrm]
  refine WpT.tail (i := 10) rfl (by kernel_rfl) (by kernel_rfl) (fun K hK => ?_)
  go_simp; (try go_bits)
  refine hK _ _ ?_; clear hK K; try simp only [nrm]
  refine WpT.tail (i := 11) rfl (by kernel_rfl) (by kernel_rfl) (fun K hK => ?_)
  go_simp; (try go_bits)
  refine hK _ _ ?_; clear hK K; try simp only [nrm]
  refine WpT.done (by kernel_rfl) ?_ _
  skip
  have s3 := (s3.below hS).turned ht9 (Or.inl rfl)
  have s1 := st.turned ht9 (Or.inl rfl)
  have b3 := ht9.blk (b3.below hS) hg31
  have b1 := b9
  have hbq := (bstep hbq hS).trans (ht9.below _ hgw1)
  replace ho := ho.turned ht9 (hGl g1 (Or.inl rfl))
  obtain ⟨q7, p7, rfl, hq7, hp7⟩ := map_two hps
  have HQ7 := Lib.hid hq7
  have HP7 := Lib.hid hp7
  clear hq7 hp7
  obtain ⟨o7, co, hvo, ho7⟩ := ho.toAt hGl hok (by simp)
  rw [show ([q7, p7] : List PaR).length = 2 from rfl] at hvo
  subst hvo
  have lt1 : g1 < w6.heap.size := b1.lt
  have lt3 : g3 < w6.heap.size := b3.lt
  clear hps hok ho ht9 hS st hGl hrow hpq
  clear ck cs hl ho5
  have ck : w6.cell? ⟨o7, 0, none⟩ = some (.int .i64 3) := by
    have h := ho7.cell 0 (by simp) 0 0 _ (paL_kind q7.p q7.A q7.n q7.c) rfl
    rw [HQ7.out] at h
    exact h
  have cs : w6.cell? ⟨o7, 35, none⟩ = some (.slice q7.A q7.n q7.c) := by
    have h := ho7.cell 0 (by simp) 35 35 _ (paL_names q7.p q7.A q7.n q7.c) rfl
    exact h
  have hl : ((q7.n : Int) != 1) = false := by
    have h := (ho7.pa q7 (by simp)).rd.len
    rw [HQ7.out] at h
    rw [← h]
    try rfl
  have ct : w6.cell? ⟨o7, 73, none⟩ = some (.string ⟨#[120]⟩) := by
    have h := ho7.cell 1 (by simp) 36 73 _ (paL_text p7.p p7.A p7.n p7.c) rfl
    rw [HP7.out] at h
    exact h
  go_upto_region 11 with fail
  have hS : Below w6.heap.size w6 w6.drew := (Below.refl _ _).drew
  have hGl : ∀ g, (g = g1 ∨ g = g3) → g < w6.heap.size := by rintro g (rfl | rfl); exact lt1; exact lt3
  have hrow : ∀ j u, (paL q7.p q7.A q7.n q7.c)[j]? = some u → w6.cell? ((⟨o7, 0, none⟩ : Addr).add j) = some u := ho7.row 0 0 (by simp) rfl
  have hpq := ho7.pa q7 (by simp)
  refine wp_region_TB (S := Below (w6).heap.size (w6)) 9 (by kernel_rfl) ?_
  refine WpT.take (i := 0) rfl (by kernel_rfl) (fun _ _ _ h => h) (yields_blk rfl rfl rfl aggSt (by rw [sizeSt]; rfl) b3) (hS) ?_
  try simp only [nrm]
  refine WpT.take (i := 1) rfl (by kernel_rfl) (fun _ _ _ h => h) (.inl ⟨by rfl, fun w hSw => by clear hSw; go_simp; (try go_bits); (try rw [if_pos (by omega)]); (try with_reducible rfl)⟩) (hS) ?_
  try simp only [nrm]
  refine WpT.take (i := 2) rfl (by kernel_rfl) (fun _ _ _ h => h) (.inl ⟨by rfl, fun w hSw => by clear hSw; go_simp; (try go_bits); (try rw [if_pos (by omega)]); (try with_reducible rfl)⟩) (hS) ?_
  try simp only [nrm]
  refine WpT.take (i := 3) rfl (by kernel_rfl) (fun _ _ _ h => h) (yields_loadK (us := paL q7.p q7.A q7.n q7.c) rfl rfl rfl aggPa (by rw [sizePa, paL_len]) hrow) (hS) ?_
  try simp only [nrm]
  refine WpT.one (i := 4) rfl (by kernel_rfl) (fun K hK => ?_)
  go_simp; refine (hear_eq (r := q7) (hk_of HQ7.out k3) (s3.below hS) (by decide) (hpq.below hS) (fun g hg => Nat.lt_of_lt_of_le (hGl g hg) hS.size) (HG.out.below (bstep hbq hS))).mono ?_; rintro e w5 ⟨A9, n9, c9, vo, rs, rfl, st, ho, hps, hok, hb5⟩; replace ho := ho.lower hS.size; replace hS := bstep hS hb5
  refine hK _ _ (hS) ?_; clear hK K; try simp only [nrm]
  refine WpT.take (i := 5) rfl (by kernel_rfl) (fun _ _ _ h => h) (.inl ⟨by rfl, fun w hSw => by clear hSw; go_simp; (try go_bits); (try rw [if_pos (by omega)]); (try with_reducible rfl)⟩) (hS) ?_
  try simp only [nrm]
  refine WpT.take (i := 6) rfl (by kernel_rfl) (fun _ _ _ h => h) (.inl ⟨by rfl, fun w hSw => by clear hSw; go_simp; (try go_bits); (try rw [if_pos (by omega)]); (try with_reducible rfl)⟩) (hS) ?_
  try simp only [nrm]
  refine WpT.takeP (i := 7) rfl (by kernel_rfl) (fun _ _ _ h => h) (.inl ⟨by rfl, fun w hSw => by clear hSw; go_simp; (try go_bits); (try rw [if_pos (by omega)]); (try with_reducible rfl)⟩) (hS) ?_
  try simp only [nrm]
  refine WpT.takeP (i := 8) rfl (by kernel_rfl) (fun _ _ _ h => h) (.inl ⟨by rfl, fun w hSw => by clear hSw; go_simp; (try go_bits); (try rw [if_pos (by omega)]); (try with_reducible rfl)⟩) (hS) ?_
  try simp only [nrm]
  refine WpT.tail (i := 9) rfl (by kernel_rfl) (by kernel_rfl) (fun K hK => ?_)
  refine wp_put (vs := stC A9 n9 c9) rfl (by rfl) (by rfl) (b3.below hS) rfl (by kernel_rfl) (by simp [Value.oneCell']) ?_; intro w7 ht9 b9
  refine hK _ _ ?_; clear hK K; try simp only [nrm]
  refine WpT.tail (i := 10) rfl (by kernel_rfl) (by kernel_rfl) (fun K hK => ?_)
  go_simp; (try go_bits)
  refine hK _ _ ?_; clear hK K; try simp only [nrm]
  refine WpT.tail (i := 11) rfl (by kernel_rfl) (by kernel_rfl) (fun K hK => ?_)
  go_simp; (try go_bits)
  refine hK _ _ ?_; clear hK K; try simp only [nrm]
  refine WpT.done (by kernel_rfl) ?_ _
  skip
  have s1 := (s1.below hS).turned ht9 (Or.inr rfl)
  have s3 := st.turned ht9 (Or.inr rfl)
  have b1 := ht9.blk (b1.below hS) hg13
  have b3 := b9
  have ho7 := (ho7.below hS).turned ht9 (Or.inr rfl)
  have hbq := (bstep hbq hS).trans (ht9.below _ hgw3)
  replace ho := ho.turned ht9 (hGl g3 (Or.inr rfl))
  obtain ⟨q9, rfl, hq9⟩ := map_one hps
  have HQ9 := Lib.hid hq9
  clear hq9
  obtain ⟨o9, co, hvo, ho9⟩ := ho.toAt hGl hok (by simp)
  rw [show ([q9] : List PaR).length = 1 from rfl] at hvo
  subst hvo
  have lt1 : g1 < w7.heap.size := b1.lt
  have lt3 : g3 < w7.heap.size := b3.lt
  clear hps hok ho ht9 hS st hGl hrow hpq
  clear ck cs hl ct
  go_upto_region 12 with fail
  have hS : Below w7.heap.size w7 w7.drew := (Below.refl _ _).drew
  have hGl : ∀ g, (g = g1 ∨ g = g3) → g < w7.heap.size := by rintro g (rfl | rfl); exact lt1; exact lt3
  have hrow : ∀ j u, (paL p7.p p7.A p7.n p7.c)[j]? = some u → w7.cell? ((⟨o7, 37, none⟩ : Addr).add j) = some u := ho7.row 1 37 (by simp) rfl
  have hpq := ho7.pa p7 (by simp)
  refine wp_region_TB (S := Below (w7).heap.size (w7)) 9 (by kernel_rfl) ?_
  refine WpT.take (i := 0) rfl (by kernel_rfl) (fun _ _ _ h => h) (yields_blk rfl rfl rfl aggSt (by rw [sizeSt]; rfl) b3) (hS) ?_
  try simp only [nrm]
  refine WpT.take (i := 1) rfl (by kernel_rfl) (fun _ _ _ h => h) (.inl ⟨by rfl, fun w hSw => by clear hSw; go_simp; (try go_bits); (try rw [if_pos (by omega)]); (try with_reducible rfl)⟩) (hS) ?_
  try simp only [nrm]
  refine WpT.take (i := 2) rfl (by kernel_rfl) (fun _ _ _ h => h) (.inl ⟨by rfl, fun w hSw => by clear hSw; go_simp; (try go_bits); (try rw [if_pos (by omega)]); (try with_reducible rfl)⟩) (hS) ?_
  try simp only [nrm]
  refine WpT.take (i := 3) rfl (by kernel_rfl) (fun _ _ _ h => h) (yields_loadK (us := paL p7.p p7.A p7.n p7.c) rfl rfl rfl aggPa (by rw [sizePa, paL_len]) hrow) (hS) ?_
  try simp only [nrm]
  refine WpT.one (i := 4) rfl (by kernel_rfl) (fun K hK => ?_)
  go_simp; refine (hear_eq (r := p7) (hk_of HP7.out k4) (s3.below hS) (by decide) (hpq.below hS) (fun g hg => Nat.lt_of_lt_of_le (hGl g hg) hS.size) (HG.out.below (bstep hbq hS))).mono ?_; rintro e w5 ⟨A11, n11, c11, vo, rs, rfl, st, ho, hps, hok, hb5⟩; replace ho := ho.lower hS.size; replace hS := bstep hS hb5
  refine hK _ _ (hS) ?_; clear hK K; try simp only [nrm]
  refine WpT.take (i := 5) rfl (by kernel_rfl) (fun _ _ _ h => h) (.inl ⟨by rfl, fun w hSw => by clear hSw; go_simp; (try go_bits); (try rw [if_pos (by omega)]); (try with_reducible rfl)⟩) (hS) ?_
  try simp only [nrm]
  refine WpT.take (i := 6) rfl (by kernel_rfl) (fun _ _ _ h => h) (.inl ⟨by rfl, fun w hSw => by clear hSw; go_simp; (try go_bits); (try rw [if_pos (by omega)]); (try with_reducible rfl)⟩) (hS) ?_
  try simp only [nrm]
  refine WpT.takeP (i := 7) rfl (by kernel_rfl) (fun _ _ _ h => h) (.inl ⟨by rfl, fun w hSw => by clear hSw; go_simp; (try go_bits); (try rw [if_pos (by omega)]); (try with_reducible rfl)⟩) (hS) ?_
  try simp only [nrm]
  refine WpT.takeP (i := 8) rfl (by kernel_rfl) (fun _ _ _ h => h) (.inl ⟨by rfl, fun w hSw => by clear hSw; go_simp; (try go_bits); (try rw [if_pos (by omega)]); (try with_reducible rfl)⟩) (hS) ?_
  try simp only [nrm]
  refine WpT.tail (i := 9) rfl (by kernel_rfl) (by kernel_rfl) (fun K hK => ?_)
  refine wp_put (vs := stC A11 n11 c11) rfl (by rfl) (by rfl) (b3.below hS) rfl (by kernel_rfl) (by simp [Value.oneCell']) ?_; intro w8 ht9 b9
  refine hK _ _ ?_; clear hK K; try simp only [nrm]
  refine WpT.tail (i := 10) rfl (by kernel_rfl) (by kernel_rfl) (fun K hK => ?_)
  go_simp; (try go_bits)
  refine hK _ _ ?_; clear hK K; try simp only [nrm]
  refine WpT.tail (i := 11) rfl (by kernel_rfl) (by kernel_rfl) (fun K hK => ?_)
  go_simp; (try go_bits)
  refine hK _ _ ?_; clear hK K; try simp only [nrm]
  refine WpT.done (by kernel_rfl) ?_ _
  skip
  have s1 := (s1.below hS).turned ht9 (Or.inr rfl)
  have s3 := st.turned ht9 (Or.inr rfl)
  have b1 := ht9.blk (b1.below hS) hg13
  have b3 := b9
  have ho9 := (ho9.below hS).turned ht9 (Or.inr rfl)
  have hbq := (bstep hbq hS).trans (ht9.below _ hgw3)
  replace ho := ho.turned ht9 (hGl g3 (Or.inr rfl))
  obtain rfl := List.map_eq_nil_iff.1 hps
  obtain ⟨Ao, co, rfl⟩ := ho.nilForm
  have lt1 : g1 < w8.heap.size := b1.lt
  have lt3 : g3 < w8.heap.size := b3.lt
  clear hps hok ho ht9 hS st hGl hrow hpq
  have ct : w8.cell? ⟨o9, 36, none⟩ = some (.string ⟨#[122]⟩) := by
    have h := ho9.cell 0 (by simp) 36 36 _ (paL_text q9.p q9.A q9.n q9.c) rfl
    rw [HQ9.out] at h
    exact h
  go_upto_region 15 with fail
  have hS : Below w8.heap.size w8 w8.drew := (Below.refl _ _).drew
  have hGl : ∀ g, (g = g1 ∨ g = g3) → g < w8.heap.size := by rintro g (rfl | rfl); exact lt1; exact lt3
  have hrow : ∀ j u, (paL q9.p q9.A q9.n q9.c)[j]? = some u → w8.cell? ((⟨o9, 0, none⟩ : Addr).add j) = some u := ho9.row 0 0 (by simp) rfl
  have hpq := ho9.pa q9 (by simp)
  refine wp_region_TB (S := Below (w8).heap.size (w8)) 9 (by kernel_rfl) ?_
  refine WpT.take (i := 0) rfl (by kernel_rfl) (fun _ _ _ h => h) (yields_blk rfl rfl rfl aggSt (by rw [sizeSt]; rfl) b1) (hS) ?_
  try simp only [nrm]
  refine WpT.take (i := 1) rfl (by kernel_rfl) (fun _ _ _ h => h) (.inl ⟨by rfl, fun w hSw => by clear hSw; go_simp; (try go_bits); (try rw [if_pos (by omega)]); (try with_reducible rfl)⟩) (hS) ?_
  try simp only [nrm]
  refine WpT.take (i := 2) rfl (by kernel_rfl) (fun _ _ _ h => h) (.inl ⟨by rfl, fun w hSw => by clear hSw; go_simp; (try go_bits); (try rw [if_pos (by omega)]); (try with_reducible rfl)⟩) (hS) ?_
  try simp only [nrm]
  refine WpT.take (i := 3) rfl (by kernel_rfl) (fun _ _ _ h => h) (yields_loadK (us := paL q9.p q9.A q9.n q9.c) rfl rfl rfl aggPa (by rw [sizePa, paL_len]) hrow) (hS) ?_
  try simp only [nrm]
  refine WpT.one (i := 4) rfl (by kernel_rfl) (fun K hK => ?_)
  go_simp; refine (hear_eq (r := q9) (hk_of HQ9.out k5) (s1.below hS) (by decide) (hpq.below hS) (fun g hg => Nat.lt_of_lt_of_le (hGl g hg) hS.size) (HG.out.below (bstep hbq hS))).mono ?_; rintro e w5 ⟨A13, n13, c13, vo, rs, rfl, st, ho, hps, hok, hb5⟩; replace ho := ho.lower hS.size; replace hS := bstep hS hb5
  refine hK _ _ (hS) ?_; clear hK K; try simp only [nrm]
  refine WpT.take (i := 5) rfl (by kernel_rfl) (fun _ _ _ h => h) (.inl ⟨by rfl, fun w hSw => by clear hSw; go_simp; (try go_bits); (try rw [if_pos (by omega)]); (try with_reducible rfl)⟩) (hS) ?_
  try simp only [nrm]
  refine WpT.take (i := 6) rfl (by kernel_rfl) (fun _ _ _ h => h) (.inl ⟨by rfl, fun w hSw => by clear hSw; go_simp; (try go_bits); (try rw [if_pos (by omega)]); (try with_reducible rfl)⟩) (hS) ?_
  try simp only [nrm]
  refine WpT.takeP (i := 7) rfl (by kernel_rfl) (fun _ _ _ h => h) (.inl ⟨by rfl, fun w hSw => by clear hSw; go_simp; (try go_bits); (try rw [if_pos (by omega)]); (try with_reducible rfl)⟩) (hS) ?_
  try simp only [nrm]
  refine WpT.takeP (i := 8) rfl (by kernel_rfl) (fun _ _ _ h => h) (.inl ⟨by rfl, fun w hSw => by clear hSw; go_simp; (try go_bits); (try rw [if_pos (by omega)]); (try with_reducible rfl)⟩) (hS) ?_
  try simp only [nrm]
  refine WpT.tail (i := 9) rfl (by kernel_rfl) (by kernel_rfl) (fun K hK => ?_)
  refine wp_put (vs := stC A13 n13 c13) rfl (by rfl) (by rfl) (b1.below hS) rfl (by kernel_rfl) (by simp [Value.oneCell']) ?_; intro w9 ht9 b9
  refine hK _ _ ?_; clear hK K; try simp only [nrm]
  refine WpT.tail (i := 10) rfl (by kernel_rfl) (by kernel_rfl) (fun K hK => ?_)
  go_simp; (try go_bits)
  refine hK _ _ ?_; clear hK K; try simp only [nrm]
  refine WpT.tail (i := 11) rfl (by kernel_rfl) (by kernel_rfl) (fun K hK => ?_)
  go_simp; (try go_bits)
  refine hK _ _ ?_; clear hK K; try simp only [nrm]
  refine WpT.done (by kernel_rfl) ?_ _
  skip
  have s3 := (s3.below hS).turned ht9 (Or.inl rfl)
  have s1 := st.turned ht9 (Or.inl rfl)
  have b3 := ht9.blk (b3.below hS) hg31
  have b1 := b9
  have hbq := (bstep hbq hS).trans (ht9.below _ hgw1)
  replace ho := ho.turned ht9 (hGl g1 (Or.inl rfl))
  obtain rfl := List.map_eq_nil_iff.1 hps
  obtain ⟨Ao, co, rfl⟩ := ho.nilForm
  have lt1 : g1 < w9.heap.size := b1.lt
  have lt3 : g3 < w9.heap.size := b3.lt
  clear hps hok ho ht9 hS st hGl hrow hpq
  clear ct ho9
  go_upto_region 16 with fail
  go_cut [15, 16, 17] (fun v15 v16 v17 wx => ∃ (Ax : Option Addr) (cx : Nat), v16 = .slice Ax 0 cx ∧ v17 = .int .i64 0 ∧ Below w9.heap.size w9 wx)
  case first =>
   have hS : Below w9.heap.size w9 w9.drew := (Below.refl _ _).drew
   have hGl : ∀ g, (g = g1 ∨ g = g3) → g < w9.heap.size := by rintro g (rfl | rfl); exact lt1; exact lt3
   refine wp_region_TB (S := Below (w9).heap.size (w9)) 9 (by kernel_rfl) ?_
   refine WpT.take (i := 0) rfl (by kernel_rfl) (fun _ _ _ h => h) (yields_blk rfl rfl rfl aggSt (by rw [sizeSt]; rfl) b3) (hS) ?_
   try simp only [nrm]
   refine WpT.take (i := 1) rfl (by kernel_rfl) (fun _ _ _ h => h) (yields_blk rfl rfl rfl aggSt (by rw [sizeSt]; rfl) b1) (hS) ?_
   try simp only [nrm]
   refine WpT.fork (i := 2) (j := 8) rfl rfl (by kernel_rfl) (fun K hK => ?_) (fun K hK => ?_)
   · go_simp; refine (HO6.out _ _ _ _ _ (s1.below hS) (HG.out.below (bstep hbq hS))).mono ?_; rintro e w4 ⟨rfl, hb4⟩; (try replace qN := qN.below hb4); replace hS := bstep hS hb4
     refine hK _ _ (hS) ?_; clear hK K; try simp only [nrm]
     refine WpT.fork (i := 3) (j := 8) rfl rfl (by kernel_rfl) (fun K hK => ?_) (fun K hK => ?_)
     · go_simp; refine (hear_eq (r := ⟨SQ, none, 0, 0⟩) HK6.out (s3.below hS) (by decide) (HSQ.out _ _) (fun g hg => Nat.lt_of_lt_of_le (hGl g hg) hS.size) (HG.out.below (bstep hbq hS))).mono ?_; rintro e w5 ⟨An, nn, cn, vo, rs, rfl, st, ho, hps, hok, hb5⟩; (try replace qN := qN.below hb5); replace hS := bstep hS hb5; clear st hok
       refine hK _ _ (hS) ?_; clear hK K; try simp only [nrm]
       refine WpT.take (i := 4) rfl (by kernel_rfl) (fun _ _ _ h => h) (.inl ⟨by rfl, fun w hSw => by clear hSw; go_simp; (try go_bits); (try rw [if_pos (by omega)]); (try with_reducible rfl)⟩) (hS) ?_
       try simp only [nrm]
       refine WpT.take (i := 5) rfl (by kernel_rfl) (fun _ _ _ h => h) (.inl ⟨by rfl, fun w hSw => by clear hSw; go_simp; (try go_bits); (try rw [if_pos (by omega)]); (try with_reducible rfl)⟩) (hS) ?_
       try simp only [nrm]
       refine WpT.takeP (i := 6) rfl (by kernel_rfl) (fun _ _ _ h => h) (.inl ⟨by rfl, fun w hSw => by clear hSw; go_simp; (try go_bits); (try rw [if_pos (by omega)]); (try with_reducible rfl)⟩) (hS) ?_
       try simp only [nrm]
       refine WpT.takeP (i := 7) rfl (by kernel_rfl) (fun _ _ _ h => h) (.inl ⟨by rfl, fun w hSw => by clear hSw; go_simp; (try go_bits); (try rw [if_pos (by omega)]); (try with_reducible rfl)⟩) (hS) ?_
       try simp only [nrm]
       refine WpT.one (i := 8) rfl (by kernel_rfl) (fun K hK => ?_)
       refine wp_new rfl zeroSt ?_; intro wN gN hgN qN hbN ltN; have hgeN : w9.heap.size ≤ gN := (by rw [hgN]; exact hS.size); clear hgN; replace hS := bstep hS hbN
       refine hK _ _ (hS) ?_; clear hK K; try simp only [nrm]
       refine WpT.tail (i := 9) rfl (by kernel_rfl) (by kernel_rfl) (fun K hK => ?_)
       refine wp_put (vs := stC An nn cn) rfl (by rfl) (by rfl) qN rfl (by kernel_rfl) (by simp [Value.oneCell']) ?_; intro wz ht9 b9
       refine hK _ _ ?_; clear hK K; try simp only [nrm]
       refine WpT.tail (i := 10) rfl (by kernel_rfl) (by kernel_rfl) (fun K hK => ?_)
       go_simp; (try go_bits)
       refine hK _ _ ?_; clear hK K; try simp only [nrm]
       refine WpT.tail (i := 11) rfl (by kernel_rfl) (by kernel_rfl) (fun K hK => ?_)
       go_simp; (try go_bits)
       refine hK _ _ ?_; clear hK K; try simp only [nrm]
       refine WpT.done (by kernel_rfl) ?_ _
       go_wp2_with fail; go_meet; obtain rfl := List.map_eq_nil_iff.1 hps; obtain ⟨Ao, co, rfl⟩ := ho.nilForm; exact ⟨Ao, co, rfl, rfl, hS.trans (ht9.below _ hgeN)⟩
     · refine wp_new rfl zeroSt ?_; intro wN gN hgN qN hbN ltN; have hgeN : w9.heap.size ≤ gN := (by rw [hgN]; exact hS.size); clear hgN; replace hS := bstep hS hbN
       refine hK _ _ (hS) ?_; clear hK K; try simp only [nrm]
       refine WpT.one (i := 3) rfl (by kernel_rfl) (fun K hK => ?_)
       go_simp; refine (hear_eq (r := ⟨SQ, none, 0, 0⟩) HK6.out (s3.below hS) (by decide) (HSQ.out _ _) (fun g hg => Nat.lt_of_lt_of_le (hGl g hg) hS.size) (HG.out.below (bstep hbq hS))).mono ?_; rintro e w5 ⟨An, nn, cn, vo, rs, rfl, st, ho, hps, hok, hb5⟩; (try replace qN := qN.below hb5); replace hS := bstep hS hb5; clear st hok
       refine hK _ _ (hS) ?_; clear hK K; try simp only [nrm]
       refine WpT.take (i := 4) rfl (by kernel_rfl) (fun _ _ _ h => h) (.inl ⟨by rfl, fun w hSw => by clear hSw; go_simp; (try go_bits); (try rw [if_pos (by omega)]); (try with_reducible rfl)⟩) (hS) ?_
       try simp only [nrm]
       refine WpT.take (i := 5) rfl (by kernel_rfl) (fun _ _ _ h => h) (.inl ⟨by rfl, fun w hSw => by clear hSw; go_simp; (try go_bits); (try rw [if_pos (by omega)]); (try with_reducible rfl)⟩) (hS) ?_
       try simp only [nrm]
       refine WpT.takeP (i := 6) rfl (by kernel_rfl) (fun _ _ _ h => h) (.inl ⟨by rfl, fun w hSw => by clear hSw; go_simp; (try go_bits); (try rw [if_pos (by omega)]); (try with_reducible rfl)⟩) (hS) ?_
       try simp only [nrm]
       refine WpT.takeP (i := 7) rfl (by kernel_rfl) (fun _ _ _ h => h) (.inl ⟨by rfl, fun w hSw => by clear hSw; go_simp; (try go_bits); (try rw [if_pos (by omega)]); (try with_reducible rfl)⟩) (hS) ?_
       try simp only [nrm]
       refine WpT.tail (i := 9) rfl (by kernel_rfl) (by kernel_rfl) (fun K hK => ?_)
       refine wp_put (vs := stC An nn cn) rfl (by rfl) (by rfl) qN rfl (by kernel_rfl) (by simp [Value.oneCell']) ?_; intro wz ht9 b9
       refine hK _ _ ?_; clear hK K; try simp only [nrm]
       refine WpT.tail (i := 10) rfl (by kernel_rfl) (by kernel_rfl) (fun K hK => ?_)
       go_simp; (try go_bits)
       refine hK _ _ ?_; clear hK K; try simp only [nrm]
       refine WpT.tail (i := 11) rfl (by kernel_rfl) (by kernel_rfl) (fun K hK => ?_)
       go_simp; (try go_bits)
       refine hK _ _ ?_; clear hK K; try simp only [nrm]
       refine WpT.done (by kernel_rfl) ?_ _
       go_wp2_with fail; go_meet; obtain rfl := List.map_eq_nil_iff.1 hps; obtain ⟨Ao, co, rfl⟩ := ho.nilForm; exact ⟨Ao, co, rfl, rfl, hS.trans (ht9.below _ hgeN)⟩
   · refine wp_new rfl zeroSt ?_; intro wN gN hgN qN hbN ltN; have hgeN : w9.heap.size ≤ gN := (by rw [hgN]; exact hS.size); clear hgN; replace hS := bstep hS hbN
     refine hK _ _ (hS) ?_; clear hK K; try simp only [nrm]
     refine WpT.one (i := 2) rfl (by kernel_rfl) (fun K hK => ?_)
     go_simp; refine (HO6.out _ _ _ _ _ (s1.below hS) (HG.out.below (bstep hbq hS))).mono ?_; rintro e w4 ⟨rfl, hb4⟩; (try replace qN := qN.below hb4); replace hS := bstep hS hb4
     refine hK _ _ (hS) ?_; clear hK K; try simp only [nrm]
     refine WpT.one (i := 3) rfl (by kernel_rfl) (fun K hK => ?_)
     go_simp; refine (hear_eq (r := ⟨SQ, none, 0, 0⟩) HK6.out (s3.below hS) (by decide) (HSQ.out _ _) (fun g hg => Nat.lt_of_lt_of_le (hGl g hg) hS.size) (HG.out.below (bstep hbq hS))).mono ?_; rintro e w5 ⟨An, nn, cn, vo, rs, rfl, st, ho, hps, hok, hb5⟩; (try replace qN := qN.below hb5); replace hS := bstep hS hb5; clear st hok
     refine hK _ _ (hS) ?_; clear hK K; try simp only [nrm]
     refine WpT.take (i := 4) rfl (by kernel_rfl) (fun _ _ _ h => h) (.inl ⟨by rfl, fun w hSw => by clear hSw; go_simp; (try go_bits); (try rw [if_pos (by omega)]); (try with_reducible rfl)⟩) (hS) ?_
     try simp only [nrm]
     refine WpT.take (i := 5) rfl (by kernel_rfl) (fun _ _ _ h => h) (.inl ⟨by rfl, fun w hSw => by clear hSw; go_simp; (try go_bits); (try rw [if_pos (by omega)]); (try with_reducible rfl)⟩) (hS) ?_
     try simp only [nrm]
     refine WpT.takeP (i := 6) rfl (by kernel_rfl) (fun _ _ _ h => h) (.inl ⟨by rfl, fun w hSw => by clear hSw; go_simp; (try go_bits); (try rw [if_pos (by omega)]); (try with_reducible rfl)⟩) (hS) ?_
     try simp only [nrm]
     refine WpT.takeP (i := 7) rfl (by kernel_rfl) (fun _ _ _ h => h) (.inl ⟨by rfl, fun w hSw => by clear hSw; go_simp; (try go_bits); (try rw [if_pos (by omega)]); (try with_reducible rfl)⟩) (hS) ?_
     try simp only [nrm]
     refine WpT.tail (i := 9) rfl (by kernel_rfl) (by kernel_rfl) (fun K hK => ?_)
     refine wp_put (vs := stC An nn cn) rfl (by rfl) (by rfl) qN rfl (by kernel_rfl) (by simp [Value.oneCell']) ?_; intro wz ht9 b9
     refine hK _ _ ?_; clear hK K; try simp only [nrm]
     refine WpT.tail (i := 10) rfl (by kernel_rfl) (by kernel_rfl) (fun K hK => ?_)
     go_simp; (try go_bits)
     refine hK _ _ ?_; clear hK K; try simp only [nrm]
     refine WpT.tail (i := 11) rfl (by kernel_rfl) (by kernel_rfl) (fun K hK => ?_)
     go_simp; (try go_bits)
     refine hK _ _ ?_; clear hK K; try simp only [nrm]
     refine WpT.done (by kernel_rfl) ?_ _
     go_wp2_with fail; go_meet; obtain rfl := List.map_eq_nil_iff.1 hps; obtain ⟨Ao, co, rfl⟩ := ho.nilForm; exact ⟨Ao, co, rfl, rfl, hS.trans (ht9.below _ hgeN)⟩
  case rest =>
    obtain ⟨Ax, cx, rfl, rfl, hbz⟩ := hcut
    have s1 := s1.below hbz
    have s3 := s3.below hbz
    have b1 := b1.below hbz
    have b3 := b3.below hbz
    have hbq := bstep hbq hbz
    have hn1 := s1.rd.len
    have hn3 := s3.rd.len
    have HS := Lib.hid (same44_any ab ab A13 n13 c13 A11 n11 c11 wc s1.rd s3.rd (by rw [← hn1]; decide) (by rw [← hn3]; decide) s1.vl.wf s3.vl.wf)
    rw [decide_eq_true (Eq.refl ab)] at HS
    have hl3 : ((n13 : Int) == 3) = true := by rw [← hn1]; rfl
    have hl3b : decide ((n13 : Int) = 3) = true := by rw [← hn1]; rfl
    have cst := b1.cell 0
    simp only [List.getElem?_toArray, List.getElem?_cons_zero] at cst
    have hcs1 := blk_cells (xs := [.slice A13 n13 c13]) b1
    have hcs3 := blk_cells (xs := [.slice A11 n11 c11]) b3
    clear hn1 hn3 s1 s3 b1 b3
    go_wp2_with first
      | ((with_reducible show wpList _ _ _ (⟨some 184, _, _, _, _, _⟩ :: _) _ _); refine wpList_loadKW (us := [.slice A13 n13 c13]) (by rfl) rfl rfl aggSt (by rw [sizeSt]; rfl) hcs1 ?_)
      | ((with_reducible show wpList _ _ _ (⟨some 185, _, _, _, _, _⟩ :: _) _ _); refine wpList_loadKW (us := [.slice A11 n11 c11]) (by rfl) rfl rfl aggSt (by rw [sizeSt]; rfl) hcs3 ?_)
    refine HS.out.mono ?_
    rintro e wy ⟨rfl, hby⟩
    go_wp2_with fail
    go_ret
    exact ⟨rfl, bstep hbq hby⟩
end Go.Proofs.YtieamjjnofelcaaDoor
namespace Go.Proofs.YtieamjjnofelcaaDoor
set_option linter.unusedSimpArgs false
set_option linter.unusedVariables false
open Go.RowKit Exch
theorem stBox1' (w : World) (A : Option Addr) (m c : Nat) : ∃ wa : World, wa = w.alloc (.cells (stC A m c) 24) ∧ Below w.heap.size w wa ∧ Blk wa w.heap.size 24 (stC A m c) :=
  ⟨_, rfl, (Below.refl w.heap.size w).alloc (Nat.le_refl _) _, Blk.new _ _ _⟩
set_option maxRecDepth 20000 in
set_option maxHeartbeats 1000000 in
theorem few_any (l : List It) (A : Option Addr) (m c : Nat) (w : World) (hm : m ≤ 9223372036854775807) (hr : RdT w A m l) (hl : ∀ x ∈ l, WfT x) :
    Calls Tryd.prog 9 #[stV A m c] w fun e w' => ∃ V, e = .returned (.bool V) ∧ (V = true → m ≤ 60 ∧ ∀ x ∈ l, x.tx.size ≤ 200) ∧ Below w.heap.size w w' := by
  obtain ⟨wa, hwa, hb0, q0⟩ := stBox1' w A m c
  have HWA := Lib.hid hwa
  clear hwa
  have HR := Lib.hid hr
  have HL := Lib.hid hr.len
  have HW := Lib.hid hl
  clear hr hl
  go_enter Tryd.func9, Tryd.ntmps9
  go_upto_region 1 with (fail)
  change Code.wp _ _ _ _ (w.alloc (.cells (stC A m c) 24))
  rw [← HWA.out]
  go_wp2_with fail
  go_loopw [3] (fun vk wr => ∃ k : Nat, k ≤ m ∧ k ≤ 61 ∧ vk = .int .i64 k ∧ Below wa.heap.size wa wr ∧ Hid (∀ j, j < k → ∀ h : j < l.length, l[j].tx.size ≤ 200)) (fun vk _ => 61 - (intOf vk).toNat)
  case atStart => exact ⟨0, Nat.zero_le _, Nat.zero_le _, rfl, Below.refl _ _, Lib.hid (fun j h => by omega)⟩
  case round =>
    obtain ⟨k, hk, hk61, rfl, hbw, HV⟩ := hrel
    replace q0 := q0.below hbw
    replace hb0 := bstep hb0 hbw
    have c0 := q0.cell 0
    simp only [List.getElem?_toArray, List.getElem?_cons_zero] at c0
    by_cases hlt : k < m
    · have hltd : decide ((k : Int) < m) = true := by rw [decide_eq_true_eq]; omega
      by_cases hl6 : k < 61
      · have hl6d : decide ((k : Int) < 61) = true := by rw [decide_eq_true_eq]; omega
        have hkl : k < l.length := by have := HL.out; omega
        obtain ⟨ad, rfl, hc⟩ := (HR.out.below hb0).elem hkl
        have ht16 : wr.cell? ⟨(ad.add (k * 17)).block, (ad.add (k * 17)).off + 16, none⟩ = some (.string l[k].tx) := it_text hc
        have hsz := (HW.out _ (List.getElem_mem hkl)).tx
        have hsz2 : l[k].tx.size ≤ 9223372036854775807 := by unfold maxLen at hsz; omega
        have HST : Hid (l[k].tx.size ≤ 200 → ∀ j, j < k + 1 → ∀ h : j < l.length, l[j].tx.size ≤ 200) := Lib.hid (fun h2 j hj h => by
          by_cases e : j = k
          · subst e; exact h2
          · exact HV.out j (by omega) h)
        clear hsz
        generalize l[k] = x at *
        by_cases h2 : x.tx.size ≤ 200
        · have dt : decide ((200 : Int) < x.tx.size) = false := by rw [decide_eq_false_iff_not]; omega
          have HN := Lib.hid (HST.out h2)
          clear HST h2 HV
          go_wp2_with fail
          exact ⟨⟨k + 1, by omega, by omega, by go_num, hbw, HN⟩, by simp [intOf]; omega⟩
        · have dt : decide ((200 : Int) < x.tx.size) = true := by rw [decide_eq_true_eq]; omega
          clear HST h2 HV
          go_wp2_with fail
          go_ret
          exact ⟨false, rfl, fun h => (by cases h), hb0⟩
      · obtain rfl : k = 61 := by omega
        have hd : decide ((m : Int) ≤ 60) = false := by rw [decide_eq_false_iff_not]; omega
        go_wp2_with fail
        go_ret
        exact ⟨false, rfl, fun h => (by cases h), hb0⟩
    · obtain rfl : k = m := by omega
      have hltd : decide ((k : Int) < k) = false := by simp
      by_cases h6 : k ≤ 60
      · have hd : decide ((k : Int) ≤ 60) = true := by rw [decide_eq_true_eq]; omega
        have HF : Hid (∀ x ∈ l, x.tx.size ≤ 200) := Lib.hid (fun x hx => by
          obtain ⟨j, hj, rfl⟩ := List.mem_iff_getElem.1 hx
          exact HV.out j (by have := HL.out; omega) hj)
        go_wp2_with fail
        go_ret
        exact ⟨true, rfl, fun h => ⟨h6, HF.out⟩, hb0⟩
      · have hd : decide ((k : Int) ≤ 60) = false := by rw [decide_eq_false_iff_not]; omega
        go_wp2_with fail
        go_ret
        exact ⟨false, rfl, fun h => (by cases h), hb0⟩
end Go.Proofs.YtieamjjnofelcaaDoor
namespace Go.Proofs.YtieamjjnofelcaaDoor
set_option linter.unusedSimpArgs false
set_option linter.unusedVariables false
open Go.RowKit Exch
theorem chain_vl : ∀ {l : List It} {p : Option Nat}, chain p l = true → (∀ x ∈ l, x.tx.size ≤ 200) → Vl l ∧ ∀ y, p = some y → ∀ x ∈ l, y < x.nm
  | [], p, _, _ => ⟨Vl.nil, fun y _ x h => (by cases h)⟩
  | a :: l, p, h, hs => by
    rw [chain_cons] at h
    simp only [Bool.and_eq_true, decide_eq_true_eq] at h
    obtain ⟨⟨_, h2, h3⟩, h4⟩ := h
    obtain ⟨i1, i2⟩ := chain_vl h4 (fun x hx => hs x (by simp [hx]))
    refine ⟨⟨List.pairwise_cons.2 ⟨fun z hz => ?_, i1.so⟩, fun x hx => ?_⟩, fun y e x hx => ?_⟩
    · obtain ⟨x, hx, rfl⟩ := List.mem_map.1 hz
      exact i2 a.nm rfl x hx
    · rcases List.mem_cons.1 hx with rfl | hx
      · exact ⟨h2, hs x (by simp)⟩
      · exact i1.it x hx
    · subst e
      have hya : y < a.nm := by simpa using h3
      rcases List.mem_cons.1 hx with rfl | hx
      · exact hya
      · exact Nat.lt_trans hya (i2 a.nm rfl x hx)
theorem validS_vl {l : List It} (h : validS l = true) (hs : ∀ x ∈ l, x.tx.size ≤ 200) : Vl l := by
  unfold validS at h
  simp only [Bool.and_eq_true] at h
  exact (chain_vl h.1 hs).1
/-- Names in order that are the same ones. -/
theorem sorted_ext : ∀ {a b : List Nat}, SortedN a → SortedN b → (∀ x, x ∈ a ↔ x ∈ b) → a = b
  | [], [], _, _, _ => rfl
  | [], y :: b, _, _, h => by have := (h y).2 (by simp); cases this
  | x :: a, [], _, _, h => by have := (h x).1 (by simp); cases this
  | x :: a, y :: b, ha, hb, h => by
    obtain ⟨a1, a2⟩ := List.pairwise_cons.1 ha
    obtain ⟨b1, b2⟩ := List.pairwise_cons.1 hb
    have e : x = y := by
      rcases List.mem_cons.1 ((h x).1 (by simp)) with e | e
      · exact e
      · rcases List.mem_cons.1 ((h y).2 (by simp)) with e2 | e2
        · exact e2.symm
        · have h1 : y < x := b1 x e
          have h2 : x < y := a1 y e2
          omega
    subst e
    congr 1
    refine sorted_ext a2 b2 fun z => ⟨fun hz => ?_, fun hz => ?_⟩
    · rcases List.mem_cons.1 ((h z).1 (by simp [hz])) with e | e
      · have h1 : x < z := a1 z hz
        omega
      · exact e
    · rcases List.mem_cons.1 ((h z).2 (by simp [hz])) with e | e
      · have h1 : x < z := b1 z hz
        omega
      · exact e
theorem namL_mem {l : List It} {p : Px} {z : Nat} : z ∈ namL l p ↔ z ∈ nms l ∧ under p z = true := by
  simp only [nms, undL, List.mem_map, List.mem_filter]
  constructor
  · rintro ⟨x, ⟨h1, h2⟩, rfl⟩; exact ⟨⟨x, h1, rfl⟩, h2⟩
  · rintro ⟨⟨x, h1, rfl⟩, h2⟩; exact ⟨x, ⟨h1, h2⟩, rfl⟩
theorem namL_sorted {l : List It} (h : SortedN (nms l)) (p : Px) : SortedN (namL l p) := List.Pairwise.sublist (List.Sublist.map _ List.filter_sublist) h
/-- The names under a prefix are those under its halves. -/
theorem namL_halves {l : List It} {p : Px} (h : SortedN (nms l)) (hp : Right p) (hl : p.len ≤ 127) : namL l p = namL l (half p false) ++ namL l (half p true) := by
  refine sorted_ext (namL_sorted h p) ?_ fun z => ?_
  · refine List.pairwise_append.2 ⟨namL_sorted h _, namL_sorted h _, fun a ha b hb => ?_⟩
    exact half_order hp hl (namL_mem.1 ha).2 (namL_mem.1 hb).2
  · rw [List.mem_append, namL_mem, namL_mem, namL_mem, (under_half hp hl z).1, Bool.or_eq_true]
    constructor
    · rintro ⟨h1, h2 | h2⟩
      · exact .inl ⟨h1, h2⟩
      · exact .inr ⟨h1, h2⟩
    · rintro (⟨h1, h2⟩ | ⟨h1, h2⟩)
      · exact ⟨h1, .inl h2⟩
      · exact ⟨h1, .inr h2⟩
set_option maxRecDepth 20000 in
set_option maxHeartbeats 1000000 in
theorem lawValid_any (l : List It) (A : Option Addr) (m c : Nat) (w : World) (hm : m ≤ 9223372036854775807) (hr : RdT w A m l) (hl : ∀ x ∈ l, WfT x) (hg : RCon w) :
    Calls Tryd.prog 32 #[stV A m c] w fun e w' => ∃ V, e = .returned (.bool V) ∧ (V = true → m ≤ 60 ∧ Vl l) ∧ Below w.heap.size w w' := by
  obtain ⟨wa, hwa, hb0, q0⟩ := stBox1' w A m c
  have HWA := Lib.hid hwa
  clear hwa
  have HF := Lib.hid (few_any l A m c wa hm (hr.below hb0) hl)
  have HV := Lib.hid (fun W (hb : Below wa.heap.size wa W) (h60 : m ≤ 60) (hs : ∀ x ∈ l, x.tx.size ≤ 200) => refValid_any l A m c W (by omega) (hr.below (bstep hb0 hb)) hl (fun x hx => by have := hs x hx; omega) (hg.below (bstep hb0 hb)))
  have HVL := Lib.hid (fun (h : validS l = true) hs => validS_vl h hs)
  clear hr hl hg
  have hcs := blk_cells (xs := [.slice A m c]) q0
  go_enter Tryd.func32, Tryd.ntmps32
  go_upto_region 1 with (fail)
  change Code.wp _ _ _ _ (w.alloc (.cells (stC A m c) 24))
  rw [← HWA.out]
  go_wp2_with ((with_reducible show wpList _ _ _ (⟨some 4, _, _, _, _, _⟩ :: _) _ _); refine wpList_loadRow rfl rfl rfl q0 aggSt (by rw [sizeSt]; rfl) ?_)
  refine HF.out.mono ?_
  rintro e w1 ⟨V, rfl, hV, hb1⟩
  have HVV := Lib.hid hV
  clear hV
  cases V
  · go_wp2_with fail
    go_ret
    exact ⟨false, rfl, fun h => (by cases h), bstep hb0 hb1⟩
  · obtain ⟨h60, hs⟩ := HVV.out rfl
    have hcs1 := fun j u hj => cell_later hb1 (hcs j u hj)
    have HVR := Lib.hid (HV.out w1 hb1 h60 hs)
    have HVF : Hid (validS l = true → m ≤ 60 ∧ Vl l) := Lib.hid (fun h => ⟨h60, HVL.out h hs⟩)
    clear HV HVL HVV hs hcs
    generalize validS l = B at *
    go_wp2_with ((with_reducible show wpList _ _ _ (⟨some 8, _, _, _, _, _⟩ :: _) _ _); refine wpList_loadKW (us := [.slice A m c]) (by rfl) rfl rfl aggSt (by rw [sizeSt]; rfl) hcs1 ?_)
    refine HVR.out.mono ?_
    rintro e w2 ⟨rfl, hb2⟩
    go_wp2_with fail
    go_ret
    exact ⟨B, rfl, HVF.out, bstep hb0 (bstep hb1 hb2)⟩
end Go.Proofs.YtieamjjnofelcaaDoor
namespace Go.Proofs.YtieamjjnofelcaaDoor
set_option linter.unusedSimpArgs false
set_option linter.unusedVariables false
set_option maxRecDepth 20000
open Go.ChangeShapes Go.WideShapes Go.ChangeAt Go.RowKit Sha Exch

theorem own : ownKnob Tryd.prog.godebug = none := by kernel_rfl
theorem laidOut : laidOutB Tryd.prog = true := by kernel_rfl
theorem gCon : Tryd.prog.globalNamed "antiquary/hash.constants" = some 1 := by kernel_rfl
theorem gConT : (Tryd.prog.globals[1]?).map (·.type) = some 126 := by kernel_rfl
theorem con_of {W : World} {rest : List (String × DataW Unit)} (h : laidMet Tryd.prog (("antiquary/hash.constants", Rows.laid_antiquary_hash_constants) :: rest) W) : GCon W := by
  have t : Lib.TabIs Tryd.prog W "antiquary/hash.constants" .u32 (K.map fun n => ((n : Nat) : Int)) :=
    Lib.tabIs_of_head (rest := rest) gCon gConT (n := 64) (e := 101) (by kernel_rfl) (by kernel_rfl) (by kernel_rfl) (by kernel_rfl) h
  unfold Lib.TabIs World.var? at t
  rw [gCon] at t
  simp only [Option.bind_some] at t
  split at t
  · rename_i cs T fr hh
    injection t with t
    refine ⟨T, fr, ?_⟩
    rw [hh, t]
    simp [wv]
  · cases t
/-- A world for the witness: the settled one, the tables holding what their initialisers lay. -/
def layRow (cs : Array Value) : Obj → Obj
  | .cells _ t frozen => .cells cs t frozen
  | o => o
noncomputable def laidWorld (os : Os) : World :=
  { World.holding Tryd.prog os ⟨#[], #[], []⟩ with heap := (World.holding Tryd.prog os ⟨#[], #[], []⟩).heap.modify 1 (layRow (K.map fun n => Value.int .u32 (n : Nat)).toArray) }
theorem gRef : Tryd.prog.globalNamed "antiquary/antiquaryref02.constants" = some 2 := by kernel_rfl
theorem gRefT : (Tryd.prog.globals[2]?).map (·.type) = some 126 := by kernel_rfl
theorem rcon_of {W : World} {rest : List (String × DataW Unit)} (h : laidMet Tryd.prog (("antiquary/antiquaryref02.constants", Rows.laid_antiquary_antiquaryref02_constants) :: rest) W) : RCon W := by
  have t : Lib.TabIs Tryd.prog W "antiquary/antiquaryref02.constants" .u32 (K.map fun n => ((n : Nat) : Int)) :=
    Lib.tabIs_of_head (rest := rest) gRef gRefT (n := 64) (e := 101) (by kernel_rfl) (by kernel_rfl) (by kernel_rfl) (by kernel_rfl) h
  intro k hk
  have hlen : K.length = 64 := by decide
  rw [t.cell gRef k (by simp [hlen, hk])]
  simp [hlen, hk]
noncomputable def laidWorldR (os : Os) : World :=
  { laidWorld os with heap := (laidWorld os).heap.modify 2 (layRow (K.map fun n => Value.int .u32 (n : Nat)).toArray) }
def partsT : TypeDesc → List (Nat × TypeId)
  | .struct fs => fs.toList.map fun f => (f.offset, f.type)
  | _ => []
theorem fields_of {d : Option TypeDesc} {l : List (Nat × TypeId)} (h : d.map partsT = some l) (hl : l ≠ []) : ∃ fs : Array Field, d = some (.struct fs) ∧ fs.toList.map (fun f => (f.offset, f.type)) = l := by
  cases d with
  | none => simp at h
  | some d =>
    simp only [Option.map_some, Option.some.injEq] at h
    cases d <;> simp only [partsT] at h <;> try (exact absurd h.symm hl)
    rename_i fs
    exact ⟨fs, rfl, h⟩
section
variable {H : Type} {enc : TypeId × Value → H} {W : World} {P : Program}
/-- The parts of a struct. -/
theorem struct_at {base fuel : Nat} {t : TypeId} {L : List (Nat × TypeId)} {cs : List Value} {x : DataW H × List MemPlace} (hu : (P.underlying t).map partsT = some L) (hL : L ≠ []) (h : DataW.trod enc P W base (fun _ => true) true fuel t cs = some x) :
    cs.length = P.cellsOf t ∧ ∀ (i o : Nat) (ty : TypeId), L[i]? = some (o, ty) → ∃ n y, DataW.trod enc P W base (fun _ => true) true n ty ((cs.drop o).take (P.cellsOf ty)) = some y := by
  obtain ⟨fs, hs, hf⟩ := fields_of hu hL
  obtain ⟨xs, n, _, _, hcl, hxl, hx⟩ := DataW.trod_struct hs h
  refine ⟨hcl, fun i o ty hi => ?_⟩
  rw [← hf, List.getElem?_map, Option.map_eq_some_iff] at hi
  obtain ⟨f, h1, h2⟩ := hi
  injection h2 with e1 e2
  subst e1; subst e2
  have h3 : fs[i]? = some f := by rw [← h1]; simp
  have h4 := hx i f h3
  rw [List.getElem?_eq_getElem (by rw [hxl]; exact (Array.getElem?_eq_some_iff.1 h3).1)] at h4
  exact ⟨n, _, h4⟩
theorem open_bytes {base fuel k : Nat} {t e : TypeId} (hu : P.underlying t = some (.array k e)) (he : P.underlying e = some (.int .u8)) (hc : P.cellsOf e = 1) (hct : P.cellsOf t = k) {cs : List Value} {x : DataW H × List MemPlace}
    (h : DataW.trod enc P W base (fun _ => true) true fuel t cs = some x) : ∃ L : List UInt8, cs = bv L ∧ L.length = k := by
  obtain ⟨xs, m, _, _, hl, hxl, hrow⟩ := DataW.trod_array hu h
  rw [hct] at hl
  have each : ∀ i, i < k → ∃ b : UInt8, cs[i]? = some (.int .u8 (b.toNat : Nat)) := fun i hi => by
    have h1 := hrow i hi
    rw [hc, Nat.mul_one] at h1
    rw [List.getElem?_eq_getElem (by omega)] at h1
    obtain ⟨n, e1, _, hw⟩ := DataW.trod_int he h1
    have hn : 0 ≤ n ∧ n < 256 := by simp [Lit.wf, IntKind.min, IntKind.max, IntKind.bits, IntKind.signed] at hw; omega
    refine ⟨UInt8.ofNat n.toNat, ?_⟩
    have e2 : cs[i]? = some (.int .u8 n) := by
      have h3 : (cs.drop i)[0]? = some (.int .u8 n) := by
        have : ((cs.drop i).take 1)[0]? = some (.int .u8 n) := by rw [e1]; rfl
        rwa [List.getElem?_take_of_lt (by omega)] at this
      rwa [List.getElem?_drop, Nat.add_zero] at h3
    rw [e2]
    have : ((UInt8.ofNat n.toNat).toNat : Int) = n := by simp; omega
    rw [this]
  haveI : Inhabited UInt8 := ⟨0⟩
  obtain ⟨f, hf2⟩ := Go.Deep.choose_lt each
  refine ⟨(List.range k).map f, ?_, by simp⟩
  apply List.ext_getElem?
  intro i
  by_cases hi : i < k
  · rw [hf2 i hi]
    simp [bv, hi]
  · rw [List.getElem?_eq_none (by omega), List.getElem?_eq_none (by simp [bv]; omega)]
/-- A slice of elements of k cells. -/
theorem open_rowCells {α : Type} [Inhabited α] {base fuel k : Nat} {t e : TypeId} (ht : P.underlying t = some (.slice e)) (hc : P.cellsOf e = k) (hk : 0 < k) (f : α → List Value) (hf : ∀ x, (f x).length = k) (Wf : α → Prop)
    (hel : ∀ base fuel cs x, DataW.trod enc P W base (fun _ => true) true fuel e cs = some x → ∃ a, cs = f a ∧ Wf a) {cs : List Value} {x : DataW H × List MemPlace} (h : DataW.trod enc P W base (fun _ => true) true fuel t cs = some x) :
    ∃ A n c, ∃ l : List α, cs = [.slice A n c] ∧ n ≤ c ∧ c ≤ maxLen ∧ l.length = n ∧ Rd W A (n * k) (l.flatMap f) ∧ ∀ a ∈ l, Wf a := by
  rcases Go.Deep.open_slice ht h with ⟨hcs, _⟩ | ⟨x, n, c, m, q, D, Pl, hcs, _, hl, hm, hmm, _, hrow⟩
  · exact ⟨none, 0, 0, [], hcs, Nat.le_refl _, by simp [maxLen], rfl, by rw [Nat.zero_mul]; exact Rd.none_ _, by simp⟩
  · simp only [if_true] at hmm
    have each : ∀ i, i < n → ∃ a : α, (∀ j u, (f a)[j]? = some u → W.cell? ((x.add (i * k)).add j) = some u) ∧ Wf a := fun i hi => by
      obtain ⟨cs', h1, h2⟩ := hrow i (by omega)
      obtain ⟨a, rfl, hw⟩ := hel _ _ _ _ h2
      refine ⟨a, fun j u hj => ?_, hw⟩
      rw [hc] at h1
      obtain ⟨_, hlen, hcell⟩ := World.cells?_some h1
      rw [hcell j (by have := (List.getElem?_eq_some_iff.1 hj).1; rw [hf] at this; exact this), hj]
    obtain ⟨K, hK⟩ := Go.Deep.choose_lt each
    refine ⟨some x, n, c, (List.range n).map K, hcs, hl, hm, by simp, ⟨by rw [length_fl hf]; simp, fun j u hj => ⟨x, rfl, ?_⟩⟩, fun r hr => ?_⟩
    · have hlt := (List.getElem?_eq_some_iff.1 hj).1
      rw [length_fl hf] at hlt
      simp only [List.length_map, List.length_range] at hlt
      have hdk : j / k < n := Nat.div_lt_of_lt_mul (by rw [Nat.mul_comm]; exact hlt)
      have e : j = j / k * k + j % k := by rw [Nat.mul_comm]; exact (Nat.div_add_mod j k).symm
      have hg := fl_get hf ((List.range n).map K) (j / k) (by simp; exact hdk) (j % k) (Nat.mod_lt _ hk)
      rw [← e] at hg
      rw [hg] at hj
      simp only [List.getElem_map, List.getElem_range] at hj
      have := (hK (j / k) hdk).1 (j % k) u hj
      rw [add_of_add, ← e] at this
      exact this
    · simp only [List.mem_map, List.mem_range] at hr
      obtain ⟨i, hi, rfl⟩ := hr
      exact (hK i hi).2
/-- A slice that came in lies in a block of the world. -/
theorem under_cell {base : Nat} {t e : TypeId} {A : Option Addr} {n c : Nat} (ht : P.underlying t = some (.slice e)) (h : Cell.okWide P W .any base t (.slice A n c)) : Under A W.heap.size := fun ad e2 => by
  subst e2
  simp only [Cell.okWide, ht, Cell.ok] at h
  obtain ⟨_, _, _, _, row, cells, h3, _⟩ := h
  unfold World.shape? at h3
  exact Nat.lt_of_not_le fun hc => by rw [Array.getElem?_eq_none hc] at h3; cases h3
theorem under_part {base i : Nat} {t u e : TypeId} {ts : List TypeId} {cs : Array Value} {A : Option Addr} {n c : Nat} {L : List (Nat × TypeId)} (hu : (P.underlying t).map partsT = some L) (hL : L ≠ []) (hval : Value.okWide P W .any base t (.agg cs)) (hts : P.cellTypes P.depth t = some ts) (hi : ts[i % ts.length]? = some u) (hse : P.underlying u = some (.slice e))
    (hc : cs[i]? = some (.slice A n c)) : Under A W.heap.size := by
  obtain ⟨fs, hs, _⟩ := fields_of hu hL
  simp only [Value.okWide, hs] at hval
  obtain ⟨cs', e1, _, ts', h1, _, h3⟩ := hval
  injection e1 with e1
  subst e1
  rw [hts] at h1
  obtain rfl := Option.some.inj h1
  obtain ⟨u', h4, h5⟩ := h3 i _ hc
  rw [hi] at h4
  obtain rfl := Option.some.inj h4
  exact under_cell hse h5
end
section
variable {H : Type} {enc : TypeId × Value → H} {W : World}
theorem uDg : Tryd.prog.underlying 26 = some (.array 16 5) := by kernel_rfl
theorem cDg : Tryd.prog.cellsOf 26 = 16 := by kernel_rfl
theorem cInt : Tryd.prog.cellsOf 3 = 1 := by kernel_rfl
theorem cStr : Tryd.prog.cellsOf 9 = 1 := by kernel_rfl
theorem uInt : Tryd.prog.underlying 3 = some (.int .i64) := by kernel_rfl
theorem uStr : Tryd.prog.underlying 9 = some .string := by kernel_rfl
theorem open_dgCells {base fuel : Nat} {cs : List Value} {x : DataW H × List MemPlace} (h : DataW.trod enc Tryd.prog W base (fun _ => true) true fuel 26 cs = some x) : ∃ n, cs = bv (dg n) ∧ n < 2 ^ 128 := by
  obtain ⟨L, rfl, hl⟩ := open_bytes uDg (by kernel_rfl) (by kernel_rfl) cDg h
  refine ⟨val L, by rw [dg_val hl], ?_⟩
  have := val_lt L
  rw [hl] at this
  exact this
theorem open_digest {base : Nat} {v : Value} {d : DataW H} {p : List MemPlace} (hval : Value.okWide Tryd.prog W .any base 26 v) (h : DataW.Trod enc Tryd.prog W 0 (fun _ => true) true 26 v d p) : ∃ n, v = dgV n ∧ n < 2 ^ 128 := by
  simp only [Value.okWide, uDg] at hval
  obtain ⟨cs, rfl, _⟩ := hval
  obtain ⟨fuel, hf⟩ := h
  obtain ⟨n, e, hn⟩ := open_dgCells hf
  refine ⟨n, ?_, hn⟩
  simp only [Value.cells] at e
  show Value.agg cs = .agg (bv (dg n)).toArray
  rw [← e]
theorem open_itCells {base fuel : Nat} {cs : List Value} {x : DataW H × List MemPlace} (h : DataW.trod enc Tryd.prog W base (fun _ => true) true fuel 50 cs = some x) : ∃ k : It, cs = itL k ∧ WfT k := by
  obtain ⟨hl, hf⟩ := struct_at (L := [(0, 26), (16, 9)]) (by kernel_rfl) (by simp) h
  rw [show Tryd.prog.cellsOf 50 = 17 by kernel_rfl] at hl
  obtain ⟨n0, y0, g0⟩ := hf 0 0 _ rfl
  obtain ⟨n1, y1, g1⟩ := hf 1 16 _ rfl
  rw [cDg] at g0
  rw [cStr] at g1
  obtain ⟨nm, e0, hnm⟩ := open_dgCells g0
  obtain ⟨s, e1, _, w1⟩ := DataW.trod_string uStr g1
  refine ⟨⟨nm, s⟩, ?_, hnm, w1⟩
  have : cs = (cs.drop 0).take 16 ++ (cs.drop 16).take 1 := by rw [List.drop_zero, List.take_of_length_le (i := 1) (by simp; omega), List.take_append_drop]
  rw [this, e0, e1]
theorem open_pxCells {base fuel : Nat} {cs : List Value} {x : DataW H × List MemPlace} (h : DataW.trod enc Tryd.prog W base (fun _ => true) true fuel 28 cs = some x) : ∃ v n, cs = pxL v n ∧ v < 2 ^ 128 ∧ (Lit.int .i64 n).wf = true := by
  obtain ⟨hl, hf⟩ := struct_at (L := [(0, 26), (16, 3)]) (by kernel_rfl) (by simp) h
  rw [show Tryd.prog.cellsOf 28 = 17 by kernel_rfl] at hl
  obtain ⟨n0, y0, g0⟩ := hf 0 0 _ rfl
  obtain ⟨n1, y1, g1⟩ := hf 1 16 _ rfl
  rw [cDg] at g0
  rw [cInt] at g1
  obtain ⟨nm, e0, hnm⟩ := open_dgCells g0
  obtain ⟨z, e1, _, w1⟩ := DataW.trod_int uInt g1
  refine ⟨nm, z, ?_, hnm, w1⟩
  have : cs = (cs.drop 0).take 16 ++ (cs.drop 16).take 1 := by rw [List.drop_zero, List.take_of_length_le (i := 1) (by simp; omega), List.take_append_drop]
  rw [this, e0, e1]
theorem open_prefix {base : Nat} {v : Value} {d : DataW H} {p : List MemPlace} (hval : Value.okWide Tryd.prog W .any base 28 v) (h : DataW.Trod enc Tryd.prog W 0 (fun _ => true) true 28 v d p) : ∃ b n, v = pxV b n ∧ b < 2 ^ 128 ∧ (Lit.int .i64 n).wf = true := by
  obtain ⟨fs, hs, _⟩ := fields_of (l := [(0, 26), (16, 3)]) (show (Tryd.prog.underlying 28).map partsT = _ by kernel_rfl) (by simp)
  obtain ⟨cs, rfl, _⟩ := okWide_struct hs hval
  obtain ⟨fuel, hf⟩ := h
  obtain ⟨b, n, e, hb, hw⟩ := open_pxCells hf
  refine ⟨b, n, ?_, hb, hw⟩
  simp only [Value.cells] at e
  show Value.agg cs = .agg (pxL b n).toArray
  rw [← e]
theorem open_stock {base : Nat} {v : Value} {d : DataW H} {p : List MemPlace} (hval : Value.okWide Tryd.prog W .any base 24 v) (h : DataW.Trod enc Tryd.prog W 0 (fun _ => true) true 24 v d p) :
    ∃ A n c l, v = stV A n c ∧ n ≤ c ∧ c ≤ maxLen ∧ RdT W A n l ∧ (∀ x ∈ l, WfT x) ∧ Under A W.heap.size := by
  obtain ⟨fs, hs, _⟩ := fields_of (l := [(0, 22)]) (show (Tryd.prog.underlying 24).map partsT = _ by kernel_rfl) (by simp)
  obtain ⟨cs, rfl, _⟩ := okWide_struct hs hval
  obtain ⟨fuel, hf⟩ := h
  obtain ⟨hl, hp⟩ := struct_at (L := [(0, 22)]) (by kernel_rfl) (by simp) hf
  obtain ⟨n0, y0, g0⟩ := hp 0 0 _ rfl
  rw [show Tryd.prog.cellsOf 24 = 1 by kernel_rfl] at hl
  rw [show Tryd.prog.cellsOf 22 = 1 by kernel_rfl, List.drop_zero, List.take_of_length_le (by omega)] at g0
  haveI : Inhabited It := ⟨⟨0, ⟨#[]⟩⟩⟩
  obtain ⟨A, n, c, l, e, h1, h2, h3, h4, h5⟩ := open_rowCells (t := 22) (e := 50) (by kernel_rfl) (k := 17) (by kernel_rfl) (by omega) itL itL_len WfT (fun _ _ _ _ h => open_itCells h) g0
  simp only [Value.cells] at e
  have ec : cs = #[.slice A n c] := by apply Array.ext'; rw [e]
  subst ec
  exact ⟨A, n, c, l, rfl, h1, h2, ⟨h3, h4⟩, h5, under_part (i := 0) (e := 50) (L := [(0, 22)]) (by kernel_rfl) (by simp) hval (ts := [22]) (by kernel_rfl) rfl (by kernel_rfl) rfl⟩
end
end Go.Proofs.YtieamjjnofelcaaDoor
namespace Go.Proofs.YtieamjjnofelcaaDoor
set_option linter.unusedSimpArgs false
set_option linter.unusedVariables false
set_option maxRecDepth 20000
open Go.ChangeShapes Go.WideShapes Go.ChangeAt Go.RowKit Sha Exch
section
variable {H : Type} {enc : TypeId × Value → H} {W : World}
/-- A slice of strings that came in. -/
theorem open_rdStrs {base : Nat} {v : Value} {d : DataW H} {p : List MemPlace} (hval : Value.okWide Tryd.prog W .any base 66 v) (h : DataW.Trod enc Tryd.prog W 0 (fun _ => true) true 66 v d p) :
    ∃ A n c l, v = .slice A n c ∧ n ≤ c ∧ c ≤ maxLen ∧ l.length = n ∧ Rd W A n (sv l) ∧ ∀ s ∈ l, s.size ≤ maxLen := by
  obtain ⟨A, n, c, rfl⟩ := okWide_slice (e := 9) (by kernel_rfl) hval
  obtain ⟨fuel, hf⟩ := h
  rcases open_strings (e := 9) (by kernel_rfl) (by kernel_rfl) (by kernel_rfl) hf with ⟨hcs, _⟩ | ⟨x, l, c', zs, hcs, _, hl, hm, hz, _, hcell, hwz⟩
  · simp [Value.cells] at hcs
    obtain ⟨rfl, rfl, rfl⟩ := hcs
    exact ⟨none, 0, 0, [], rfl, Nat.le_refl _, by simp [maxLen], rfl, Rd.none_ _, by simp⟩
  · simp [Value.cells] at hcs
    obtain ⟨rfl, rfl, rfl⟩ := hcs
    have hzl : zs.length = c := by simpa using hz
    refine ⟨some x, n, c, zs.take n, rfl, hl, hm, by simp; omega, ⟨by simp; omega, fun k u hk => ⟨x, rfl, ?_⟩⟩, fun z hz => hwz z (List.mem_of_mem_take hz)⟩
    have hlt : k < n := by have := (List.getElem?_eq_some_iff.1 hk).1; simp at this; omega
    rw [hcell k (by omega), ← hk]
    simp [sv, hlt, show k < zs.length by omega, List.getElem?_take]
/-- A slice of bytes that came in. -/
theorem open_rdBytes {base : Nat} {v : Value} {d : DataW H} {p : List MemPlace} (hval : Value.okWide Tryd.prog W .any base 67 v) (h : DataW.Trod enc Tryd.prog W 0 (fun _ => true) true 67 v d p) :
    ∃ A n c l, v = .slice A n c ∧ n ≤ c ∧ c ≤ maxLen ∧ l.length = n ∧ Rd W A n (bv l) := by
  obtain ⟨A, n, c, rfl⟩ := okWide_slice (e := 5) (by kernel_rfl) hval
  obtain ⟨fuel, hf⟩ := h
  rcases open_ints (e := 5) (k := .u8) (by kernel_rfl) (by kernel_rfl) (by kernel_rfl) hf with ⟨hcs, _⟩ | ⟨x, l, c', zs, hcs, _, hl, hm, hz, _, hcell, hwz⟩
  · simp [Value.cells] at hcs
    obtain ⟨rfl, rfl, rfl⟩ := hcs
    exact ⟨none, 0, 0, [], rfl, Nat.le_refl _, by simp [maxLen], rfl, Rd.none_ _⟩
  · simp [Value.cells] at hcs
    obtain ⟨rfl, rfl, rfl⟩ := hcs
    have hzl : zs.length = c := by simpa using hz
    have hb : ∀ z ∈ zs, 0 ≤ z ∧ z < 256 := fun z h => by
      have := hwz z h
      simp [Lit.wf, IntKind.min, IntKind.max, IntKind.bits, IntKind.signed] at this
      omega
    refine ⟨some x, n, c, (zs.take n).map fun z => UInt8.ofNat z.toNat, rfl, hl, hm, by simp; omega, by simp; omega, fun k u hk => ⟨x, rfl, ?_⟩⟩
    have hlt : k < n := by have := (List.getElem?_eq_some_iff.1 hk).1; simp at this; omega
    rw [hcell k (by omega), ← hk]
    have hkz : k < zs.length := by omega
    have h1 := hb zs[k] (List.getElem_mem _)
    simp [bv, hlt, hkz, List.getElem?_take, UInt8.toNat_ofNat']
    omega
end
end Go.Proofs.YtieamjjnofelcaaDoor
