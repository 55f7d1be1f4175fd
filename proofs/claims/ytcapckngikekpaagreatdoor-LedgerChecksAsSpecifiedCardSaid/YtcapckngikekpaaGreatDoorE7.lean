/-
  Known of the functions of this seat's laws, joined. Conditions: each theorem's own.
-/
import Derived.Test.YtcapckngikekpaaGreatDoorE6
namespace Go.Proofs.YtcapckngikekpaaGreatDoor
set_option linter.unusedSimpArgs false
set_option linter.unusedVariables false
set_option maxRecDepth 100000
set_option maxHeartbeats 16000000
section
open Go.RowKit Ring Sha
theorem zin (a b : List UInt8) (ha : a.length = 16) (hb : b.length = 16) (w : World) : (binOp .neq 49 (.agg (bv a).toArray) (.agg (bv b).toArray)).run Tryz.prog w = .ok (.bool (!decide (a = b))) w := by
 obtain ⟨i, h1, h2, h3, h4⟩ := info_parts (show (Tryz.prog.info? 5).map (fun i => (i.zero, i.size, i.bytes)) = some (some (.int .u8 0), 1, 1) by kernel_rfl)
 exact zkg (e := 5) (by kernel_rfl) h1 (by kernel_rfl) (by kernel_rfl) a b ha hb w
def z3u (s : ByteArray) (tag : Int) (l : List ByteArray) : List UInt8 := z0o (z01 tag ([s] ++ l ++ [s]))
theorem zeh (s : ByteArray) (tag : Int) (l : List ByteArray) : (z3u s tag l).length = 16 := z84 _
theorem zfm {P : Program} {w : World} {ops : Array Oper} {rest : List Oper} {o : Oper} {a : Act} {Q : Exit → Act → World → Prop} {e : TypeId} {z : Array Value} (hgd : o.guard = none) (ho : o.op = .alloc e) (hz : (zeroValue e).run P w = .ok (.agg z) w)
  (h : ∀ w' g, g = w.heap.size → Blk w' g e z → Below w.heap.size w w' → g < w'.heap.size → wpList P ops Q rest (a.put o.dst (.pointer (some ⟨g, 0, none⟩))) w') : wpList P ops Q (o :: rest) a w :=
 wpList_plain hgd fun _ hK => z7n (z := .agg z) ho hz (hK _ _ (h _ _ rfl (Blk.new _ _ _) ((Below.refl _ _).alloc (Nat.le_refl _) _) (Blk.new _ _ _).lt))
theorem zfy (w : World) : (zeroValue 170).run Tryz.prog w = .ok (.agg (z4e z3z 0)) w := by kernel_rfl
theorem zej {w : World} {g : Nat} {k : Key} {e : Int} (h : Blk w g 170 (z4e k e)) : ∀ j u, (kv k)[j]? = some u → w.cell? ((⟨g, 0, none⟩ : Addr).add j) = some u := by
 intro j u hj
 have e1 : (⟨g, 0, none⟩ : Addr).add j = ⟨g, j, none⟩ := by unfold Addr.add; split <;> simp_all
 rw [e1, h.cell j]
 match j, hj with
 | 0, hj => exact hj
 | 1, hj => exact hj
 | 2, hj => exact hj
 | 3, hj => exact hj
 | 4, hj => exact hj
abbrev z4a (p s : Int) : Key := ⟨p, s, ⟨#[]⟩, 0, 0⟩
def z8o (p s tag : Int) (parts : List ByteArray) (S : List UInt8) (day : Int) (l : List Key) : Int := match z0r (z4a p s) l with
 | none => 5
 | some k => if z3q k day then (if z3u k.secret tag parts = S then 0 else 8) else 9
theorem znf (A : Option Addr) (n c : Nat) (l : List Key) (p s tag : Int) (B : Option Addr) (m d : Nat) (parts : List ByteArray) (S : List UInt8) (day : Int) (w : World) (hn : n ≤ 1000) (hr : RdK w A n l) (hs : z2d l) (hv : ∀ k ∈ l, z14 k = true)
  (hm : m ≤ 100) (hp : ∀ s ∈ parts, s.size ≤ 65536) (hrp : Rd w B m (sv parts)) (hS : S.length = 16) (hg : GCon w) :
  Calls Tryz.prog 92 #[.slice A n c, .int .i64 p, .int .i64 s, .int .i64 tag, .slice B m d, .agg (bv S).toArray, .int .i64 day] w fun e w' => e = .returned (.int .i64 (z8o p s tag parts S day l)) ∧ Below w.heap.size w w' := by
 have HF := y8 (fun W hr => zp4 A n c l p s W (by omega) hr hs)
 have HV : Hid (∀ k, z0r (z4a p s) l = some k → (0 < k.til ∧ k.til ≤ 1048577) ∧ k.secret.size ≤ 64) := y8 (fun k hf => by
  have := (zl5 k).1 (hv k (ze4 _ l k hf).2)
  unfold zfi at this
  omega)
 unfold z8o
 change Hid (∀ W, RdK W A n l → Calls _ _ _ W fun e w' => e = .returned (.tuple #[z0v (z7c (z0r (z4a p s) l)), .int .i64 (z7a (z0r (z4a p s) l) 5)]) ∧ Below W.heap.size W w') at HF
 generalize z0r (z4a p s) l = F at *
 have HD := y8 (show (bv S).toArray.size = 16 by simp [hS])
 have hb0 := (Below.refl w.heap.size w).alloc (Nat.le_refl _) (.cells (bv S).toArray 49)
 have q12 := Blk.new w 49 (bv S).toArray
 cases F with
 | none =>
  dsimp only
  go_enter Tryz.func92, Tryz.ntmps92
  go_wp2_with fail
  refine (HF.out _ (hr.below hb0)).mono ?_
  rintro e w1 ⟨rfl, hb1⟩
  simp only [z7c, z7a, Option.getD_none, Option.isSome_none, Bool.false_eq_true, if_false]
  go_wp2_with (first
   | (refine zfl rfl rfl ?_; intro w2 g2 hg2 hbk hb2 hlt2; have Hg2 := y8 hg2; clear hg2)
   | (refine zb8 (k := z3z) rfl rfl rfl rfl hbk ?_; intro w3 hbk3 hb3))
  go_ret
  exact ⟨rfl, (y9 hb0 hb1).trans ((hb2.mono (by have := hb0.size; have := hb1.size; omega)).trans (hb3.mono (by have := Hg2.out; have := hb0.size; have := hb1.size; omega)))⟩
 | some k =>
  dsimp only
  obtain ⟨⟨ht1, ht2⟩, hsec⟩ := HV.out k rfl
  have HC := y8 (fun W => zo8 k day W ht1 ht2)
  have HM : Hid (∀ W, Rd W B m (sv parts) → GCon W → Calls Tryz.prog 75 #[z0v k, .int .i64 tag, .slice B m d] W fun e w' => e = .returned (.agg (bv (z3u k.secret tag parts)).toArray) ∧ Below W.heap.size W w') := y8 (fun W hr hg => zij k tag B m d parts W hm hp (by omega) hr hg)
  have HLs := y8 (zeh k.secret tag parts)
  have hneq : ∀ W, (binOp .neq 49 (.agg (bv (z3u k.secret tag parts)).toArray) (.agg (bv S).toArray)).run Tryz.prog W = .ok (.bool (!decide (z3u k.secret tag parts = S))) W := fun W => zin _ S HLs.out hS W
  have hdec : (if z3u k.secret tag parts = S then (0 : Int) else 8) = if decide (z3u k.secret tag parts = S) = true then 0 else 8 := by simp
  rw [hdec]
  clear hdec HLs HV
  generalize z3u k.secret tag parts = T at *
  generalize decide (T = S) = E at *
  generalize z3q k day = C at *
  simp only [z7c, z7a, Option.getD_some, Option.isSome_some, if_true] at HF
  clear hS
  cases C
  ·simp only [Bool.false_eq_true, if_false]
   go_enter Tryz.func92, Tryz.ntmps92
   go_wp2_with fail
   refine (HF.out _ (hr.below hb0)).mono ?_
   rintro e w1 ⟨rfl, hb1⟩
   go_wp2_with (first
    | (refine zfl rfl rfl ?_; intro w2 g2 hg2 hbk hb2 hlt2; have Hg2 := y8 hg2; clear hg2)
    | (refine zb8 (k := k) rfl rfl rfl rfl hbk ?_; intro w3 hbk3 hb3)
    | (refine z1h rfl rfl rfl hbk3 z76 z88 ?_))
   refine (HC.out _).mono ?_
   rintro e w4 ⟨rfl, hb4⟩
   have hbX : Below w.heap.size w w3 := (y9 hb0 hb1).trans ((hb2.mono (by have := hb0.size; have := hb1.size; omega)).trans (hb3.mono (by have := Hg2.out; have := hb0.size; have := hb1.size; omega)))
   go_wp2
   go_ret
   exact ⟨rfl, y9 hbX hb4⟩
  ·simp only [if_true]
   have q12' := q12
   go_enter Tryz.func92, Tryz.ntmps92
   go_wp2_with fail
   refine (HF.out _ (hr.below hb0)).mono ?_
   rintro e w1 ⟨rfl, hb1⟩
   replace q12 := q12.below hb1
   go_wp2_with (first
    | (refine zfl rfl rfl ?_; intro w2 g2 hg2 hbk hb2 hlt2; have Hg2 := y8 hg2; clear hg2)
    | (refine zb8 (k := k) rfl rfl rfl rfl hbk ?_; intro w3 hbk3 hb3)
    | (refine z1h rfl rfl rfl hbk3 z76 z88 ?_))
   refine (HC.out _).mono ?_
   rintro e w4 ⟨rfl, hb4⟩
   have hbY : Below w1.heap.size w1 w3 := hb2.trans (hb3.mono (by have := Hg2.out; omega))
   have hbX : Below w.heap.size w w3 := y9 (y9 hb0 hb1) hbY
   replace q12 := (q12.below hbY).below hb4
   have q15 := hbk3.below hb4
   have hbZ := y9 hbX hb4
   have hrZ := hrp.below hbZ
   have hgZ := hg.below hbZ
   clear hb4 hbX hbY hb3 hb2 hbk hbk3 q12'
   go_wp2_with fail
   have hS0 : Below w4.heap.size w4 w4.drew := (Below.refl _ w4).drew
   refine yp 7 (by kernel_rfl) ?_
   refine WpT.tl 0 rfl (z7q rfl rfl rfl (by kernel_rfl) (by kernel_rfl) q15) ((Below.refl _ _).drew) ?_
   simp only [nrm]
   refine WpT.tk 1 ((Below.refl _ _).drew) ?_
   simp only [nrm]
   refine WpT.tk 2 ((Below.refl _ _).drew) ?_
   simp only [nrm]
   refine WpT.tl 4 rfl (z7q rfl rfl rfl (by kernel_rfl) (by rw [HD.out]; kernel_rfl) q12) ((Below.refl _ _).drew) ?_
   simp only [nrm]
   refine WpT.on 3 rfl (fun K hK => ?_)
   go_simp; refine (HM.out _ (hrZ.below hS0) (hgZ.below hS0)).mono ?_; rintro e w5 ⟨rfl, hb5⟩; have hS5 := y9 hS0 hb5
   refine hK _ _ hS5 ?_; clear hK K; try simp only [nrm]
   refine WpT.tk 5 hS5 ?_
   simp only [nrm]
   refine WpT.on 6 rfl (fun K hK => ?_)
   go_simp; (try go_bits)
   refine hK _ _ hS5 ?_; clear hK K; try simp only [nrm]
   refine WpT.done (by kernel_rfl) ?_ _
   cases E
   ·go_wp2_with fail
    go_ret
    exact ⟨rfl, y9 hbZ hS5⟩
   ·go_wp2_with fail
    go_ret
    exact ⟨rfl, y9 hbZ hS5⟩
theorem zs5 (A : Option Addr) (n c : Nat) (l : List Key) (p s tag : Int) (B : Option Addr) (m d : Nat) (parts : List ByteArray) (S : List UInt8) (day : Int) (w : World) (hn : n ≤ 1000) (hr : RdK w A n l) (hv : ∀ k ∈ l, z14 k = true)
  (hm : m ≤ 10) (hp : ∀ s ∈ parts, s.size ≤ 65536) (hrp : Rd w B m (sv parts)) (hS : S.length = 16) (hg : RCon w) :
  Calls Tryz.prog 93 #[.slice A n c, .int .i64 p, .int .i64 s, .int .i64 tag, .slice B m d, .agg (bv S).toArray, .int .i64 day] w fun e w' => e = .returned (.int .i64 (z8o p s tag parts S day l)) ∧ Below w.heap.size w w' := by
 have HF := y8 (fun W hr => zs8 A n c l p s W (by omega) hr)
 have HV : Hid (∀ k, z0r (z4a p s) l = some k → k.secret.size ≤ 64) := y8 (fun k hf => by
  have := (zl5 k).1 (hv k (ze4 _ l k hf).2)
  unfold zfi at this
  omega)
 unfold z8o
 change Hid (∀ W, RdK W A n l → Calls _ _ _ W fun e w' => e = .returned (.agg (z4e (z7c (z0r (z4a p s) l)) (z7a (z0r (z4a p s) l) 5))) ∧ Below W.heap.size W w') at HF
 generalize z0r (z4a p s) l = F at *
 have HD := y8 (show (bv S).toArray.size = 16 by simp [hS])
 have hb0 := (Below.refl w.heap.size w).alloc (Nat.le_refl _) (.cells (bv S).toArray 49)
 have q12 := Blk.new w 49 (bv S).toArray
 cases F with
 | none =>
  dsimp only
  simp only [z7c, z7a, Option.getD_none, Option.isSome_none, Bool.false_eq_true, if_false] at HF
  go_enter Tryz.func93, Tryz.ntmps93
  go_wp2_with fail
  refine (HF.out _ (hr.below hb0)).mono ?_
  rintro e w1 ⟨rfl, hb1⟩
  go_wp2_with (first
   | (refine zfm rfl rfl (zfy _) ?_; intro w3 g3 hg3 hbk3 hb3 hlt3; have Hg3 := y8 hg3; clear hg3)
   | (refine zb9 (k := z3z) (e := 5) rfl rfl rfl rfl hbk3 ?_; intro w4 hbk4 hb4; have q5 := hbk4.cell 5; simp only [List.getElem?_toArray, List.getElem?_cons_zero, List.getElem?_cons_succ] at q5))
  go_ret
  exact ⟨rfl, (y9 hb0 hb1).trans ((hb3.mono (by have := hb0.size; have := hb1.size; omega)).trans (hb4.mono (by have := Hg3.out; have := hb0.size; have := hb1.size; omega)))⟩
 | some k =>
  dsimp only
  have hsec := HV.out k rfl
  have HC := y8 (fun W => zs6 k day W)
  have HM : Hid (∀ W, Rd W B m (sv parts) → RCon W → Calls Tryz.prog 80 #[z0v k, .int .i64 tag, .slice B m d] W fun e w' => e = .returned (.agg (bv (z3u k.secret tag parts)).toArray) ∧ Below W.heap.size W w') := y8 (fun W hr hg => zk4 k tag B m d parts W hm hp (by omega) hr hg)
  have HLs := y8 (zeh k.secret tag parts)
  have hneq : ∀ W, (binOp .neq 49 (.agg (bv (z3u k.secret tag parts)).toArray) (.agg (bv S).toArray)).run Tryz.prog W = .ok (.bool (!decide (z3u k.secret tag parts = S))) W := fun W => zin _ S HLs.out hS W
  have hdec : (if z3u k.secret tag parts = S then (0 : Int) else 8) = if decide (z3u k.secret tag parts = S) = true then 0 else 8 := by simp
  rw [hdec]
  clear hdec HLs HV
  generalize z3u k.secret tag parts = T at *
  generalize decide (T = S) = E at *
  generalize z3q k day = C at *
  simp only [z7c, z7a, Option.getD_some, Option.isSome_some, if_true] at HF
  clear hS
  cases C
  ·simp only [Bool.false_eq_true, if_false]
   go_enter Tryz.func93, Tryz.ntmps93
   go_wp2_with fail
   refine (HF.out _ (hr.below hb0)).mono ?_
   rintro e w1 ⟨rfl, hb1⟩
   go_upto_region 4 with (first
    | (refine zfm rfl rfl (zfy _) ?_; intro w3 g3 hg3 hbk3 hb3 hlt3; have Hg3 := y8 hg3; clear hg3)
    | (refine zb9 (k := k) (e := 0) rfl rfl rfl rfl hbk3 ?_; intro w4 hbk4 hb4; have q5 := hbk4.cell 5; simp only [List.getElem?_toArray, List.getElem?_cons_zero, List.getElem?_cons_succ] at q5))
   have hc4 := zej hbk4
   have hbX : Below w.heap.size w w4 := (y9 hb0 hb1).trans ((hb3.mono (by have := hb0.size; have := hb1.size; omega)).trans (hb4.mono (by have := Hg3.out; have := hb0.size; have := hb1.size; omega)))
   go_wp2_with (refine z4o (k := k) rfl rfl rfl hc4 ?_)
   refine (HC.out _).mono ?_
   rintro e w5 ⟨rfl, hb5⟩
   go_wp2
   go_ret
   exact ⟨rfl, y9 hbX hb5⟩
  ·simp only [if_true]
   go_enter Tryz.func93, Tryz.ntmps93
   go_wp2_with fail
   refine (HF.out _ (hr.below hb0)).mono ?_
   rintro e w1 ⟨rfl, hb1⟩
   replace q12 := q12.below hb1
   go_upto_region 4 with (first
    | (refine zfm rfl rfl (zfy _) ?_; intro w3 g3 hg3 hbk3 hb3 hlt3; have Hg3 := y8 hg3; clear hg3)
    | (refine zb9 (k := k) (e := 0) rfl rfl rfl rfl hbk3 ?_; intro w4 hbk4 hb4; have q5 := hbk4.cell 5; simp only [List.getElem?_toArray, List.getElem?_cons_zero, List.getElem?_cons_succ] at q5))
   have hc4 := zej hbk4
   have hbY : Below w1.heap.size w1 w4 := hb3.trans (hb4.mono (by have := Hg3.out; omega))
   have hbX : Below w.heap.size w w4 := y9 (y9 hb0 hb1) hbY
   go_wp2_with (refine z4o (k := k) rfl rfl rfl hc4 ?_)
   refine (HC.out _).mono ?_
   rintro e w5 ⟨rfl, hb5⟩
   replace q12 := (q12.below hbY).below hb5
   have q15 := hbk4.below hb5
   have hc5 := zej q15
   have hbZ := y9 hbX hb5
   have hrZ := hrp.below hbZ
   have hgZ := hg.below hbZ
   clear hb5 hbX hbY hb3 hb4 hbk3 hbk4 hc4 q5
   go_wp2_with fail
   have hS0 : Below w5.heap.size w5 w5.drew := (Below.refl _ w5).drew
   refine yp 7 (by kernel_rfl) ?_
   refine WpT.tk 0 ((Below.refl _ _).drew) ?_
   simp only [nrm]
   refine WpT.tl 1 rfl (yv rfl rfl rfl (by kernel_rfl) (by kernel_rfl) (us := kv k) hc5) ((Below.refl _ _).drew) ?_
   simp only [nrm]
   refine WpT.tk 2 ((Below.refl _ _).drew) ?_
   simp only [nrm]
   refine WpT.tk 3 ((Below.refl _ _).drew) ?_
   simp only [nrm]
   refine WpT.tl 5 rfl (z7q rfl rfl rfl (by kernel_rfl) (by rw [HD.out]; kernel_rfl) q12) ((Below.refl _ _).drew) ?_
   simp only [nrm]
   refine WpT.on 4 rfl (fun K hK => ?_)
   go_simp; refine (HM.out _ (hrZ.below hS0) (hgZ.below hS0)).mono ?_; rintro e w6 ⟨rfl, hb6⟩; have hS6 := y9 hS0 hb6
   refine hK _ _ hS6 ?_; clear hK K; try simp only [nrm]
   refine WpT.tk 6 hS6 ?_
   simp only [nrm]
   refine WpT.done (by kernel_rfl) ?_ _
   cases E
   ·go_wp2_with fail
    go_ret
    exact ⟨rfl, y9 hbZ hS6⟩
   ·go_wp2_with fail
    go_ret
    exact ⟨rfl, y9 hbZ hS6⟩
end
section
open Merk Ring
structure At where
  name : ByteArray
  kind : Int
  n : Int
  s : ByteArray
structure Ev where
  kind : Int
  commit : Int
  day : Int
  id : Int
  owner : Int
  til : Int
  frm : Int
  vec : List Int
  attrs : List At
  nonce : Nat
structure Fc where
  kind : Int
  commit : Int
  day : Int
  id : Int
  owner : Int
  til : Int
  frm : Int
  blind : Nat
deriving DecidableEq
structure Hd where
  office : Int
  commit : Int
  day : Int
  root : Nat
  serial : Int
  sig : Nat
deriving DecidableEq
structure Lg where
  office : Int
  events : List Ev
  size : Int
  tops : List Nat
  heads : List Hd
structure Rc where
  office : Int
  face : Fc
  serial : Int
  sig : Nat
deriving DecidableEq
structure Sh where
  face : Fc
  path : List Nat
  head : Hd
structure He where
  bl : Nat → List Int → List At → Nat
  lf : Fc → Nat
  nd : Nat → Nat → Nat
  em : Nat
  sh : ByteArray → Int → Int → Int → Int → Nat → Nat
  sr : ByteArray → Int → Int → Nat → Nat
section
variable (H : He)
def yt (e : Ev) : Fc :=
  { kind := e.kind, commit := e.commit, day := e.day, id := if e.kind = 5 then 0 else e.id, owner := if e.kind = 1 then e.owner else 0,
    til := if e.kind = 1 ∨ e.kind = 4 then e.til else 0, frm := if e.kind = 2 ∨ e.kind = 3 then e.frm else 0,
    blind := if e.kind = 1 ∨ e.kind = 2 then H.bl e.nonce e.vec e.attrs else 0 }
def z0c (l : List Ev) : List Nat := l.map fun e => H.lf (yt H e)
theorem zec (l : List Ev) : (z0c H l).length = l.length := by simp [z0c]
theorem zpx (l : List Ev) (n : Nat) : z0c H (l.take n) = (z0c H l).take n := by simp [z0c, List.map_take]
def z2j (l : List Ev) (c : Nat) : Int := if c = 0 then 0 else (l[c - 1]?.map Ev.day).getD 0
def z20 (l : List Ev) : Int := z2j l l.length
def fol (k : Nat) (la : Int) (e : Ev) : Int :=
  if e.kind < 1 ∨ 5 < e.kind then 1 else if e.commit ≠ (k : Int) + 1 ∨ e.day < la ∨ 1048576 < e.day then 9 else if 65536 ≤ k then 2 else 0
def follows (l : List Ev) (e : Ev) : Int := fol l.length (z20 l) e
def z45 (k : Nat) (la : Int) : List Ev → Bool
  | [] => true
  | e :: l => if fol k la e = 0 then z45 (k + 1) e.day l else false
def z36 (off : Int) (ev : List Ev) (la : Int) : List Hd → Bool
  | [] => true
  | h :: l => if h.office = off ∧ la ≤ h.commit ∧ h.commit ≤ ev.length ∧ h.day = z2j ev h.commit.toNat ∧ root H.nd H.em ((z0c H ev).take h.commit.toNat) = h.root then z36 off ev h.commit l else false
def zb1 (l : Lg) : Bool :=
  decide (0 ≤ l.office ∧ l.office < 32 ∧ l.events.length ≤ 65536) && (z45 0 0 l.events && (z36 H l.office l.events 0 l.heads && (decide (l.size = l.events.length) && decide (z12 H.nd H.em (z0c H l.events) = l.tops))))
def z4s (l : Lg) (e : Ev) : Lg × Int :=
  if follows l.events e = 0 then
    (if (z3e H.nd l.size l.tops (H.lf (yt H e))).2.2 = 0 then
      ({ l with events := l.events ++ [e], size := (z3e H.nd l.size l.tops (H.lf (yt H e))).1, tops := (z3e H.nd l.size l.tops (H.lf (yt H e))).2.1 }, 0)
     else (l, (z3e H.nd l.size l.tops (H.lf (yt H e))).2.2))
  else (l, follows l.events e)
def z4g (k : Key) (n : Int) : Bool := z14 k && decide (k.party = 1073741824 + n)
def ze9 (secret : ByteArray) (serial off : Int) (ev : List Ev) (rt : Nat) : Hd :=
  { office := off, commit := ev.length, day := z20 ev, root := rt, serial := serial, sig := H.sh secret off ev.length (z20 ev) serial rt }
def z3a : Hd := ⟨0, 0, 0, 0, 0, 0⟩
def z6u (l : Lg) (k : Key) : Lg × Hd × Int :=
  if z4g k l.office = true then
    ({ l with heads := l.heads ++ [ze9 H k.secret k.serial l.office l.events (z3g H.nd H.em l.size l.tops).1] }, ze9 H k.secret k.serial l.office l.events (z3g H.nd H.em l.size l.tops).1, 0)
  else (l, z3a, 1)
def z15 : Fc := ⟨0, 0, 0, 0, 0, 0, 0, 0⟩
def z7r : Sh := ⟨z15, [], z3a⟩
def z9f (l : Lg) (c : Int) (h : Hd) : Sh × Int :=
  if h ∈ l.heads then
    (if 1 ≤ c ∧ c ≤ h.commit then
      (⟨(l.events[c.toNat - 1]?.map (yt H)).getD z15, (z3f H.nd H.em ((z0c H l.events).take h.commit.toNat) (c - 1)).1, h⟩, (z3f H.nd H.em ((z0c H l.events).take h.commit.toNat) (c - 1)).2)
     else (z7r, 1))
  else (z7r, 5)
def zaf (l : Lg) (a b : Hd) : List Nat × Int :=
  if a ∈ l.heads ∧ b ∈ l.heads then
    (if a.commit ≤ b.commit then z6f H.nd H.em ((z0c H l.events).take b.commit.toNat) a.commit else ([], 1))
  else ([], 5)
def z3b : Rc := ⟨0, z15, 0, 0⟩
def z9g (l : Lg) (k : Key) (c : Int) : Rc × Int :=
  if z4g k l.office = true then
    (if 1 ≤ c ∧ c ≤ l.events.length then
      (⟨l.office, (l.events[c.toNat - 1]?.map (yt H)).getD z15, k.serial, H.sr k.secret l.office k.serial (H.lf ((l.events[c.toNat - 1]?.map (yt H)).getD z15))⟩, 0)
     else (z3b, 5))
  else (z3b, 1)
def z2o (ring : List Key) (p s day : Int) (want : ByteArray → Nat) (sig : Nat) : Int := match z0r (z4a p s) ring with
  | none => 5
  | some k => if z3q k day then (if want k.secret = sig then 0 else 8) else 9
def z2g (o : Int) : Int := Go.IntKind.i64.wrap (1073741824 + o)
def z10 (ring : List Key) (h : Hd) : Int := z2o ring (z2g h.office) h.serial h.day (fun s => H.sh s h.office h.commit h.day h.serial h.root) h.sig
def z3k (ring : List Key) (s : Sh) : Int :=
  if 1 ≤ s.face.commit ∧ s.face.commit ≤ s.head.commit then
    (if z10 H ring s.head = 0 then (if z43 H.nd (H.lf s.face) (s.face.commit - 1) s.head.commit s.path s.head.root = true then 0 else 3) else z10 H ring s.head)
  else 1
def z7y (ring : List Key) (a b : Hd) (path : List Nat) : Int :=
  if a.office = b.office ∧ a.commit ≤ b.commit ∧ a.day ≤ b.day then
    (if z10 H ring a = 0 then
      (if z10 H ring b = 0 then (if z3p H.nd H.em a.commit b.commit a.root b.root path = true then 0 else 3) else z10 H ring b)
     else z10 H ring a)
  else 1
def z5d (ring : List Key) (r : Rc) : Int := z2o ring (z2g r.office) r.serial r.face.day (fun s => H.sr s r.office r.serial (H.lf r.face)) r.sig
def z5h (ring : List Key) (r : Rc) (s : Sh) : Bool :=
  decide (z5d H ring r = 0) && (decide (z3k H ring s = 0) && (decide (r.office = s.head.office) && (decide (r.face.commit = s.face.commit) && !decide (r.face = s.face))))
def z6i (ring : List Key) (a b : Hd) : Bool :=
  decide (z10 H ring a = 0) && (decide (z10 H ring b = 0) && (decide (a.office = b.office) && (decide (a.commit = b.commit) && (!decide (a.root = b.root) || !decide (a.day = b.day)))))
end
end
section
open Go.RowKit
def zz (n : Int) : Nat := if 0 ≤ n then (2 * n).toNat else (2 * (-1 - n) + 1).toNat
theorem zlt (n : Int) (h1 : -9223372036854775808 ≤ n) (h2 : n ≤ 9223372036854775807) : zz n < 18446744073709551616 := by unfold zz; split <;> omega
theorem zw8 (m : Nat) : zz (m : Int) = 2 * m := by unfold zz; rw [if_pos (by omega)]; omega
def z0q (n : Int) : List UInt8 := z29 9 (zz n)
def z1g (l : List Int) : List UInt8 := z0q l.length ++ l.flatMap z0q
theorem zvw (a : Nat) (h : a < 18446744073709551616) : bits .xor .u64 (a : Int) 18446744073709551615 = ((18446744073709551615 - a : Nat) : Int) := by
 rw [show (18446744073709551615 : Int) = ((18446744073709551615 : Nat) : Int) from rfl, zfg a _ h (by omega)]
 congr 1
 have := congrArg BitVec.toNat (BitVec.xor_allOnes (x := BitVec.ofNat 64 a))
 rw [BitVec.toNat_xor, BitVec.toNat_not, BitVec.toNat_ofNat, BitVec.toNat_allOnes, Nat.mod_eq_of_lt (by omega)] at this
 exact this
theorem zw7 (n : Int) (h1 : 0 ≤ n) (h2 : n ≤ 9223372036854775807) : bits .xor .u64 (n * 2) (n / 9223372036854775808) = ((zz n : Nat) : Int) := by
 rw [show n / 9223372036854775808 = 0 by omega]
 obtain ⟨m, rfl⟩ : ∃ m : Nat, n = m := ⟨n.toNat, by omega⟩
 have := zfg (2 * m) 0 (by omega) (by omega)
 rw [show ((m : Int) * 2) = ((2 * m : Nat) : Int) by omega, show (0 : Int) = ((0 : Nat) : Int) from rfl, this, zw8]
 simp
theorem zw6 (n : Int) (h1 : n < 0) (h2 : -9223372036854775808 ≤ n) : bits .xor .u64 (IntKind.u64.wrap (IntKind.u64.wrap n * 2)) (IntKind.u64.wrap (n / 9223372036854775808)) = ((zz n : Nat) : Int) := by
 rw [show n / 9223372036854775808 = -1 by omega, IntKind.wrap_u64, IntKind.wrap_u64, IntKind.wrap_u64]
 rw [show (-1 : Int) % 18446744073709551616 = 18446744073709551615 by decide]
 obtain ⟨m, hm⟩ : ∃ m : Nat, (m : Int) = n % 18446744073709551616 * 2 % 18446744073709551616 := ⟨(n % 18446744073709551616 * 2 % 18446744073709551616).toNat, by omega⟩
 rw [← hm, zvw m (by omega)]
 congr 1
 unfold zz
 rw [if_neg (by omega)]
 omega
theorem zfk (n : Int) (w : World) (h1 : -9223372036854775808 ≤ n) (h2 : n ≤ 9223372036854775807) :
  Calls Tryz.prog 106 #[.int .i64 n] w fun e w' => ∃ v, e = .returned v ∧ Own w' w.heap.size 5 v (bv (z0q n)) ∧ Below w.heap.size w w' := by
 have HZ := y8 (zlt n h1 h2)
 by_cases hs : 0 ≤ n
 ·have hx := zw7 n hs h2
  go_enter Tryz.func106, Tryz.ntmps106
  go_wp2_with fail
  go_loopw [3, 4] (fun x v wr => ∃ (f z : Nat) (acc : List UInt8), x = .int .u64 z ∧ z < 128 ^ (f + 1) ∧ f + acc.length ≤ 9 ∧ acc ++ z29 f z = z0q n ∧ Own wr w.heap.size 5 v (bv acc) ∧ Below w.heap.size w wr) (fun x _ _ => (intOf x).toNat)
  case atStart => exact ⟨9, zz n, [], rfl, by have := HZ.out; omega, by simp, by simp [z0q], Own.nil _ _ _, Below.refl _ _⟩
  case round =>
   obtain ⟨f, z, acc, rfl, hzf, hfa, hacc, hown, hb⟩ := hrel
   have hz := hb.size
   have hzl : z < 1180591620717411303424 := by
    have : 128 ^ (f + 1) ≤ 128 ^ 10 := Nat.pow_le_pow_right (by omega) (by omega)
    omega
   have HA := y8 hacc
   clear hacc
   by_cases hlt : z < 128
   ·have hv := z9s f z hlt
    have HV := y8 hv
    have hz2 : ¬ (127 : Int) < z := by omega
    have hd : decide ((127 : Int) < (z : Int)) = false := by simpa using hz2
    clear hv hzf hzl
    go_wp2_with (at_builtin; refine z1n rfl rfl z27 rfl (hown.alloc _) rfl (Rd.new1 _ _ _) (z37 rfl) (by rw [z0i]; omega) (by simp; omega) ?_; intro v' w' hown' hg' hb' _)
    go_ret
    refine ⟨_, rfl, ?_, (hb.alloc hz _).trans hb'⟩
    rw [← HA.out, HV.out, z25, show bv [UInt8.ofNat z] = [.int .u8 (z : Nat)] by simp [bv, UInt8.toNat_ofNat']; omega]
    exact hown'
   ·obtain ⟨f, rfl⟩ : ∃ g, f = g + 1 := by
     cases f with
     | zero => exfalso; simp at hzf; omega
     | succ f => exact ⟨f, rfl⟩
    have hv := z9r f z hlt
    have HV := y8 hv
    have hd : decide ((127 : Int) < (z : Int)) = true := by simp; omega
    have ho := zer z
    have hq : z / 128 < 128 ^ (f + 1) := by
     rw [Nat.div_lt_iff_lt_mul (by omega)]; rw [Nat.pow_succ] at hzf; exact hzf
    have HQ := y8 hq
    clear hv hzf hq
    go_wp2_with (at_builtin; refine z1n rfl rfl z27 rfl (hown.alloc _) rfl (Rd.new1 _ _ _) (z37 rfl) (by rw [z0i]; omega) (by simp; omega) ?_; intro v' w' hown' hg' hb' _)
    refine ⟨⟨f, z / 128, acc ++ [UInt8.ofNat (z % 128 + 128)], by simp, HQ.out, by simp; omega, by rw [← HA.out, HV.out, List.append_assoc]; rfl, ?_, (hb.alloc hz _).trans hb'⟩, ?_⟩
    ·rw [z25, show bv [UInt8.ofNat (z % 128 + 128)] = [.int .u8 ((z % 128 + 128 : Nat) : Int)] by simp [bv, UInt8.toNat_ofNat']; omega]
     exact hown'
    ·simp [intOf]; omega
 ·have hx := zw6 n (by omega) h1
  go_enter Tryz.func106, Tryz.ntmps106
  go_wp2_with fail
  go_loopw [3, 4] (fun x v wr => ∃ (f z : Nat) (acc : List UInt8), x = .int .u64 z ∧ z < 128 ^ (f + 1) ∧ f + acc.length ≤ 9 ∧ acc ++ z29 f z = z0q n ∧ Own wr w.heap.size 5 v (bv acc) ∧ Below w.heap.size w wr) (fun x _ _ => (intOf x).toNat)
  case atStart => exact ⟨9, zz n, [], rfl, by have := HZ.out; omega, by simp, by simp [z0q], Own.nil _ _ _, Below.refl _ _⟩
  case round =>
   obtain ⟨f, z, acc, rfl, hzf, hfa, hacc, hown, hb⟩ := hrel
   have hz := hb.size
   have hzl : z < 1180591620717411303424 := by
    have : 128 ^ (f + 1) ≤ 128 ^ 10 := Nat.pow_le_pow_right (by omega) (by omega)
    omega
   have HA := y8 hacc
   clear hacc
   by_cases hlt : z < 128
   ·have hv := z9s f z hlt
    have HV := y8 hv
    have hz2 : ¬ (127 : Int) < z := by omega
    have hd : decide ((127 : Int) < (z : Int)) = false := by simpa using hz2
    clear hv hzf hzl
    go_wp2_with (at_builtin; refine z1n rfl rfl z27 rfl (hown.alloc _) rfl (Rd.new1 _ _ _) (z37 rfl) (by rw [z0i]; omega) (by simp; omega) ?_; intro v' w' hown' hg' hb' _)
    go_ret
    refine ⟨_, rfl, ?_, (hb.alloc hz _).trans hb'⟩
    rw [← HA.out, HV.out, z25, show bv [UInt8.ofNat z] = [.int .u8 (z : Nat)] by simp [bv, UInt8.toNat_ofNat']; omega]
    exact hown'
   ·obtain ⟨f, rfl⟩ : ∃ g, f = g + 1 := by
     cases f with
     | zero => exfalso; simp at hzf; omega
     | succ f => exact ⟨f, rfl⟩
    have hv := z9r f z hlt
    have HV := y8 hv
    have hd : decide ((127 : Int) < (z : Int)) = true := by simp; omega
    have ho := zer z
    have hq : z / 128 < 128 ^ (f + 1) := by
     rw [Nat.div_lt_iff_lt_mul (by omega)]; rw [Nat.pow_succ] at hzf; exact hzf
    have HQ := y8 hq
    clear hv hzf hq
    go_wp2_with (at_builtin; refine z1n rfl rfl z27 rfl (hown.alloc _) rfl (Rd.new1 _ _ _) (z37 rfl) (by rw [z0i]; omega) (by simp; omega) ?_; intro v' w' hown' hg' hb' _)
    refine ⟨⟨f, z / 128, acc ++ [UInt8.ofNat (z % 128 + 128)], by simp, HQ.out, by simp; omega, by rw [← HA.out, HV.out, List.append_assoc]; rfl, ?_, (hb.alloc hz _).trans hb'⟩, ?_⟩
    ·rw [z25, show bv [UInt8.ofNat (z % 128 + 128)] = [.int .u8 ((z % 128 + 128 : Nat) : Int)] by simp [bv, UInt8.toNat_ofNat']; omega]
     exact hown'
    ·simp [intOf]; omega
theorem zwa (n : Int) (h1 : 0 ≤ n) (h2 : n ≤ 9223372036854775807) : n * 2 = ((zz n : Nat) : Int) := by unfold zz; rw [if_pos h1]; omega
theorem zw9 (n : Int) (h1 : n < 0) (h2 : -9223372036854775808 ≤ n) : (-1 - n) * 2 + 1 = ((zz n : Nat) : Int) := by unfold zz; rw [if_neg (by omega)]; omega
theorem zk3 (n : Int) (w : World) (h1 : -9223372036854775808 ≤ n) (h2 : n ≤ 9223372036854775807) :
  Calls Tryz.prog 107 #[.int .i64 n] w fun e w' => ∃ v, e = .returned v ∧ Own w' w.heap.size 5 v (bv (z0q n)) ∧ Below w.heap.size w w' := by
 have HZ := y8 (zlt n h1 h2)
 by_cases hs : n < 0
 ·have hx := zw9 n hs h1
  go_enter Tryz.func107, Tryz.ntmps107
  go_wp2_with fail
  go_loopw [3, 4] (fun x v wr => ∃ (f z : Nat) (acc : List UInt8), x = .int .u64 z ∧ z < 128 ^ (f + 1) ∧ f + acc.length ≤ 9 ∧ acc ++ z29 f z = z0q n ∧ Own wr w.heap.size 5 v (bv acc) ∧ Below w.heap.size w wr) (fun x _ _ => (intOf x).toNat)
  case atStart => exact ⟨9, zz n, [], rfl, by have := HZ.out; omega, by simp, by simp [z0q], Own.nil _ _ _, Below.refl _ _⟩
  case round =>
   obtain ⟨f, z, acc, rfl, hzf, hfa, hacc, hown, hb⟩ := hrel
   have hz := hb.size
   have hzl : z < 1180591620717411303424 := by
    have : 128 ^ (f + 1) ≤ 128 ^ 10 := Nat.pow_le_pow_right (by omega) (by omega)
    omega
   have HA := y8 hacc
   clear hacc
   by_cases hlt : z < 128
   ·have hv := z9s f z hlt
    have HV := y8 hv
    have hd : decide ((128 : Int) ≤ (z : Int)) = false := by simp; omega
    clear hv hzf hzl
    go_wp2_with (at_builtin; refine z1n rfl rfl z27 rfl (hown.alloc _) rfl (Rd.new1 _ _ _) (z37 rfl) (by rw [z0i]; omega) (by simp; omega) ?_; intro v' w' hown' hg' hb' _)
    go_ret
    refine ⟨_, rfl, ?_, (hb.alloc hz _).trans hb'⟩
    rw [← HA.out, HV.out, z25, show bv [UInt8.ofNat z] = [.int .u8 (z : Nat)] by simp [bv, UInt8.toNat_ofNat']; omega]
    exact hown'
   ·obtain ⟨f, rfl⟩ : ∃ g, f = g + 1 := by
     cases f with
     | zero => exfalso; simp at hzf; omega
     | succ f => exact ⟨f, rfl⟩
    have hv := z9r f z hlt
    have HV := y8 hv
    have hd : decide ((128 : Int) ≤ (z : Int)) = true := by simp; omega
    have hq : z / 128 < 128 ^ (f + 1) := by
     rw [Nat.div_lt_iff_lt_mul (by omega)]; rw [Nat.pow_succ] at hzf; exact hzf
    have HQ := y8 hq
    clear hv hzf hq
    go_wp2_with (at_builtin; refine z1n rfl rfl z27 rfl (hown.alloc _) rfl (Rd.new1 _ _ _) (z37 rfl) (by rw [z0i]; omega) (by simp; omega) ?_; intro v' w' hown' hg' hb' _)
    refine ⟨⟨f, z / 128, acc ++ [UInt8.ofNat (z % 128 + 128)], by simp, HQ.out, by simp; omega, by rw [← HA.out, HV.out, List.append_assoc]; rfl, ?_, (hb.alloc hz _).trans hb'⟩, ?_⟩
    ·rw [z25, show bv [UInt8.ofNat (z % 128 + 128)] = [.int .u8 ((z : Int) % 128 + 128)] by simp [bv, UInt8.toNat_ofNat']; omega]
     exact hown'
    ·simp [intOf]; omega
 ·have hx := zwa n (by omega) h2
  go_enter Tryz.func107, Tryz.ntmps107
  go_wp2_with fail
  go_loopw [3, 4] (fun x v wr => ∃ (f z : Nat) (acc : List UInt8), x = .int .u64 z ∧ z < 128 ^ (f + 1) ∧ f + acc.length ≤ 9 ∧ acc ++ z29 f z = z0q n ∧ Own wr w.heap.size 5 v (bv acc) ∧ Below w.heap.size w wr) (fun x _ _ => (intOf x).toNat)
  case atStart => exact ⟨9, zz n, [], rfl, by have := HZ.out; omega, by simp, by simp [z0q], Own.nil _ _ _, Below.refl _ _⟩
  case round =>
   obtain ⟨f, z, acc, rfl, hzf, hfa, hacc, hown, hb⟩ := hrel
   have hz := hb.size
   have hzl : z < 1180591620717411303424 := by
    have : 128 ^ (f + 1) ≤ 128 ^ 10 := Nat.pow_le_pow_right (by omega) (by omega)
    omega
   have HA := y8 hacc
   clear hacc
   by_cases hlt : z < 128
   ·have hv := z9s f z hlt
    have HV := y8 hv
    have hd : decide ((128 : Int) ≤ (z : Int)) = false := by simp; omega
    clear hv hzf hzl
    go_wp2_with (at_builtin; refine z1n rfl rfl z27 rfl (hown.alloc _) rfl (Rd.new1 _ _ _) (z37 rfl) (by rw [z0i]; omega) (by simp; omega) ?_; intro v' w' hown' hg' hb' _)
    go_ret
    refine ⟨_, rfl, ?_, (hb.alloc hz _).trans hb'⟩
    rw [← HA.out, HV.out, z25, show bv [UInt8.ofNat z] = [.int .u8 (z : Nat)] by simp [bv, UInt8.toNat_ofNat']; omega]
    exact hown'
   ·obtain ⟨f, rfl⟩ : ∃ g, f = g + 1 := by
     cases f with
     | zero => exfalso; simp at hzf; omega
     | succ f => exact ⟨f, rfl⟩
    have hv := z9r f z hlt
    have HV := y8 hv
    have hd : decide ((128 : Int) ≤ (z : Int)) = true := by simp; omega
    have hq : z / 128 < 128 ^ (f + 1) := by
     rw [Nat.div_lt_iff_lt_mul (by omega)]; rw [Nat.pow_succ] at hzf; exact hzf
    have HQ := y8 hq
    clear hv hzf hq
    go_wp2_with (at_builtin; refine z1n rfl rfl z27 rfl (hown.alloc _) rfl (Rd.new1 _ _ _) (z37 rfl) (by rw [z0i]; omega) (by simp; omega) ?_; intro v' w' hown' hg' hb' _)
    refine ⟨⟨f, z / 128, acc ++ [UInt8.ofNat (z % 128 + 128)], by simp, HQ.out, by simp; omega, by rw [← HA.out, HV.out, List.append_assoc]; rfl, ?_, (hb.alloc hz _).trans hb'⟩, ?_⟩
    ·rw [z25, show bv [UInt8.ofNat (z % 128 + 128)] = [.int .u8 ((z : Int) % 128 + 128)] by simp [bv, UInt8.toNat_ofNat']; omega]
     exact hown'
    ·simp [intOf]; omega
theorem z7d (n : Int) : (z0q n).length ≤ 10 := z94 9 (zz n)
theorem zc5 : ∀ l : List Int, (l.flatMap z0q).length ≤ l.length * 10
 | [] => by simp
 | x :: l => by have := zc5 l; have := z7d x; simp only [List.flatMap_cons, List.length_append, List.length_cons]; omega
def z0x (l : List Int) : Prop := ∀ x ∈ l, -9223372036854775808 ≤ x ∧ x ≤ 9223372036854775807
theorem zv3 (A : Option Addr) (n c : Nat) (l : List Int) (w : World) (hr : Rd w A n (iv l)) (hn : n ≤ 1000) (hf : z0x l) :
  Calls Tryz.prog 105 #[.slice A n c, .func (.func 106) #[] #[]] w fun e w' => ∃ v, e = .returned v ∧ Own w' w.heap.size 5 v (bv (z1g l)) ∧ Below w.heap.size w w' := by
 have HL := y8 (show l.length = n by have := hr.len; simpa using this)
 have HF := y8 hf
 clear hf
 have HE := y8 (show z1g l = z0q n ++ l.flatMap z0q by unfold z1g; rw [HL.out])
 go_enter Tryz.func105, Tryz.ntmps105
 go_wp2_with fail
 refine (zfk n _ (by omega) (by omega)).mono ?_
 rintro e w1 ⟨v1, rfl, hown1, hb1⟩
 go_wp2_with fail
 go_loopw [5, 7, 13] (fun v _ j wr => ∃ k : Nat, k ≤ n ∧ j = .int .i64 k ∧ Below w.heap.size w wr ∧ Own wr w.heap.size 5 v (bv (z0q n ++ (l.take k).flatMap z0q))) (fun _ _ j _ => n - (intOf j).toNat)
 case atStart => exact ⟨0, Nat.zero_le _, rfl, hb1, by simpa using hown1⟩
 case round =>
  clear hown1
  obtain ⟨k, hk, rfl, hbw, hown⟩ := hrel
  by_cases hlt : k < n
  ·obtain ⟨ad, rfl, hc⟩ := (hr.below hbw).int hlt HL.out
   have HT := y8 (List.take_succ_eq_append_getElem (show k < l.length by have := HL.out; omega))
   have HX := y8 (HF.out _ (List.getElem_mem (show k < l.length by have := HL.out; omega)))
   generalize l[k]'(by have := HL.out; omega) = x at *
   have HS := y8 (show bv (z0q n ++ (l.take (k + 1)).flatMap z0q) = bv (z0q n ++ (l.take k).flatMap z0q) ++ bv (z0q x) by rw [HT.out, ← z25]; simp)
   have HN : Hid ((z0q n ++ (l.take k).flatMap z0q).length ≤ 20000) := y8 (by
    have := z7d n
    have := zc5 (l.take k)
    have := List.length_take_le k l
    simp only [List.length_append]; omega)
   go_wp2_with fail
   refine (zfk x _ HX.out.1 HX.out.2).mono ?_
   rintro e w2 ⟨v2, rfl, hown2, hb2⟩
   replace hown := hown.below hb2
   have hbw2 := y9 hbw hb2
   obtain ⟨A2, n2, c2, rfl, hn2, hn2c, hc2, hr2⟩ := hown2.formN
   have HN2 := y8 (show n2 ≤ 10 by have := hn2.out; have := z7d x; simp at *; omega)
   clear hn2 hown2 hc
   go_wp2_with (at_builtin; refine z1n rfl rfl z27 rfl hown rfl hr2 (z9b _) (by rw [z0i]; have := HN.out; have := HN2.out; omega) hbw2.size ?_; intro v' w' hown3 _ hb3 _)
   rw [← HS.out] at hown3
   exact ⟨⟨k + 1, by omega, by go_num, hbw2.trans hb3, hown3⟩, by simp [intOf]; omega⟩
  ·obtain rfl : k = n := by omega
   have HT := y8 (show l.take k = l by rw [List.take_of_length_le (by have := HL.out; omega)])
   rw [HT.out, ← HE.out] at hown
   go_wp2
   go_ret
   exact ⟨_, rfl, hown, hbw⟩
theorem zb2 (A : Option Addr) (n c : Nat) (l : List Int) (w : World) (hr : Rd w A n (iv l)) (hn : n ≤ 1000) (hf : z0x l) :
  Calls Tryz.prog 56 #[.slice A n c] w fun e w' => ∃ v, e = .returned v ∧ Own w' w.heap.size 5 v (bv (z1g l)) ∧ Below w.heap.size w w' := by
 go_enter Tryz.func56, Tryz.ntmps56
 go_wp2_with fail
 refine (zv3 A n c l _ hr hn hf).mono ?_
 rintro e w1 ⟨v1, rfl, hown1, hb1⟩
 go_wp2_with fail
 go_ret
 exact ⟨_, rfl, hown1, hb1⟩
theorem zex (A : Option Addr) (n c : Nat) (l : List Int) (w : World) (hr : Rd w A n (iv l)) (hn : n ≤ 1000) (hf : z0x l) :
  Calls Tryz.prog 58 #[.slice A n c] w fun e w' => ∃ v, e = .returned v ∧ Own w' w.heap.size 5 v (bv (z1g l)) ∧ Below w.heap.size w w' := by
 have HL := y8 (show l.length = n by have := hr.len; simpa using this)
 have HF := y8 hf
 clear hf
 have HE := y8 (show z1g l = z0q n ++ l.flatMap z0q by unfold z1g; rw [HL.out])
 go_enter Tryz.func58, Tryz.ntmps58
 go_wp2_with fail
 refine (zk3 n _ (by omega) (by omega)).mono ?_
 rintro e w1 ⟨v1, rfl, hown1, hb1⟩
 go_wp2_with fail
 go_loopw [3, 4] (fun v j wr => ∃ k : Nat, k ≤ n ∧ j = .int .i64 k ∧ Below w.heap.size w wr ∧ Own wr w.heap.size 5 v (bv (z0q n ++ (l.take k).flatMap z0q))) (fun _ j _ => n - (intOf j).toNat)
 case atStart => exact ⟨0, Nat.zero_le _, rfl, hb1, by simpa using hown1⟩
 case round =>
  clear hown1
  obtain ⟨k, hk, rfl, hbw, hown⟩ := hrel
  by_cases hlt : k < n
  ·obtain ⟨ad, rfl, hc⟩ := (hr.below hbw).int hlt HL.out
   have HT := y8 (List.take_succ_eq_append_getElem (show k < l.length by have := HL.out; omega))
   have HX := y8 (HF.out _ (List.getElem_mem (show k < l.length by have := HL.out; omega)))
   generalize l[k]'(by have := HL.out; omega) = x at *
   have HS := y8 (show bv (z0q n ++ (l.take (k + 1)).flatMap z0q) = bv (z0q n ++ (l.take k).flatMap z0q) ++ bv (z0q x) by rw [HT.out, ← z25]; simp)
   have HN : Hid ((z0q n ++ (l.take k).flatMap z0q).length ≤ 20000) := y8 (by
    have := z7d n
    have := zc5 (l.take k)
    have := List.length_take_le k l
    simp only [List.length_append]; omega)
   go_wp2_with fail
   refine (zk3 x _ HX.out.1 HX.out.2).mono ?_
   rintro e w2 ⟨v2, rfl, hown2, hb2⟩
   replace hown := hown.below hb2
   have hbw2 := y9 hbw hb2
   obtain ⟨A2, n2, c2, rfl, hn2, hn2c, hc2, hr2⟩ := hown2.formN
   have HN2 := y8 (show n2 ≤ 10 by have := hn2.out; have := z7d x; simp at *; omega)
   clear hn2 hown2 hc
   go_wp2_with (at_builtin; refine z1n rfl rfl z27 rfl hown rfl hr2 (z9b _) (by rw [z0i]; have := HN.out; have := HN2.out; omega) hbw2.size ?_; intro v' w' hown3 _ hb3 _)
   rw [← HS.out] at hown3
   exact ⟨⟨k + 1, by omega, by go_num, hbw2.trans hb3, hown3⟩, by simp [intOf]; omega⟩
  ·obtain rfl : k = n := by omega
   have HT := y8 (show l.take k = l by rw [List.take_of_length_le (by have := HL.out; omega)])
   rw [HT.out, ← HE.out] at hown
   go_wp2
   go_ret
   exact ⟨_, rfl, hown, hbw⟩
def z5q (l : List ByteArray) : List UInt8 := z0q l.length ++ l.flatMap fun s => z19 s.data.toList
theorem zie (s : ByteArray) (h : s.size ≤ 65536) : (z19 s.data.toList).length ≤ 65546 := by
 unfold z19
 rw [List.length_append]
 have := z94 9 (2 * s.data.toList.length)
 have e : s.data.toList.length = s.size := by simp
 omega
theorem zif : ∀ l : List ByteArray, (∀ s ∈ l, s.size ≤ 65536) → (l.flatMap fun s => z19 s.data.toList).length ≤ l.length * 65546
 | [], _ => by simp
 | x :: l, h => by
  have := zif l (fun s hs => h s (by simp [hs]))
  have := zie x (h x (by simp))
  simp only [List.flatMap_cons, List.length_append, List.length_cons]; omega
def z5p (n : Nat) (l : List ByteArray) : List UInt8 := z0q n ++ l.flatMap fun s => z19 s.data.toList
theorem zoj (n : Nat) (l : List ByteArray) (k : Nat) (h : k < l.length) : bv (z5p n (l.take (k + 1))) = bv (z5p n (l.take k)) ++ bv (z19 l[k].data.toList) := by
 unfold z5p
 rw [List.take_succ_eq_append_getElem h, ← z25, List.flatMap_append, List.append_assoc]
 simp only [List.flatMap_cons, List.flatMap_nil, List.append_nil]
theorem zoi (n : Nat) (l : List ByteArray) (k : Nat) (hl : l.length ≤ 1000) (h : ∀ s ∈ l, s.size ≤ 65536) : (z5p n (l.take k)).length ≤ 100000000 := by
 unfold z5p
 rw [List.length_append]
 have := z7d n
 have := zif (l.take k) (fun s hs => h s (List.mem_of_mem_take hs))
 have : (l.take k).length ≤ l.length := by rw [List.length_take]; omega
 omega
theorem zv2 (A : Option Addr) (n c : Nat) (l : List ByteArray) (w : World) (hr : Rd w A n (sv l)) (hn : n ≤ 1000) (hs : ∀ s ∈ l, s.size ≤ 65536) :
  Calls Tryz.prog 144 #[.slice A n c, .func (.func 141) #[] #[]] w fun e w' => ∃ v, e = .returned v ∧ Own w' w.heap.size 5 v (bv (z5q l)) ∧ Below w.heap.size w w' := by
 have HL := y8 (show l.length = n by have := hr.len; simpa using this)
 have HSZ := y8 hs
 have HLN := y8 (fun k => zoi n l k (by have := HL.out; omega) hs)
 have HNX := y8 (zoj n l)
 have HE : Hid (z5q l = z5p n (l.take n)) := y8 (by unfold z5q z5p; rw [HL.out, List.take_of_length_le (by have := HL.out; omega)])
 have H0 : Hid (z0q n = z5p n (l.take 0)) := y8 (by unfold z5p; simp)
 clear hs
 go_enter Tryz.func144, Tryz.ntmps144
 go_wp2_with fail
 refine (zfk n _ (by omega) (by omega)).mono ?_
 rintro e w1 ⟨v1, rfl, hown1, hb1⟩
 rw [H0.out] at hown1
 go_wp2_with fail
 go_loopw [5, 7, 13] (fun v _ j wr => ∃ k : Nat, k ≤ n ∧ j = .int .i64 k ∧ Below w.heap.size w wr ∧ Own wr w.heap.size 5 v (bv (z5p n (l.take k)))) (fun _ _ j _ => n - (intOf j).toNat)
 case atStart => exact ⟨0, Nat.zero_le _, rfl, hb1, hown1⟩
 case round =>
  clear hown1
  obtain ⟨k, hk, rfl, hbw, hown⟩ := hrel
  by_cases hlt : k < n
  ·obtain ⟨ad, rfl, hc⟩ := (hr.below hbw).str hlt HL.out
   have hkl : k < l.length := by have := HL.out; omega
   have HX := y8 (HSZ.out _ (List.getElem_mem hkl))
   have HS := y8 (HNX.out k hkl)
   have HN := y8 (HLN.out k)
   generalize l[k]'(by have := HL.out; omega) = x at *
   clear hkl
   go_wp2_with fail
   refine (zl8 x _ (by have := HX.out; omega)).mono ?_
   rintro e w2 ⟨v2, rfl, hown2, hb2⟩
   replace hown := hown.below hb2
   have hbw2 := y9 hbw hb2
   obtain ⟨A2, n2, c2, rfl, hn2, hn2c, hc2, hr2⟩ := hown2.formN
   have HN2 := y8 (show n2 ≤ 65546 by have := hn2.out; have := zie x HX.out; rw [z0i] at *; omega)
   clear hn2 hown2 hc
   go_wp2_with (at_builtin; refine z1n rfl rfl z27 rfl hown rfl hr2 (z9b _) (by rw [z0i]; have := HN.out; have := HN2.out; omega) hbw2.size ?_; intro v' w' hown3 _ hb3 _)
   rw [← HS.out] at hown3
   exact ⟨⟨k + 1, by omega, by go_num, hbw2.trans hb3, hown3⟩, by simp [intOf]; omega⟩
  ·obtain rfl : k = n := by omega
   rw [← HE.out] at hown
   go_wp2
   go_ret
   exact ⟨_, rfl, hown, hbw⟩
theorem zv4 (A : Option Addr) (n c : Nat) (l : List ByteArray) (w : World) (hr : Rd w A n (sv l)) (hn : n ≤ 1000) (hs : ∀ s ∈ l, s.size ≤ 65536) :
  Calls Tryz.prog 101 #[.slice A n c] w fun e w' => ∃ v, e = .returned v ∧ Own w' w.heap.size 5 v (bv (z5q l)) ∧ Below w.heap.size w w' := by
 have HQ := y8 (zv2 A n c l w hr hn hs)
 clear hr hs
 generalize z5q l = R at *
 go_enter Tryz.func101, Tryz.ntmps101
 go_wp2_with fail
 refine HQ.out.mono ?_
 rintro e w1 ⟨v1, rfl, hown1, hb1⟩
 go_wp2_with fail
 go_ret
 exact ⟨_, rfl, hown1, hb1⟩
theorem zok (A : Option Addr) (n c : Nat) (l : List Int) (w : World) (hr : Rd w A n (iv l)) (hn : n ≤ 1000) (hf : z0x l) :
  Calls Tryz.prog 100 #[.slice A n c] w fun e w' => ∃ v, e = .returned v ∧ Own w' w.heap.size 5 v (bv (z1g l)) ∧ Below w.heap.size w w' := by
 have HQ := y8 (zb2 A n c l w hr hn hf)
 clear hr hf
 generalize z1g l = R at *
 go_enter Tryz.func100, Tryz.ntmps100
 go_wp2_with fail
 refine HQ.out.mono ?_
 rintro e w1 ⟨v1, rfl, hown1, hb1⟩
 go_wp2_with fail
 go_ret
 exact ⟨_, rfl, hown1, hb1⟩
end
section
open Go.RowKit Exch Merk Ring
/-! Attributes. -/
def atL (a : At) : List Value := [.string a.name, .int .i64 a.kind, .int .i64 a.n, .string a.s]
abbrev atC (a : At) : Array Value := #[.string a.name, .int .i64 a.kind, .int .i64 a.n, .string a.s]
theorem zg8 (a : At) : (atL a).length = 4 := rfl
def atsL (l : List At) : List Value := l.flatMap atL
theorem zqp (a : At) : (atC a).all (·.oneCell') = true := by simp [atC, Value.oneCell']
theorem aggAt : (Tryz.prog.underlying 100).map z04 = some true := by kernel_rfl
theorem zks : (Tryz.prog.info? 100).map (·.size) = some 4 := by kernel_rfl
theorem zw1 (W : World) : (zeroValue 100).run Tryz.prog W = .ok (.agg (atC ⟨⟨#[]⟩, 0, 0, ⟨#[]⟩⟩)) W := by kernel_rfl
structure RdA (W : World) (A : Option Addr) (n : Nat) (l : List At) : Prop where
 len : l.length = n
 rd : Rd W A (n * 4) (atsL l)
theorem RdA.below {W W' : World} {A : Option Addr} {n : Nat} {l : List At} (h : RdA W A n l) (hb : Below W.heap.size W W') : RdA W' A n l := ⟨h.len, h.rd.below hb⟩
theorem RdA.elem {W : World} {A : Option Addr} {n : Nat} {l : List At} (h : RdA W A n l) {i : Nat} (hi : i < l.length) : ∃ ad, A = some ad ∧ ∀ j u, (atL l[i])[j]? = some u → W.cell? ((ad.add (i * 4)).add j) = some u :=
 Rd.elem zg8 (by omega) h.rd hi
/-! Events: a row holds an event's numbers, its nonce, and where its vector and its attributes lie. -/
structure EvR where
 e : Ev
 vA : Option Addr
 vn : Nat
 vc : Nat
 aA : Option Addr
 an : Nat
 ac : Nat
def evL (r : EvR) : List Value := [.int .i64 r.e.kind, .int .i64 r.e.commit, .int .i64 r.e.day, .int .i64 r.e.id, .int .i64 r.e.owner, .int .i64 r.e.til, .int .i64 r.e.frm, .slice r.vA r.vn r.vc, .slice r.aA r.an r.ac] ++ bv (dg r.e.nonce)
abbrev evC (r : EvR) : Array Value := (evL r).toArray
abbrev evV (r : EvR) : Value := .agg (evC r)
theorem z3r (r : EvR) : (evL r).length = 25 := by unfold evL; rw [List.length_append, yf]; rfl
theorem z5r (r : EvR) : (evC r).size = 25 := by rw [evC, List.size_toArray, z3r]
theorem zeo (r : EvR) : ∀ u ∈ evL r, u.oneCell' = true := by
 intro u hu
 rcases List.mem_append.1 hu with hu | hu
 ·simp only [List.mem_cons, List.not_mem_nil, or_false] at hu
  rcases hu with rfl | rfl | rfl | rfl | rfl | rfl | rfl | rfl | rfl <;> rfl
 ·simp only [bv, List.mem_map] at hu
  obtain ⟨b, _, rfl⟩ := hu
  rfl
theorem zen (r : EvR) : (evC r).all (·.oneCell') = true := by
 rw [Array.all_eq_true_iff_forall_mem]
 intro u hu
 exact zeo r u (by simpa [evC] using hu)
theorem z3d : (Tryz.prog.underlying 27).map z04 = some true := by kernel_rfl
theorem z2w : (Tryz.prog.info? 27).map (·.size) = some 25 := by kernel_rfl
structure z24 (W : World) (r : EvR) : Prop where
 vlen : r.e.vec.length = r.vn
 vrd : Rd W r.vA r.vn (iv r.e.vec)
 vcap : r.vn ≤ r.vc
 vmax : r.vc ≤ maxLen
 ard : RdA W r.aA r.an r.e.attrs
 acap : r.an ≤ r.ac
 amax : r.ac ≤ maxLen
 non : r.e.nonce < 2 ^ 128
theorem z24.below {W W' : World} {r : EvR} (h : z24 W r) (hb : Below W.heap.size W W') : z24 W' r := ⟨h.vlen, h.vrd.below hb, h.vcap, h.vmax, h.ard.below hb, h.acap, h.amax, h.non⟩
structure z1s (e : Ev) : Prop where
 vec : z0x e.vec
 attrs : ∀ a ∈ e.attrs, (-9223372036854775808 ≤ a.kind ∧ a.kind ≤ 9223372036854775807) ∧ -9223372036854775808 ≤ a.n ∧ a.n ≤ 9223372036854775807
 nums : z0x [e.kind, e.commit, e.day, e.id, e.owner, e.til, e.frm]
structure z1r (e : Ev) : Prop where
 vec : e.vec.length ≤ 40
 attrs : e.attrs.length ≤ 20
 texts : ∀ a ∈ e.attrs, a.name.size ≤ 200 ∧ a.s.size ≤ 200
section
variable {W : World} {g : Nat} {T : TypeId} {r : EvR}
theorem z6h (hb : Blk W g T (evC r)) (j : Nat) : W.cell? ⟨g, j, none⟩ = (evL r)[j]? := by rw [hb.cell j, List.getElem?_toArray]
theorem zos (hb : Blk W g T (evC r)) : ∀ j u, (bv (dg r.e.nonce))[j]? = some u → W.cell? ((⟨g, 9, none⟩ : Addr).add j) = some u := by
 intro j u h
 have := z6h hb (9 + j)
 rw [show ((⟨g, 9, none⟩ : Addr).add j) = ⟨g, 9 + j, none⟩ by unfold Addr.add; split <;> simp_all, this]
 unfold evL
 rw [List.getElem?_append_right (by simp), show 9 + j - [Value.int .i64 r.e.kind, .int .i64 r.e.commit, .int .i64 r.e.day, .int .i64 r.e.id, .int .i64 r.e.owner, .int .i64 r.e.til, .int .i64 r.e.frm, .slice r.vA r.vn r.vc, .slice r.aA r.an r.ac].length = j by simp, h]
end
/-! Faces. -/
def fcL (f : Fc) : List Value := [.int .i64 f.kind, .int .i64 f.commit, .int .i64 f.day, .int .i64 f.id, .int .i64 f.owner, .int .i64 f.til, .int .i64 f.frm] ++ bv (dg f.blind)
abbrev fcC (f : Fc) : Array Value := (fcL f).toArray
abbrev fcV (f : Fc) : Value := .agg (fcC f)
theorem z2k (f : Fc) : (fcL f).length = 23 := by unfold fcL; rw [List.length_append, yf]; rfl
theorem z06 (f : Fc) : (fcC f).size = 23 := by rw [fcC, List.size_toArray, z2k]
theorem zep (f : Fc) : ∀ u ∈ fcL f, u.oneCell' = true := by
 intro u hu
 rcases List.mem_append.1 hu with hu | hu
 ·simp only [List.mem_cons, List.not_mem_nil, or_false] at hu
  rcases hu with rfl | rfl | rfl | rfl | rfl | rfl | rfl <;> rfl
 ·simp only [bv, List.mem_map] at hu
  obtain ⟨b, _, rfl⟩ := hu
  rfl
theorem z4z (f : Fc) : (fcC f).all (·.oneCell') = true := by
 rw [Array.all_eq_true_iff_forall_mem]
 intro u hu
 exact zep f u (by simpa [fcC] using hu)
theorem z1z : (Tryz.prog.underlying 29).map z04 = some true := by kernel_rfl
theorem z0y : (Tryz.prog.info? 29).map (·.size) = some 23 := by kernel_rfl
theorem z9z (W : World) : (zeroValue 29).run Tryz.prog W = .ok (fcV z15) W := by kernel_rfl
/-! What is sealed of an event. -/
def z2u (l : List At) : List Int := l.flatMap fun a => [a.kind, a.n]
def z28 (l : List At) : List ByteArray := l.flatMap fun a => [a.name, a.s]
def z5o (e : Ev) : List ByteArray := [⟨(z1g e.vec).toArray⟩, ⟨(z1g (z2u e.attrs)).toArray⟩, ⟨(z5q (z28 e.attrs)).toArray⟩]
theorem zel (l : List At) : (z2u l).length = 2 * l.length := by
 induction l with
 | nil => rfl
 | cons a l ih => unfold z2u at ih ⊢; rw [List.flatMap_cons, List.length_append, ih]; simp; omega
theorem zfe (l : List At) : (z28 l).length = 2 * l.length := by
 induction l with
 | nil => rfl
 | cons a l ih => unfold z28 at ih ⊢; rw [List.flatMap_cons, List.length_append, ih]; simp; omega
end
section
open Go.RowKit Exch Merk Go.Shelf
theorem zgj (x y : Int) (W : World) : (Instr.buildSlice 22 2 #[(0, .int .i64 x), (1, .int .i64 y)]).run Tryz.prog W = .ok (.slice (some ⟨W.heap.size, 0, none⟩) 2 2) (W.alloc (.cells #[.int .i64 x, .int .i64 y] 3)) := by kernel_rfl
section
variable {w : World} {ops : Array Oper} {rest : List Oper} {o o1 o2 : Oper} {a : Act} {Q : Exit → Act → World → Prop}
theorem z6x (hg1 : o1.guard = none) (hg2 : o2.guard = none) (h1 : o1.op = .alloc 25) {x y : Operand} {n : Nat} (h2 : o2.op = .store 25 x y) (hx : ∀ p, (a.put o1.dst (.pointer p)).eval x = .pointer p)
  (hy : ∀ p, (a.put o1.dst (.pointer p)).eval y = dgV n)
  (h : ∀ w' g, w.heap.size ≤ g → Blk w' g 25 (dgC n) → Below w.heap.size w w' → wpList Tryz.prog ops Q rest ((a.put o1.dst (.pointer (some ⟨g, 0, none⟩))).put o2.dst undef) w') : wpList Tryz.prog ops Q (o1 :: o2 :: rest) a w :=
 z18 (z := dgC 0) (vs := dgC n) hg1 hg2 h1 h2 (z0m w) hx hy (by rw [ya, ya]) (by rw [yb, ya]) (z08 n) fun w' g hg h1 h2 _ => h w' g (by omega) h1 h2
theorem zvj (hw : Region.wanted o (yielded ops a.tmps) = true) {x y : Operand} {p q : Int} (ho : o.op = .buildSlice 22 2 #[(0, x), (1, y)]) (hx : a.eval x = .int .i64 p) (hy : a.eval y = .int .i64 q)
  (h : ∀ w' g, w.heap.size ≤ g → Rd w' (some ⟨g, 0, none⟩) 2 (iv [p, q]) → Below w.heap.size w w' → wpList Tryz.prog ops Q rest (a.put o.dst (.slice (some ⟨g, 0, none⟩) 2 2)) w') : wpList Tryz.prog ops Q (o :: rest) a w := by
 refine zba hw fun K hK => ?_
 have h2 := h _ _ (Nat.le_refl _) (z5b (xs := iv [p, q]) (Blk.new w 3 _)) ((Below.refl _ _).alloc (Nat.le_refl _) _)
 unfold Oper.wp execOp
 simp only [ho, List.map_toArray, List.map_cons, List.map_nil, hx, hy, zgj, Sem.run_bind, Result.andThen_ok, Sem.run_pure]
 exact hK _ _ h2
end
end
section
open Go.RowKit Exch Merk Ring
section
variable {w w' : World} {B : Nat} {e : TypeId} {size : Nat} {v : Value} {n : Nat} {xs : List Value}
theorem zhy (hv : w.ownsRow B e size v n xs) (hg : w.grownBy w' v.ownBlock) {g : Nat} {cs : Array Value} {T : TypeId} {fr : Nat × Nat} (h : w.heap[g]? = some (.cells cs T fr)) (hT : T ≠ e) : w'.heap[g]? = some (.cells cs T fr) := by
 have hlt : g < w.heap.size := (Array.getElem?_eq_some_iff.1 h).1
 rw [hg.block g hlt ?_]
 ·exact h
 ·intro he
  rcases hv.2 with ⟨rfl, _⟩ | ⟨g', cap, cur, rfl, _, hg', _⟩
  ·simp [Value.ownBlock] at he
  ·simp only [Value.ownBlock, Option.some.injEq] at he
   subst he
   rw [h] at hg'
   injection hg' with hg'
   injection hg' with _ h2 _
   exact hT h2
theorem z6j (hv : w.ownsRow B e size v n xs) (hg : w.grownBy w' v.ownBlock) {g : Nat} {cs : Array Value} {T : TypeId} (h : Blk w g T cs) (hT : T ≠ e) : Blk w' g T cs := zhy hv hg h hT
theorem z8y (hv : w.ownsRow B e size v n xs) (hg : w.grownBy w' v.ownBlock) {B2 : Nat} {T : TypeId} {size2 : Nat} {u : Value} {n2 : Nat} {ys : List Value} (h : w.ownsRow B2 T size2 u n2 ys) (hT : T ≠ e) : w'.ownsRow B2 T size2 u n2 ys := by
 refine ⟨h.1, ?_⟩
 rcases h.2 with h2 | ⟨g, cap, cur, hu, hb, hh, r⟩
 ·exact .inl h2
 ·exact .inr ⟨g, cap, cur, hu, hb, zhy hv hg hh hT, r⟩
end
theorem zdx : z8g Tryz.prog 22 3 := by
 obtain ⟨i, h1, h2, h3, h4⟩ := info_parts (show (Tryz.prog.info? 3).map (fun i => (i.zero, i.size, i.bytes)) = some (some (.int .i64 0), 1, 8) by kernel_rfl)
 exact ⟨by kernel_rfl, i, .int .i64 0, h1, h2, h3, by omega, rfl⟩
theorem z9y {P : Program} {ops : Array Oper} {S : World → Prop} {o : Oper} {a : Act} {t : TypeId} {x : Operand} {p : Addr} {v : Value} (ho : o.op = .load t x) (hg : o.guard = none) (ha : a.eval x = .pointer (some p))
  (hu : (P.underlying t).map z04 = some false) (hc : ∀ W, S W → W.cell? p = some v) : YieldsIf P ops S o v a := by
 refine .inl ⟨by simp [Region.wanted, hg], fun w hS => ?_⟩
 unfold execOp
 simp only [ho, ha, Instr.loadAt, Instr.sureAddr, Sem.run_bind, Sem.run_pure, Result.andThen_ok, z9l w p t v hu (hc w hS)]
theorem zd6 {w : World} {o : Oper} {a : Act} {K : Act → World → Prop} {Q : Exit → Act → World → Prop} {x y : Operand} {p q : Int} (ho : o.op = .buildSlice 22 2 #[(0, x), (1, y)]) (hx : a.eval x = .int .i64 p) (hy : a.eval y = .int .i64 q)
  (h : ∀ w' g, Blk w' g 3 #[.int .i64 p, .int .i64 q] → Below w.heap.size w w' → K (a.put o.dst (.slice (some ⟨g, 0, none⟩) 2 2)) w') : o.wp Tryz.prog a w K Q := by
 have h2 := h _ _ (Blk.new w 3 #[.int .i64 p, .int .i64 q]) ((Below.refl _ _).alloc (Nat.le_refl _) _)
 unfold Oper.wp execOp
 simp only [ho, List.map_toArray, List.map_cons, List.map_nil, hx, hy, zgj, Sem.run_bind, Result.andThen_ok, Sem.run_pure]
 exact h2
theorem zfr {w : World} {o : Oper} {a : Act} {K : Act → World → Prop} {Q : Exit → Act → World → Prop} {x y : Operand} {s t : ByteArray} (ho : o.op = .buildSlice 103 2 #[(0, x), (1, y)]) (hx : a.eval x = .string s) (hy : a.eval y = .string t)
  (h : ∀ w' g, Blk w' g 9 #[.string s, .string t] → Below w.heap.size w w' → K (a.put o.dst (.slice (some ⟨g, 0, none⟩) 2 2)) w') : o.wp Tryz.prog a w K Q := by
 have h2 := h _ _ (Blk.new w 9 #[.string s, .string t]) ((Below.refl _ _).alloc (Nat.le_refl _) _)
 unfold Oper.wp execOp
 simp only [ho, List.map_toArray, List.map_cons, List.map_nil, hx, hy, zgk, Sem.run_bind, Result.andThen_ok, Sem.run_pure]
 exact h2
theorem zmq (s t u : ByteArray) (W : World) : (Instr.buildSlice 103 3 #[(0, .string s), (1, .string t), (2, .string u)]).run Tryz.prog W = .ok (.slice (some ⟨W.heap.size, 0, none⟩) 3 3) (W.alloc (.cells #[.string s, .string t, .string u] 9)) := by kernel_rfl
theorem z3x {w : World} {o : Oper} {a : Act} {K : Act → World → Prop} {Q : Exit → Act → World → Prop} {x y z : Operand} {s t u : ByteArray} (ho : o.op = .buildSlice 103 3 #[(0, x), (1, y), (2, z)]) (hx : a.eval x = .string s) (hy : a.eval y = .string t) (hz : a.eval z = .string u)
  (h : ∀ w' g, Own w' w.heap.size 9 (.slice (some ⟨g, 0, none⟩) 3 3) (sv [s, t, u]) → Below w.heap.size w w' → K (a.put o.dst (.slice (some ⟨g, 0, none⟩) 3 3)) w') : o.wp Tryz.prog a w K Q := by
 have h2 := h (w.alloc (.cells #[.string s, .string t, .string u] 9)) w.heap.size ⟨rfl, .inr ⟨w.heap.size, 3, #[.string s, .string t, .string u], rfl, Nat.le_refl _, heap_alloc_new w _, Nat.le_refl _, by simp [maxLen], rfl, rfl⟩⟩ ((Below.refl _ _).alloc (Nat.le_refl _) _)
 unfold Oper.wp execOp
 simp only [ho, List.map_toArray, List.map_cons, List.map_nil, hx, hy, hz, zmq, Sem.run_bind, Result.andThen_ok, Sem.run_pure]
 exact h2
theorem zav {w : World} {g : Nat} {p q : Int} (h : Blk w g 3 #[.int .i64 p, .int .i64 q]) : Rd w (some ⟨g, 0, none⟩) 2 (iv [p, q]) := z5b (xs := iv [p, q]) h
theorem zew {w : World} {g : Nat} {s t : ByteArray} (h : Blk w g 9 #[.string s, .string t]) : Rd w (some ⟨g, 0, none⟩) 2 (sv [s, t]) := z5b (xs := sv [s, t]) h
theorem zqm (l : List At) (i : Nat) (h : i < l.length) : z2u (l.take (i + 1)) = z2u (l.take i) ++ [l[i].kind, l[i].n] := by
 unfold z2u; rw [List.take_succ_eq_append_getElem h, List.flatMap_append]; rfl
theorem zui (l : List At) (i : Nat) (h : i < l.length) : z28 (l.take (i + 1)) = z28 (l.take i) ++ [l[i].name, l[i].s] := by
 unfold z28; rw [List.take_succ_eq_append_getElem h, List.flatMap_append]; rfl
theorem zdy (w : World) (r : EvR) : ∃ wa : World, wa = w.alloc (.cells (evC r) 27) ∧ Below w.heap.size w wa ∧ Blk wa w.heap.size 27 (evC r) := ⟨_, rfl, (Below.refl w.heap.size w).alloc (Nat.le_refl _) _, Blk.new _ _ _⟩
def zbi (l : List ByteArray) (w : World) (e : Ending) (w' : World) : Prop := ∃ v, e = .returned v ∧ Own w' w.heap.size 9 v (sv l) ∧ Below w.heap.size w w'
theorem zh0 (r : EvR) (w : World) (h : z24 w r) (hw : z1s r.e) (hf : z1r r.e) :
  Calls Tryz.prog 51 #[evV r] w (zbi (z5o r.e) w) := by
 obtain ⟨wa, hwa, hb0, q1⟩ := zdy w r
 have HWA := y8 hwa
 clear hwa
 obtain ⟨⟨k0, k1, k2, k3, k4, k5, k6, vec, attrs, nonce⟩, vA, vn, vc, aA, an, ac⟩ := r
 obtain ⟨hvl, hvr, hvc, hvm, har, hac, ham, hno⟩ := h
 obtain ⟨wv, wat, -⟩ := hw
 obtain ⟨fv, fa, ft⟩ := hf
 dsimp only at hvl hvr hvc hvm har hac ham hno wv wat fv fa ft ⊢
 have hal := har.len
 have hcells := z6h q1
 have c7 : wa.cell? ⟨w.heap.size, 7, none⟩ = some (.slice vA vn vc) := hcells 7
 have c8 : wa.cell? ⟨w.heap.size, 8, none⟩ = some (.slice aA an ac) := hcells 8
 have HE := y8 (fun W (h : Below w.heap.size w W) => zok vA vn vc vec W (hvr.below h) (by omega) wv)
 have HNF : Hid (z0x (z2u attrs)) := y8 (fun x hx => by
  obtain ⟨a, ha, hx⟩ := List.mem_flatMap.1 hx
  have := wat a ha
  simp only [List.mem_cons, List.not_mem_nil, or_false] at hx
  rcases hx with rfl | rfl
  ·exact this.1
  ·exact this.2)
 have HTF : Hid (∀ s ∈ z28 attrs, s.size ≤ 65536) := y8 (fun x hx => by
  obtain ⟨a, ha, hx⟩ := List.mem_flatMap.1 hx
  have := ft a ha
  simp only [List.mem_cons, List.not_mem_nil, or_false] at hx
  rcases hx with rfl | rfl <;> omega)
 have hnl := zel attrs
 have htl := zfe attrs
 have HIN := y8 (fun A n c W (hr : Rd W A n (iv (z2u attrs))) (hn : n ≤ 1000) => zb2 A n c (z2u attrs) W hr hn HNF.out)
 have HST := y8 (fun A n c W (hr : Rd W A n (sv (z28 attrs))) (hn : n ≤ 1000) => zv4 A n c (z28 attrs) W hr hn HTF.out)
 have HLN : Hid (∀ i, (z2u (attrs.take i)).length ≤ 40 ∧ (z28 (attrs.take i)).length ≤ 40) := y8 (fun i => by rw [zel, zfe, List.length_take]; omega)
 have HNX := y8 (zqm attrs)
 have HTX := y8 (zui attrs)
 have H0 : Hid (z2u (attrs.take 0) = [] ∧ z28 (attrs.take 0) = []) := y8 ⟨rfl, rfl⟩
 have HEND : Hid (z2u (attrs.take an) = z2u attrs ∧ z28 (attrs.take an) = z28 attrs) := y8 (by rw [List.take_of_length_le (by omega)]; exact ⟨rfl, rfl⟩)
 have HAL := y8 hal
 have HAR := y8 (fun W (h : Below w.heap.size w W) => har.below h)
 have han : an ≤ 20 := by omega
 unfold z5o
 dsimp only
 clear hvr har hvl hal wv wat fv fa ft hnl htl hno hcells
 generalize z1g vec = EV at *
 generalize z1g (z2u attrs) = EN at *
 generalize z5q (z28 attrs) = ET at *
 unfold zbi
 go_enter Tryz.func51, Tryz.ntmps51
 go_upto_region 1 with fail
 change Code.wp _ _ _ _ (w.alloc (.cells (evC ⟨⟨k0, k1, k2, k3, k4, k5, k6, vec, attrs, nonce⟩, vA, vn, vc, aA, an, ac⟩) 27))
 rw [← HWA.out]
 go_wp2_with fail
 go_loopw [3, 4, 10] (fun v3 v4 v10 wr => ∃ i : Nat, v10 = .int .i64 (i : Int) ∧ i ≤ an ∧ Own wr wa.heap.size 3 v3 (iv (z2u (attrs.take i))) ∧ Own wr wa.heap.size 9 v4 (sv (z28 (attrs.take i))) ∧ Below wa.heap.size wa wr) (fun _ _ v10 _ => an - (intOf v10).toNat)
 case atStart => exact ⟨0, rfl, Nat.zero_le _, by rw [H0.out.1]; exact Own.nil _ _ _, by rw [H0.out.2]; exact Own.nil _ _ _, Below.refl _ _⟩
 case round =>
  obtain ⟨i, rfl, hi, o3, o4, hbl⟩ := hrel
  by_cases hin : i < an
  ·have dj : decide ((i : Int) < (an : Int)) = true := by rw [decide_eq_true_eq]; omega
   have hix : 0 ≤ (i : Int) ∧ (i : Int) < (an : Int) := by omega
   have hil : i < attrs.length := by rw [HAL.out]; exact hin
   have HNI := y8 (HNX.out i hil)
   have HTI := y8 (HTX.out i hil)
   obtain ⟨ad, hA, hce⟩ := (HAR.out _ (y9 hb0 hbl)).elem hil
   have hl40 := HLN.out i
   generalize attrs[i] = a at *
   subst hA
   clear hil
   go_upto_region 6 with (first
    | ((with_reducible show sl 13); refine yk (us := atL a) rfl rfl rfl aggAt (by rw [zks, zg8]) hce ?_)
    | ((with_reducible show sl 6); refine z18 (z := atC ⟨⟨#[]⟩, 0, 0, ⟨#[]⟩⟩) (vs := atC a) rfl rfl rfl rfl (zw1 _) (fun _ => rfl) (fun _ => rfl) rfl (by rw [zks]; rfl) (zqp _) ?_; intro w6 g6 hg6 b6 hb6 lt6; clear hg6 lt6))
   replace o3 := o3.below hb6
   replace o4 := o4.below hb6
   have hB : Below wa.heap.size wa w6.drew := (y9 hbl hb6).drew
   have b6' : Blk w6.drew g6 100 (atC a) := b6.below (Below.refl _ _).drew
   replace o3 := Own.below o3 (show Below w6.heap.size w6 w6.drew from (Below.refl _ _).drew)
   replace o4 := Own.below o4 (show Below w6.heap.size w6 w6.drew from (Below.refl _ _).drew)
   clear b6 hce hbl hb6
   refine z1w (S := (fun W => Below wa.heap.size wa W ∧ Blk W g6 100 (atC a))) 15 (by kernel_rfl) ?_
   refine WpT.tk 0 (⟨hB, b6'⟩) ?_
   simp only [nrm]
   refine WpT.tk 1 (⟨hB, b6'⟩) ?_
   simp only [nrm]
   refine WpT.tl 2 rfl (z9y rfl rfl rfl (by kernel_rfl) (fun W h => by have := h.2.cell 1; simpa using this)) (⟨hB, b6'⟩) ?_
   simp only [nrm]
   refine WpT.tk 3 (⟨hB, b6'⟩) ?_
   simp only [nrm]
   refine WpT.tl 4 rfl (z9y rfl rfl rfl (by kernel_rfl) (fun W h => by have := h.2.cell 2; simpa using this)) (⟨hB, b6'⟩) ?_
   simp only [nrm]
   refine WpT.tk 7 (⟨hB, b6'⟩) ?_
   simp only [nrm]
   refine WpT.tk 8 (⟨hB, b6'⟩) ?_
   simp only [nrm]
   refine WpT.tl 9 rfl (z9y rfl rfl rfl (by kernel_rfl) (fun W h => by have := h.2.cell 0; simpa using this)) (⟨hB, b6'⟩) ?_
   simp only [nrm]
   refine WpT.tk 10 (⟨hB, b6'⟩) ?_
   simp only [nrm]
   refine WpT.tl 11 rfl (z9y rfl rfl rfl (by kernel_rfl) (fun W h => by have := h.2.cell 3; simpa using this)) (⟨hB, b6'⟩) ?_
   simp only [nrm]
   refine WpT.fork (i := 5) (j := 12) rfl rfl (by kernel_rfl) (fun K hK => ?_) (fun K hK => ?_)
   ·refine zd6 (p := a.kind) (q := a.n) rfl (by rfl) (by rfl) ?_; intro w5 g5 q5 hb5; replace b6' := b6'.below hb5; replace o3 := Own.below o3 hb5; replace o4 := Own.below o4 hb5; (try replace q12 := q12.below hb5); replace hB := y9 hB hb5
    refine hK _ _ (⟨hB, b6'⟩) ?_; clear hK K; try simp only [nrm]
    refine WpT.fork (i := 6) (j := 12) rfl rfl (by kernel_rfl) (fun K hK => ?_) (fun K hK => ?_)
    ·refine z8a rfl zdx (by rfl) o3 (by rfl) (zav q5) (by intro u hu; simp [iv] at hu; rcases hu with rfl | rfl <;> rfl) (by rw [zc6]; omega) hB.size ?_; intro v3' wx o3' hgx hbx _; replace b6' := z6j o3 hgx b6' (by decide); have o4 : Own wx wa.heap.size 9 u4 (sv (z28 (attrs.take i))) := z8y o3 hgx o4 (by decide); (try replace q12 := z6j o3 hgx q12 (by decide)); replace hB := hB.trans hbx
     refine hK _ _ (⟨hB, b6'⟩) ?_; clear hK K; try simp only [nrm]
     refine WpT.on 12 rfl (fun K hK => ?_)
     refine zfr (s := a.name) (t := a.s) rfl (by rfl) (by rfl) ?_; intro w7 g7 q12 hb7; replace b6' := b6'.below hb7; (try replace o3 := Own.below o3 hb7); (try replace o3' := Own.below o3' hb7); replace o4 := Own.below o4 hb7; (try replace q5 := q5.below hb7); replace hB := y9 hB hb7
     refine hK _ _ (⟨hB, b6'⟩) ?_; clear hK K; try simp only [nrm]
     refine WpT.on 13 rfl (fun K hK => ?_)
     refine z8a rfl z81 (by rfl) o4 (by rfl) (zew q12) (by intro u hu; simp [sv] at hu; rcases hu with rfl | rfl <;> rfl) (by rw [z5f]; omega) hB.size ?_; intro v4' wy o4' hgy hby _; replace b6' := z6j o4 hgy b6' (by decide); have o3' : Own wy wa.heap.size 3 v3' (iv (z2u (attrs.take i)) ++ iv [a.kind, a.n]) := z8y o4 hgy o3' (by decide); replace hB := hB.trans hby
     refine hK _ _ (⟨hB, b6'⟩) ?_; clear hK K; try simp only [nrm]
     refine WpT.on 14 rfl (fun K hK => ?_)
     go_simp; (try go_bits)
     refine hK _ _ (⟨hB, b6'⟩) ?_; clear hK K; try simp only [nrm]
     refine WpT.ta 15 rfl (fun K hK => ?_)
     go_simp; (try go_bits)
     refine hK _ _ ?_; clear hK K; try simp only [nrm]
     refine WpT.done (by kernel_rfl) ?_ _
     go_wp2_with fail; exact ⟨⟨i + 1, by go_num, by omega, by rw [HNI.out]; unfold iv at o3' ⊢; rw [List.map_append]; exact o3', by rw [HTI.out]; unfold sv at o4' ⊢; rw [List.map_append]; exact o4', hB⟩, by simp [intOf]; omega⟩
    ·refine zfr (s := a.name) (t := a.s) rfl (by rfl) (by rfl) ?_; intro w7 g7 q12 hb7; replace b6' := b6'.below hb7; (try replace o3 := Own.below o3 hb7); (try replace o3' := Own.below o3' hb7); replace o4 := Own.below o4 hb7; (try replace q5 := q5.below hb7); replace hB := y9 hB hb7
     refine hK _ _ (⟨hB, b6'⟩) ?_; clear hK K; try simp only [nrm]
     refine WpT.on 6 rfl (fun K hK => ?_)
     refine z8a rfl zdx (by rfl) o3 (by rfl) (zav q5) (by intro u hu; simp [iv] at hu; rcases hu with rfl | rfl <;> rfl) (by rw [zc6]; omega) hB.size ?_; intro v3' wx o3' hgx hbx _; replace b6' := z6j o3 hgx b6' (by decide); have o4 : Own wx wa.heap.size 9 u4 (sv (z28 (attrs.take i))) := z8y o3 hgx o4 (by decide); (try replace q12 := z6j o3 hgx q12 (by decide)); replace hB := hB.trans hbx
     refine hK _ _ (⟨hB, b6'⟩) ?_; clear hK K; try simp only [nrm]
     refine WpT.on 13 rfl (fun K hK => ?_)
     refine z8a rfl z81 (by rfl) o4 (by rfl) (zew q12) (by intro u hu; simp [sv] at hu; rcases hu with rfl | rfl <;> rfl) (by rw [z5f]; omega) hB.size ?_; intro v4' wy o4' hgy hby _; replace b6' := z6j o4 hgy b6' (by decide); have o3' : Own wy wa.heap.size 3 v3' (iv (z2u (attrs.take i)) ++ iv [a.kind, a.n]) := z8y o4 hgy o3' (by decide); replace hB := hB.trans hby
     refine hK _ _ (⟨hB, b6'⟩) ?_; clear hK K; try simp only [nrm]
     refine WpT.on 14 rfl (fun K hK => ?_)
     go_simp; (try go_bits)
     refine hK _ _ (⟨hB, b6'⟩) ?_; clear hK K; try simp only [nrm]
     refine WpT.ta 15 rfl (fun K hK => ?_)
     go_simp; (try go_bits)
     refine hK _ _ ?_; clear hK K; try simp only [nrm]
     refine WpT.done (by kernel_rfl) ?_ _
     go_wp2_with fail; exact ⟨⟨i + 1, by go_num, by omega, by rw [HNI.out]; unfold iv at o3' ⊢; rw [List.map_append]; exact o3', by rw [HTI.out]; unfold sv at o4' ⊢; rw [List.map_append]; exact o4', hB⟩, by simp [intOf]; omega⟩
   ·refine zfr (s := a.name) (t := a.s) rfl (by rfl) (by rfl) ?_; intro w7 g7 q12 hb7; replace b6' := b6'.below hb7; (try replace o3 := Own.below o3 hb7); (try replace o3' := Own.below o3' hb7); replace o4 := Own.below o4 hb7; (try replace q5 := q5.below hb7); replace hB := y9 hB hb7
    refine hK _ _ (⟨hB, b6'⟩) ?_; clear hK K; try simp only [nrm]
    refine WpT.on 5 rfl (fun K hK => ?_)
    refine zd6 (p := a.kind) (q := a.n) rfl (by rfl) (by rfl) ?_; intro w5 g5 q5 hb5; replace b6' := b6'.below hb5; replace o3 := Own.below o3 hb5; replace o4 := Own.below o4 hb5; (try replace q12 := q12.below hb5); replace hB := y9 hB hb5
    refine hK _ _ (⟨hB, b6'⟩) ?_; clear hK K; try simp only [nrm]
    refine WpT.on 6 rfl (fun K hK => ?_)
    refine z8a rfl zdx (by rfl) o3 (by rfl) (zav q5) (by intro u hu; simp [iv] at hu; rcases hu with rfl | rfl <;> rfl) (by rw [zc6]; omega) hB.size ?_; intro v3' wx o3' hgx hbx _; replace b6' := z6j o3 hgx b6' (by decide); have o4 : Own wx wa.heap.size 9 u4 (sv (z28 (attrs.take i))) := z8y o3 hgx o4 (by decide); (try replace q12 := z6j o3 hgx q12 (by decide)); replace hB := hB.trans hbx
    refine hK _ _ (⟨hB, b6'⟩) ?_; clear hK K; try simp only [nrm]
    refine WpT.on 13 rfl (fun K hK => ?_)
    refine z8a rfl z81 (by rfl) o4 (by rfl) (zew q12) (by intro u hu; simp [sv] at hu; rcases hu with rfl | rfl <;> rfl) (by rw [z5f]; omega) hB.size ?_; intro v4' wy o4' hgy hby _; replace b6' := z6j o4 hgy b6' (by decide); have o3' : Own wy wa.heap.size 3 v3' (iv (z2u (attrs.take i)) ++ iv [a.kind, a.n]) := z8y o4 hgy o3' (by decide); replace hB := hB.trans hby
    refine hK _ _ (⟨hB, b6'⟩) ?_; clear hK K; try simp only [nrm]
    refine WpT.on 14 rfl (fun K hK => ?_)
    go_simp; (try go_bits)
    refine hK _ _ (⟨hB, b6'⟩) ?_; clear hK K; try simp only [nrm]
    refine WpT.ta 15 rfl (fun K hK => ?_)
    go_simp; (try go_bits)
    refine hK _ _ ?_; clear hK K; try simp only [nrm]
    refine WpT.done (by kernel_rfl) ?_ _
    go_wp2_with fail; exact ⟨⟨i + 1, by go_num, by omega, by rw [HNI.out]; unfold iv at o3' ⊢; rw [List.map_append]; exact o3', by rw [HTI.out]; unfold sv at o4' ⊢; rw [List.map_append]; exact o4', hB⟩, by simp [intOf]; omega⟩
  ·have dj : decide ((i : Int) < (an : Int)) = false := by rw [decide_eq_false_iff_not]; omega
   obtain rfl : an = i := by omega
   rw [HEND.out.1] at o3
   rw [HEND.out.2] at o4
   obtain ⟨A3, n3, c3, rfl, hn3, -, -, r3⟩ := o3.formN
   obtain ⟨A4, n4, c4, rfl, hn4, -, -, r4⟩ := o4.formN
   have hn3' : n3 ≤ 1000 := by have := hn3.out; rw [zc6] at this; have := HLN.out an; rw [HEND.out.1] at this; omega
   have hn4' : n4 ≤ 1000 := by have := hn4.out; rw [z5f] at this; have := HLN.out an; rw [HEND.out.2] at this; omega
   clear o3 o4 hn3 hn4
   have c7' : wr.cell? ⟨w.heap.size, 7, none⟩ = some (.slice vA vn vc) := cell_later hbl c7
   have HR3 := y8 (fun W (h : Below wr.heap.size wr W) => HIN.out A3 n3 c3 W (r3.below h) hn3')
   have HR4 := y8 (fun W (h : Below wr.heap.size wr W) => HST.out A4 n4 c4 W (r4.below h) hn4')
   replace hb0 := y9 hb0 hbl
   clear c7 c8 hbl r3 r4 q1
   have hS : Below wr.heap.size wr wr.drew := (Below.refl _ _).drew
   go_upto_region 8 with fail
   refine yp 11 (by kernel_rfl) ?_
   refine WpT.tk 0 hS ?_
   simp only [nrm]
   refine WpT.tl 1 rfl (ye rfl rfl rfl (by kernel_rfl) c7') hS ?_
   simp only [nrm]
   refine WpT.tk 4 hS ?_
   simp only [nrm]
   refine WpT.tk 7 hS ?_
   simp only [nrm]
   refine WpT.on 2 rfl (fun K hK => ?_)
   go_simp; refine (HE.out _ (y9 hb0 hS)).mono ?_; rintro e w2 ⟨v2, rfl, o2, hb2⟩; obtain ⟨A2, n2, c2, rfl, -, -, -, r2⟩ := o2.formN; clear o2; replace hS := y9 hS hb2
   refine hK _ _ hS ?_; clear hK K; try simp only [nrm]
   refine WpT.fork (i := 3) (j := 5) rfl rfl (by kernel_rfl) (fun K hK => ?_) (fun K hK => ?_)
   ·refine z03 rfl yx (by kernel_rfl) (by rfl) r2 ?_
    refine hK _ _ hS ?_; clear hK K; try simp only [nrm]
    refine WpT.on 5 rfl (fun K hK => ?_)
    go_simp; refine (HR3.out _ hS).mono ?_; rintro e w5 ⟨v5, rfl, o5, hb5⟩; obtain ⟨A5, n5, c5, rfl, -, -, -, r5⟩ := o5.formN; clear o5; (try replace r2 := r2.below hb5); replace hS := y9 hS hb5
    refine hK _ _ hS ?_; clear hK K; try simp only [nrm]
    refine WpT.fork (i := 6) (j := 8) rfl rfl (by kernel_rfl) (fun K hK => ?_) (fun K hK => ?_)
    ·refine z03 rfl yx (by kernel_rfl) (by rfl) r5 ?_
     refine hK _ _ hS ?_; clear hK K; try simp only [nrm]
     refine WpT.on 8 rfl (fun K hK => ?_)
     go_simp; refine (HR4.out _ hS).mono ?_; rintro e w8 ⟨v8, rfl, o8, hb8⟩; obtain ⟨A8, n8, c8, rfl, -, -, -, r8⟩ := o8.formN; clear o8; (try replace r2 := r2.below hb8); (try replace r5 := r5.below hb8); replace hS := y9 hS hb8
     refine hK _ _ hS ?_; clear hK K; try simp only [nrm]
     refine WpT.on 9 rfl (fun K hK => ?_)
     refine z03 rfl yx (by kernel_rfl) (by rfl) r8 ?_
     refine hK _ _ hS ?_; clear hK K; try simp only [nrm]
     refine WpT.on 10 rfl (fun K hK => ?_)
     refine z3x rfl (by rfl) (by rfl) (by rfl) ?_; intro w9 g9 o9 hb9; have o9' := Own.lower o9 hS.size; replace hS := y9 hS hb9
     refine hK _ _ hS ?_; clear hK K; try simp only [nrm]
     refine WpT.ta 11 rfl (fun K hK => ?_)
     go_simp; (try go_bits)
     refine hK _ _ ?_; clear hK K; try simp only [nrm]
     refine WpT.done (by kernel_rfl) ?_ _
     go_wp2_with fail; go_ret; exact ⟨_, rfl, Own.lower o9' hb0.size, y9 hb0 hS⟩
    ·go_simp; refine (HR4.out _ hS).mono ?_; rintro e w8 ⟨v8, rfl, o8, hb8⟩; obtain ⟨A8, n8, c8, rfl, -, -, -, r8⟩ := o8.formN; clear o8; (try replace r2 := r2.below hb8); (try replace r5 := r5.below hb8); replace hS := y9 hS hb8
     refine hK _ _ hS ?_; clear hK K; try simp only [nrm]
     refine WpT.fork (i := 6) (j := 9) rfl rfl (by kernel_rfl) (fun K hK => ?_) (fun K hK => ?_)
     ·refine z03 rfl yx (by kernel_rfl) (by rfl) r5 ?_
      refine hK _ _ hS ?_; clear hK K; try simp only [nrm]
      refine WpT.on 9 rfl (fun K hK => ?_)
      refine z03 rfl yx (by kernel_rfl) (by rfl) r8 ?_
      refine hK _ _ hS ?_; clear hK K; try simp only [nrm]
      refine WpT.on 10 rfl (fun K hK => ?_)
      refine z3x rfl (by rfl) (by rfl) (by rfl) ?_; intro w9 g9 o9 hb9; have o9' := Own.lower o9 hS.size; replace hS := y9 hS hb9
      refine hK _ _ hS ?_; clear hK K; try simp only [nrm]
      refine WpT.ta 11 rfl (fun K hK => ?_)
      go_simp; (try go_bits)
      refine hK _ _ ?_; clear hK K; try simp only [nrm]
      refine WpT.done (by kernel_rfl) ?_ _
      go_wp2_with fail; go_ret; exact ⟨_, rfl, Own.lower o9' hb0.size, y9 hb0 hS⟩
     ·refine z03 rfl yx (by kernel_rfl) (by rfl) r8 ?_
      refine hK _ _ hS ?_; clear hK K; try simp only [nrm]
      refine WpT.on 6 rfl (fun K hK => ?_)
      refine z03 rfl yx (by kernel_rfl) (by rfl) r5 ?_
      refine hK _ _ hS ?_; clear hK K; try simp only [nrm]
      refine WpT.on 10 rfl (fun K hK => ?_)
      refine z3x rfl (by rfl) (by rfl) (by rfl) ?_; intro w9 g9 o9 hb9; have o9' := Own.lower o9 hS.size; replace hS := y9 hS hb9
      refine hK _ _ hS ?_; clear hK K; try simp only [nrm]
      refine WpT.ta 11 rfl (fun K hK => ?_)
      go_simp; (try go_bits)
      refine hK _ _ ?_; clear hK K; try simp only [nrm]
      refine WpT.done (by kernel_rfl) ?_ _
      go_wp2_with fail; go_ret; exact ⟨_, rfl, Own.lower o9' hb0.size, y9 hb0 hS⟩
   ·go_simp; refine (HR3.out _ hS).mono ?_; rintro e w5 ⟨v5, rfl, o5, hb5⟩; obtain ⟨A5, n5, c5, rfl, -, -, -, r5⟩ := o5.formN; clear o5; (try replace r2 := r2.below hb5); replace hS := y9 hS hb5
    refine hK _ _ hS ?_; clear hK K; try simp only [nrm]
    refine WpT.fork3 (i := 3) (j := 6) (k := 8) rfl rfl rfl (by kernel_rfl) (fun K hK => ?_) (fun K hK => ?_) (fun K hK => ?_)
    ·refine z03 rfl yx (by kernel_rfl) (by rfl) r2 ?_
     refine hK _ _ hS ?_; clear hK K; try simp only [nrm]
     refine WpT.fork (i := 6) (j := 8) rfl rfl (by kernel_rfl) (fun K hK => ?_) (fun K hK => ?_)
     ·refine z03 rfl yx (by kernel_rfl) (by rfl) r5 ?_
      refine hK _ _ hS ?_; clear hK K; try simp only [nrm]
      refine WpT.on 8 rfl (fun K hK => ?_)
      go_simp; refine (HR4.out _ hS).mono ?_; rintro e w8 ⟨v8, rfl, o8, hb8⟩; obtain ⟨A8, n8, c8, rfl, -, -, -, r8⟩ := o8.formN; clear o8; (try replace r2 := r2.below hb8); (try replace r5 := r5.below hb8); replace hS := y9 hS hb8
      refine hK _ _ hS ?_; clear hK K; try simp only [nrm]
      refine WpT.on 9 rfl (fun K hK => ?_)
      refine z03 rfl yx (by kernel_rfl) (by rfl) r8 ?_
      refine hK _ _ hS ?_; clear hK K; try simp only [nrm]
      refine WpT.on 10 rfl (fun K hK => ?_)
      refine z3x rfl (by rfl) (by rfl) (by rfl) ?_; intro w9 g9 o9 hb9; have o9' := Own.lower o9 hS.size; replace hS := y9 hS hb9
      refine hK _ _ hS ?_; clear hK K; try simp only [nrm]
      refine WpT.ta 11 rfl (fun K hK => ?_)
      go_simp; (try go_bits)
      refine hK _ _ ?_; clear hK K; try simp only [nrm]
      refine WpT.done (by kernel_rfl) ?_ _
      go_wp2_with fail; go_ret; exact ⟨_, rfl, Own.lower o9' hb0.size, y9 hb0 hS⟩
     ·go_simp; refine (HR4.out _ hS).mono ?_; rintro e w8 ⟨v8, rfl, o8, hb8⟩; obtain ⟨A8, n8, c8, rfl, -, -, -, r8⟩ := o8.formN; clear o8; (try replace r2 := r2.below hb8); (try replace r5 := r5.below hb8); replace hS := y9 hS hb8
      refine hK _ _ hS ?_; clear hK K; try simp only [nrm]
      refine WpT.fork (i := 6) (j := 9) rfl rfl (by kernel_rfl) (fun K hK => ?_) (fun K hK => ?_)
      ·refine z03 rfl yx (by kernel_rfl) (by rfl) r5 ?_
       refine hK _ _ hS ?_; clear hK K; try simp only [nrm]
       refine WpT.on 9 rfl (fun K hK => ?_)
       refine z03 rfl yx (by kernel_rfl) (by rfl) r8 ?_
       refine hK _ _ hS ?_; clear hK K; try simp only [nrm]
       refine WpT.on 10 rfl (fun K hK => ?_)
       refine z3x rfl (by rfl) (by rfl) (by rfl) ?_; intro w9 g9 o9 hb9; have o9' := Own.lower o9 hS.size; replace hS := y9 hS hb9
       refine hK _ _ hS ?_; clear hK K; try simp only [nrm]
       refine WpT.ta 11 rfl (fun K hK => ?_)
       go_simp; (try go_bits)
       refine hK _ _ ?_; clear hK K; try simp only [nrm]
       refine WpT.done (by kernel_rfl) ?_ _
       go_wp2_with fail; go_ret; exact ⟨_, rfl, Own.lower o9' hb0.size, y9 hb0 hS⟩
      ·refine z03 rfl yx (by kernel_rfl) (by rfl) r8 ?_
       refine hK _ _ hS ?_; clear hK K; try simp only [nrm]
       refine WpT.on 6 rfl (fun K hK => ?_)
       refine z03 rfl yx (by kernel_rfl) (by rfl) r5 ?_
       refine hK _ _ hS ?_; clear hK K; try simp only [nrm]
       refine WpT.on 10 rfl (fun K hK => ?_)
       refine z3x rfl (by rfl) (by rfl) (by rfl) ?_; intro w9 g9 o9 hb9; have o9' := Own.lower o9 hS.size; replace hS := y9 hS hb9
       refine hK _ _ hS ?_; clear hK K; try simp only [nrm]
       refine WpT.ta 11 rfl (fun K hK => ?_)
       go_simp; (try go_bits)
       refine hK _ _ ?_; clear hK K; try simp only [nrm]
       refine WpT.done (by kernel_rfl) ?_ _
       go_wp2_with fail; go_ret; exact ⟨_, rfl, Own.lower o9' hb0.size, y9 hb0 hS⟩
    ·refine z03 rfl yx (by kernel_rfl) (by rfl) r5 ?_
     refine hK _ _ hS ?_; clear hK K; try simp only [nrm]
     refine WpT.fork (i := 3) (j := 8) rfl rfl (by kernel_rfl) (fun K hK => ?_) (fun K hK => ?_)
     ·refine z03 rfl yx (by kernel_rfl) (by rfl) r2 ?_
      refine hK _ _ hS ?_; clear hK K; try simp only [nrm]
      refine WpT.on 8 rfl (fun K hK => ?_)
      go_simp; refine (HR4.out _ hS).mono ?_; rintro e w8 ⟨v8, rfl, o8, hb8⟩; obtain ⟨A8, n8, c8, rfl, -, -, -, r8⟩ := o8.formN; clear o8; (try replace r2 := r2.below hb8); (try replace r5 := r5.below hb8); replace hS := y9 hS hb8
      refine hK _ _ hS ?_; clear hK K; try simp only [nrm]
      refine WpT.on 9 rfl (fun K hK => ?_)
      refine z03 rfl yx (by kernel_rfl) (by rfl) r8 ?_
      refine hK _ _ hS ?_; clear hK K; try simp only [nrm]
      refine WpT.on 10 rfl (fun K hK => ?_)
      refine z3x rfl (by rfl) (by rfl) (by rfl) ?_; intro w9 g9 o9 hb9; have o9' := Own.lower o9 hS.size; replace hS := y9 hS hb9
      refine hK _ _ hS ?_; clear hK K; try simp only [nrm]
      refine WpT.ta 11 rfl (fun K hK => ?_)
      go_simp; (try go_bits)
      refine hK _ _ ?_; clear hK K; try simp only [nrm]
      refine WpT.done (by kernel_rfl) ?_ _
      go_wp2_with fail; go_ret; exact ⟨_, rfl, Own.lower o9' hb0.size, y9 hb0 hS⟩
     ·go_simp; refine (HR4.out _ hS).mono ?_; rintro e w8 ⟨v8, rfl, o8, hb8⟩; obtain ⟨A8, n8, c8, rfl, -, -, -, r8⟩ := o8.formN; clear o8; (try replace r2 := r2.below hb8); (try replace r5 := r5.below hb8); replace hS := y9 hS hb8
      refine hK _ _ hS ?_; clear hK K; try simp only [nrm]
      refine WpT.fork (i := 3) (j := 9) rfl rfl (by kernel_rfl) (fun K hK => ?_) (fun K hK => ?_)
      ·refine z03 rfl yx (by kernel_rfl) (by rfl) r2 ?_
       refine hK _ _ hS ?_; clear hK K; try simp only [nrm]
       refine WpT.on 9 rfl (fun K hK => ?_)
       refine z03 rfl yx (by kernel_rfl) (by rfl) r8 ?_
       refine hK _ _ hS ?_; clear hK K; try simp only [nrm]
       refine WpT.on 10 rfl (fun K hK => ?_)
       refine z3x rfl (by rfl) (by rfl) (by rfl) ?_; intro w9 g9 o9 hb9; have o9' := Own.lower o9 hS.size; replace hS := y9 hS hb9
       refine hK _ _ hS ?_; clear hK K; try simp only [nrm]
       refine WpT.ta 11 rfl (fun K hK => ?_)
       go_simp; (try go_bits)
       refine hK _ _ ?_; clear hK K; try simp only [nrm]
       refine WpT.done (by kernel_rfl) ?_ _
       go_wp2_with fail; go_ret; exact ⟨_, rfl, Own.lower o9' hb0.size, y9 hb0 hS⟩
      ·refine z03 rfl yx (by kernel_rfl) (by rfl) r8 ?_
       refine hK _ _ hS ?_; clear hK K; try simp only [nrm]
       refine WpT.on 3 rfl (fun K hK => ?_)
       refine z03 rfl yx (by kernel_rfl) (by rfl) r2 ?_
       refine hK _ _ hS ?_; clear hK K; try simp only [nrm]
       refine WpT.on 10 rfl (fun K hK => ?_)
       refine z3x rfl (by rfl) (by rfl) (by rfl) ?_; intro w9 g9 o9 hb9; have o9' := Own.lower o9 hS.size; replace hS := y9 hS hb9
       refine hK _ _ hS ?_; clear hK K; try simp only [nrm]
       refine WpT.ta 11 rfl (fun K hK => ?_)
       go_simp; (try go_bits)
       refine hK _ _ ?_; clear hK K; try simp only [nrm]
       refine WpT.done (by kernel_rfl) ?_ _
       go_wp2_with fail; go_ret; exact ⟨_, rfl, Own.lower o9' hb0.size, y9 hb0 hS⟩
    ·go_simp; refine (HR4.out _ hS).mono ?_; rintro e w8 ⟨v8, rfl, o8, hb8⟩; obtain ⟨A8, n8, c8, rfl, -, -, -, r8⟩ := o8.formN; clear o8; (try replace r2 := r2.below hb8); (try replace r5 := r5.below hb8); replace hS := y9 hS hb8
     refine hK _ _ hS ?_; clear hK K; try simp only [nrm]
     refine WpT.fork3 (i := 3) (j := 6) (k := 9) rfl rfl rfl (by kernel_rfl) (fun K hK => ?_) (fun K hK => ?_) (fun K hK => ?_)
     ·refine z03 rfl yx (by kernel_rfl) (by rfl) r2 ?_
      refine hK _ _ hS ?_; clear hK K; try simp only [nrm]
      refine WpT.fork (i := 6) (j := 9) rfl rfl (by kernel_rfl) (fun K hK => ?_) (fun K hK => ?_)
      ·refine z03 rfl yx (by kernel_rfl) (by rfl) r5 ?_
       refine hK _ _ hS ?_; clear hK K; try simp only [nrm]
       refine WpT.on 9 rfl (fun K hK => ?_)
       refine z03 rfl yx (by kernel_rfl) (by rfl) r8 ?_
       refine hK _ _ hS ?_; clear hK K; try simp only [nrm]
       refine WpT.on 10 rfl (fun K hK => ?_)
       refine z3x rfl (by rfl) (by rfl) (by rfl) ?_; intro w9 g9 o9 hb9; have o9' := Own.lower o9 hS.size; replace hS := y9 hS hb9
       refine hK _ _ hS ?_; clear hK K; try simp only [nrm]
       refine WpT.ta 11 rfl (fun K hK => ?_)
       go_simp; (try go_bits)
       refine hK _ _ ?_; clear hK K; try simp only [nrm]
       refine WpT.done (by kernel_rfl) ?_ _
       go_wp2_with fail; go_ret; exact ⟨_, rfl, Own.lower o9' hb0.size, y9 hb0 hS⟩
      ·refine z03 rfl yx (by kernel_rfl) (by rfl) r8 ?_
       refine hK _ _ hS ?_; clear hK K; try simp only [nrm]
       refine WpT.on 6 rfl (fun K hK => ?_)
       refine z03 rfl yx (by kernel_rfl) (by rfl) r5 ?_
       refine hK _ _ hS ?_; clear hK K; try simp only [nrm]
       refine WpT.on 10 rfl (fun K hK => ?_)
       refine z3x rfl (by rfl) (by rfl) (by rfl) ?_; intro w9 g9 o9 hb9; have o9' := Own.lower o9 hS.size; replace hS := y9 hS hb9
       refine hK _ _ hS ?_; clear hK K; try simp only [nrm]
       refine WpT.ta 11 rfl (fun K hK => ?_)
       go_simp; (try go_bits)
       refine hK _ _ ?_; clear hK K; try simp only [nrm]
       refine WpT.done (by kernel_rfl) ?_ _
       go_wp2_with fail; go_ret; exact ⟨_, rfl, Own.lower o9' hb0.size, y9 hb0 hS⟩
     ·refine z03 rfl yx (by kernel_rfl) (by rfl) r5 ?_
      refine hK _ _ hS ?_; clear hK K; try simp only [nrm]
      refine WpT.fork (i := 3) (j := 9) rfl rfl (by kernel_rfl) (fun K hK => ?_) (fun K hK => ?_)
      ·refine z03 rfl yx (by kernel_rfl) (by rfl) r2 ?_
       refine hK _ _ hS ?_; clear hK K; try simp only [nrm]
       refine WpT.on 9 rfl (fun K hK => ?_)
       refine z03 rfl yx (by kernel_rfl) (by rfl) r8 ?_
       refine hK _ _ hS ?_; clear hK K; try simp only [nrm]
       refine WpT.on 10 rfl (fun K hK => ?_)
       refine z3x rfl (by rfl) (by rfl) (by rfl) ?_; intro w9 g9 o9 hb9; have o9' := Own.lower o9 hS.size; replace hS := y9 hS hb9
       refine hK _ _ hS ?_; clear hK K; try simp only [nrm]
       refine WpT.ta 11 rfl (fun K hK => ?_)
       go_simp; (try go_bits)
       refine hK _ _ ?_; clear hK K; try simp only [nrm]
       refine WpT.done (by kernel_rfl) ?_ _
       go_wp2_with fail; go_ret; exact ⟨_, rfl, Own.lower o9' hb0.size, y9 hb0 hS⟩
      ·refine z03 rfl yx (by kernel_rfl) (by rfl) r8 ?_
       refine hK _ _ hS ?_; clear hK K; try simp only [nrm]
       refine WpT.on 3 rfl (fun K hK => ?_)
       refine z03 rfl yx (by kernel_rfl) (by rfl) r2 ?_
       refine hK _ _ hS ?_; clear hK K; try simp only [nrm]
       refine WpT.on 10 rfl (fun K hK => ?_)
       refine z3x rfl (by rfl) (by rfl) (by rfl) ?_; intro w9 g9 o9 hb9; have o9' := Own.lower o9 hS.size; replace hS := y9 hS hb9
       refine hK _ _ hS ?_; clear hK K; try simp only [nrm]
       refine WpT.ta 11 rfl (fun K hK => ?_)
       go_simp; (try go_bits)
       refine hK _ _ ?_; clear hK K; try simp only [nrm]
       refine WpT.done (by kernel_rfl) ?_ _
       go_wp2_with fail; go_ret; exact ⟨_, rfl, Own.lower o9' hb0.size, y9 hb0 hS⟩
     ·refine z03 rfl yx (by kernel_rfl) (by rfl) r8 ?_
      refine hK _ _ hS ?_; clear hK K; try simp only [nrm]
      refine WpT.fork (i := 3) (j := 6) rfl rfl (by kernel_rfl) (fun K hK => ?_) (fun K hK => ?_)
      ·refine z03 rfl yx (by kernel_rfl) (by rfl) r2 ?_
       refine hK _ _ hS ?_; clear hK K; try simp only [nrm]
       refine WpT.on 6 rfl (fun K hK => ?_)
       refine z03 rfl yx (by kernel_rfl) (by rfl) r5 ?_
       refine hK _ _ hS ?_; clear hK K; try simp only [nrm]
       refine WpT.on 10 rfl (fun K hK => ?_)
       refine z3x rfl (by rfl) (by rfl) (by rfl) ?_; intro w9 g9 o9 hb9; have o9' := Own.lower o9 hS.size; replace hS := y9 hS hb9
       refine hK _ _ hS ?_; clear hK K; try simp only [nrm]
       refine WpT.ta 11 rfl (fun K hK => ?_)
       go_simp; (try go_bits)
       refine hK _ _ ?_; clear hK K; try simp only [nrm]
       refine WpT.done (by kernel_rfl) ?_ _
       go_wp2_with fail; go_ret; exact ⟨_, rfl, Own.lower o9' hb0.size, y9 hb0 hS⟩
      ·refine z03 rfl yx (by kernel_rfl) (by rfl) r5 ?_
       refine hK _ _ hS ?_; clear hK K; try simp only [nrm]
       refine WpT.on 3 rfl (fun K hK => ?_)
       refine z03 rfl yx (by kernel_rfl) (by rfl) r2 ?_
       refine hK _ _ hS ?_; clear hK K; try simp only [nrm]
       refine WpT.on 10 rfl (fun K hK => ?_)
       refine z3x rfl (by rfl) (by rfl) (by rfl) ?_; intro w9 g9 o9 hb9; have o9' := Own.lower o9 hS.size; replace hS := y9 hS hb9
       refine hK _ _ hS ?_; clear hK K; try simp only [nrm]
       refine WpT.ta 11 rfl (fun K hK => ?_)
       go_simp; (try go_bits)
       refine hK _ _ ?_; clear hK K; try simp only [nrm]
       refine WpT.done (by kernel_rfl) ?_ _
       go_wp2_with fail; go_ret; exact ⟨_, rfl, Own.lower o9' hb0.size, y9 hb0 hS⟩
end
section
open Go.RowKit Exch Merk Ring Sha
def z4d (vec : List Int) (attrs : List At) : List ByteArray := [⟨(z1g vec).toArray⟩, ⟨(z1g (z2u attrs)).toArray⟩, ⟨(z5q (z28 attrs)).toArray⟩]
theorem z93 (l : List Int) : (z1g l).length ≤ 10 + l.length * 10 := by
 unfold z1g
 rw [List.length_append]
 have := z7d l.length
 have := zc5 l
 omega
theorem zh1 {e : Ev} (h : z1r e) : ∀ s ∈ z5o e, s.size ≤ 65536 := by
 intro s hs
 have h1 := z93 e.vec
 have h2 := z93 (z2u e.attrs)
 have h3 := zel e.attrs
 have h4 := zfe e.attrs
 have h5 : ∀ s ∈ z28 e.attrs, s.size ≤ 200 := fun x hx => by
  obtain ⟨a, ha, hx⟩ := List.mem_flatMap.1 hx
  have := h.texts a ha
  simp only [List.mem_cons, List.not_mem_nil, or_false] at hx
  rcases hx with rfl | rfl
  ·exact this.1
  ·exact this.2
 have h6 : ∀ l : List ByteArray, (∀ s ∈ l, s.size ≤ 200) → (l.flatMap fun s => z19 s.data.toList).length ≤ l.length * 210 := fun l => by
  induction l with
  | nil => intro _; simp
  | cons x l ih =>
   intro hl
   have a1 := ih fun s hs => hl s (by simp [hs])
   have a2 : (z19 x.data.toList).length ≤ 210 := by
    unfold z19
    rw [List.length_append]
    have := z94 9 (2 * x.data.toList.length)
    have e1 : x.data.toList.length = x.size := by simp
    have := hl x (by simp)
    omega
   simp only [List.flatMap_cons, List.length_append, List.length_cons]; omega
 have h7 := h6 _ h5
 have h8 : (z5q (z28 e.attrs)).length ≤ 10 + (z28 e.attrs).length * 210 := by
  unfold z5q
  rw [List.length_append]
  have := z7d (z28 e.attrs).length
  omega
 have h9 := h.vec
 have h10 := h.attrs
 simp only [z5o, List.mem_cons, List.not_mem_nil, or_false] at hs
 rcases hs with rfl | rfl | rfl <;> simp only [ByteArray.size, List.size_toArray] <;> omega
def z1j (f : Fc) : List Int := [f.kind, f.commit, f.day, f.id, f.owner, f.til, f.frm]
def z4w (f : Fc) : ByteArray := ⟨(z1g (z1j f) ++ dg f.blind).toArray⟩
def z2l (o c d s : Int) (root : Nat) : List ByteArray := [⟨(z1g [o, c, d, s]).toArray⟩, dgS root]
def z2n (o s : Int) (leaf : Nat) : List ByteArray := [⟨(z1g [o, s]).toArray⟩, dgS leaf]
theorem zi8 (f : Fc) : (z4w f).size ≤ 200 := by
 have := z93 (z1j f)
 have e : (z1j f).length = 7 := rfl
 simp only [z4w, ByteArray.size, List.size_toArray, List.length_append, z26]
 omega
theorem zby (o c d s : Int) (root : Nat) : ∀ x ∈ z2l o c d s root, x.size ≤ 65536 := by
 intro x hx
 have := z93 [o, c, d, s]
 simp only [z2l, List.mem_cons, List.not_mem_nil, or_false] at hx
 rcases hx with rfl | rfl
 ·simp only [ByteArray.size, List.size_toArray]; simp at this; omega
 ·rw [z8r]; omega
theorem zcj (o s : Int) (leaf : Nat) : ∀ x ∈ z2n o s leaf, x.size ≤ 65536 := by
 intro x hx
 have := z93 [o, s]
 simp only [z2n, List.mem_cons, List.not_mem_nil, or_false] at hx
 rcases hx with rfl | rfl
 ·simp only [ByteArray.size, List.size_toArray]; simp at this; omega
 ·rw [z8r]; omega
def z1c : He where
 bl := fun n v a => val (z0o (z01 121 (dgS n :: z4d v a)))
 lf := fun f => z91 (z4w f)
 nd := z97
 em := z8u
 sh := fun s o c d sr rt => val (z0o (z01 200 ([s] ++ z2l o c d sr rt ++ [s])))
 sr := fun s o sr lf => val (z0o (z01 201 ([s] ++ z2n o sr lf ++ [s])))
def isD (d : Nat) (w : World) (e : Ending) (w' : World) : Prop := e = .returned (dgV d) ∧ Below w.heap.size w w'
structure Les (H : He) : Prop where
 nds : Nds H.nd H.em
 blt : ∀ n v a, H.bl n v a < 2 ^ 128
 llt : ∀ f, H.lf f < 2 ^ 128
 hlt : ∀ s o c d sr rt, H.sh s o c d sr rt < 2 ^ 128
 rlt : ∀ s o sr lf, H.sr s o sr lf < 2 ^ 128
 blind : ∀ (n : Nat) (v : List Int) (a : List At) (A : Option Addr) (k c : Nat) (w : World), k ≤ 100 → (∀ s ∈ z4d v a, s.size ≤ 65536) → Rd w A k (sv (z4d v a)) → GCon w → Calls Tryz.prog 50 #[.string (dgS n), .slice A k c] w (isD (H.bl n v a) w)
 refBlind : ∀ (n : Nat) (v : List Int) (a : List At) (A : Option Addr) (k c : Nat) (w : World), k ≤ 10 → (∀ s ∈ z4d v a, s.size ≤ 65536) → Rd w A k (sv (z4d v a)) → RCon w → Calls Tryz.prog 52 #[.string (dgS n), .slice A k c] w (isD (H.bl n v a) w)
 leaf : ∀ (f : Fc) (w : World), GCon w → Calls Tryz.prog 55 #[.string (z4w f)] w (isD (H.lf f) w)
 refLeaf : ∀ (f : Fc) (w : World), RCon w → Calls Tryz.prog 57 #[.string (z4w f)] w (isD (H.lf f) w)
 makeH : ∀ (k : Key) (o c d sr : Int) (rt : Nat) (A : Option Addr) (n m : Nat) (w : World), n ≤ 10 → k.secret.size ≤ 65536 → Rd w A n (sv (z2l o c d sr rt)) → GCon w → Calls Tryz.prog 75 #[z0v k, .int .i64 200, .slice A n m] w (isD (H.sh k.secret o c d sr rt) w)
 makeR : ∀ (k : Key) (o sr : Int) (lf : Nat) (A : Option Addr) (n m : Nat) (w : World), n ≤ 10 → k.secret.size ≤ 65536 → Rd w A n (sv (z2n o sr lf)) → GCon w → Calls Tryz.prog 75 #[z0v k, .int .i64 201, .slice A n m] w (isD (H.sr k.secret o sr lf) w)
 refMakeH : ∀ (k : Key) (o c d sr : Int) (rt : Nat) (A : Option Addr) (n m : Nat) (w : World), n ≤ 10 → k.secret.size ≤ 65536 → Rd w A n (sv (z2l o c d sr rt)) → RCon w → Calls Tryz.prog 80 #[z0v k, .int .i64 200, .slice A n m] w (isD (H.sh k.secret o c d sr rt) w)
 refMakeR : ∀ (k : Key) (o sr : Int) (lf : Nat) (A : Option Addr) (n m : Nat) (w : World), n ≤ 10 → k.secret.size ≤ 65536 → Rd w A n (sv (z2n o sr lf)) → RCon w → Calls Tryz.prog 80 #[z0v k, .int .i64 201, .slice A n m] w (isD (H.sr k.secret o sr lf) w)
 checkH : ∀ (R : Option Addr) (rn rc : Nat) (ring : List Key) (p s o c d sr day : Int) (rt sig : Nat) (A : Option Addr) (n m : Nat) (w : World), rn ≤ 1000 → RdK w R rn ring → z2d ring → (∀ k ∈ ring, z14 k = true) → n ≤ 10 → Rd w A n (sv (z2l o c d sr rt)) → sig < 2 ^ 128 → GCon w →
  Calls Tryz.prog 92 #[.slice R rn rc, .int .i64 p, .int .i64 s, .int .i64 200, .slice A n m, dgV sig, .int .i64 day] w fun e w' => e = .returned (.int .i64 (z2o ring p s day (fun x => H.sh x o c d sr rt) sig)) ∧ Below w.heap.size w w'
 checkR : ∀ (R : Option Addr) (rn rc : Nat) (ring : List Key) (p s o sr day : Int) (lf sig : Nat) (A : Option Addr) (n m : Nat) (w : World), rn ≤ 1000 → RdK w R rn ring → z2d ring → (∀ k ∈ ring, z14 k = true) → n ≤ 10 → Rd w A n (sv (z2n o sr lf)) → sig < 2 ^ 128 → GCon w →
  Calls Tryz.prog 92 #[.slice R rn rc, .int .i64 p, .int .i64 s, .int .i64 201, .slice A n m, dgV sig, .int .i64 day] w fun e w' => e = .returned (.int .i64 (z2o ring p s day (fun x => H.sr x o sr lf) sig)) ∧ Below w.heap.size w w'
 refCheckH : ∀ (R : Option Addr) (rn rc : Nat) (ring : List Key) (p s o c d sr day : Int) (rt sig : Nat) (A : Option Addr) (n m : Nat) (w : World), rn ≤ 1000 → RdK w R rn ring → (∀ k ∈ ring, z14 k = true) → n ≤ 10 → Rd w A n (sv (z2l o c d sr rt)) → sig < 2 ^ 128 → RCon w →
  Calls Tryz.prog 93 #[.slice R rn rc, .int .i64 p, .int .i64 s, .int .i64 200, .slice A n m, dgV sig, .int .i64 day] w fun e w' => e = .returned (.int .i64 (z2o ring p s day (fun x => H.sh x o c d sr rt) sig)) ∧ Below w.heap.size w w'
 refCheckR : ∀ (R : Option Addr) (rn rc : Nat) (ring : List Key) (p s o sr day : Int) (lf sig : Nat) (A : Option Addr) (n m : Nat) (w : World), rn ≤ 1000 → RdK w R rn ring → (∀ k ∈ ring, z14 k = true) → n ≤ 10 → Rd w A n (sv (z2n o sr lf)) → sig < 2 ^ 128 → RCon w →
  Calls Tryz.prog 93 #[.slice R rn rc, .int .i64 p, .int .i64 s, .int .i64 201, .slice A n m, dgV sig, .int .i64 day] w fun e w' => e = .returned (.int .i64 (z2o ring p s day (fun x => H.sr x o sr lf) sig)) ∧ Below w.heap.size w w'
theorem zoc (l : List UInt8) : Value.agg (bv (z0o l)).toArray = dgV (val (z0o l)) := by rw [z80]
theorem dg_bv (n : Nat) : dgV n = .agg (bv (dg n)).toArray := rfl
theorem zu1 {want : ByteArray → List UInt8} (hw : ∀ s, (want s).length = 16) (ring : List Key) (p s day : Int) (sig : Nat) (hs : sig < 2 ^ 128) :
  (match z0r (z4a p s) ring with | none => (5 : Int) | some k => if z3q k day then (if want k.secret = dg sig then 0 else 8) else 9) = z2o ring p s day (fun x => val (want x)) sig := by
 unfold z2o
 cases z0r (z4a p s) ring with
 | none => rfl
 | some k =>
  dsimp only
  have e : (want k.secret = dg sig) = (val (want k.secret) = sig) := by
   have h1 : dg (val (want k.secret)) = want k.secret := zah (hw _)
   have h2 : val (want k.secret) < 2 ^ 128 := by have := z7m (want k.secret); rwa [hw, zap] at this
   have h3 : (want k.secret = dg sig) = (dg (val (want k.secret)) = dg sig) := by rw [h1]
   rw [h3, zag h2 hs]
  simp only [e]
theorem zbz {e : Ending} {w w' : World} {l : List UInt8} {c : Array Value} (hc : c = (bv (z0o l)).toArray) (h : e = .returned (.agg c) ∧ Below w.heap.size w w') : isD (val (z0o l)) w e w' := by
 refine ⟨?_, h.2⟩
 rw [h.1, hc, zoc]
section
variable (n : Nat) (v : List Int) (a : List At) (A : Option Addr) (k c : Nat) (w : World)
theorem zps (hk : k ≤ 100) (hs : ∀ s ∈ z4d v a, s.size ≤ 65536) (hr : Rd w A k (sv (z4d v a))) (hg : GCon w) : Calls Tryz.prog 50 #[.string (dgS n), .slice A k c] w (isD (val (z0o (z01 121 (dgS n :: z4d v a)))) w) :=
 (zm4 (dgS n) A k c (z4d v a) w hk hs (by rw [z8r]; omega) hr hg).mono fun e w' h => zbz rfl h
theorem zpt (hk : k ≤ 10) (hs : ∀ s ∈ z4d v a, s.size ≤ 65536) (hr : Rd w A k (sv (z4d v a))) (hg : RCon w) : Calls Tryz.prog 52 #[.string (dgS n), .slice A k c] w (isD (val (z0o (z01 121 (dgS n :: z4d v a)))) w) :=
 (zrv (dgS n) A k c (z4d v a) w hk hs (by rw [z8r]; omega) hr hg).mono fun e w' h => zbz rfl h
end
theorem zi4 (k : Key) (tag : Int) (l : List ByteArray) (A : Option Addr) (n m : Nat) (w : World) (hn : n ≤ 10) (hl : ∀ x ∈ l, x.size ≤ 65536) (hk : k.secret.size ≤ 65536) (hr : Rd w A n (sv l)) (hg : GCon w) : Calls Tryz.prog 75 #[z0v k, .int .i64 tag, .slice A n m] w (isD (val (z0o (z01 tag ([k.secret] ++ l ++ [k.secret])))) w) :=
 (zij k tag A n m l w (by omega) hl hk hr hg).mono fun e w' h => zbz rfl h
theorem zi6 (k : Key) (tag : Int) (l : List ByteArray) (A : Option Addr) (n m : Nat) (w : World) (hn : n ≤ 10) (hl : ∀ x ∈ l, x.size ≤ 65536) (hk : k.secret.size ≤ 65536) (hr : Rd w A n (sv l)) (hg : RCon w) : Calls Tryz.prog 80 #[z0v k, .int .i64 tag, .slice A n m] w (isD (val (z0o (z01 tag ([k.secret] ++ l ++ [k.secret])))) w) :=
 (zk4 k tag A n m l w hn hl hk hr hg).mono fun e w' h => zbz rfl h
theorem zgu (p s tag : Int) (parts : List ByteArray) (sig : Nat) (day : Int) (ring : List Key) (hs : sig < 2 ^ 128) : z8o p s tag parts (dg sig) day ring = z2o ring p s day (fun x => val (z0o (z01 tag ([x] ++ parts ++ [x])))) sig := by
 unfold z8o
 exact zu1 (want := fun x => z3u x tag parts) (fun x => zeh x tag parts) ring p s day sig hs
section
variable (R : Option Addr) (rn rc : Nat) (ring : List Key) (p s tag day : Int) (parts : List ByteArray) (sig : Nat) (A : Option Addr) (n m : Nat) (w : World)
theorem zi3 (hrn : rn ≤ 1000) (hrk : RdK w R rn ring) (hso : z2d ring) (hv : ∀ k ∈ ring, z14 k = true) (hn : n ≤ 10) (hl : ∀ x ∈ parts, x.size ≤ 65536) (hr : Rd w A n (sv parts)) (hs : sig < 2 ^ 128) (hg : GCon w) :
  Calls Tryz.prog 92 #[.slice R rn rc, .int .i64 p, .int .i64 s, .int .i64 tag, .slice A n m, dgV sig, .int .i64 day] w fun e w' => e = .returned (.int .i64 (z2o ring p s day (fun x => val (z0o (z01 tag ([x] ++ parts ++ [x])))) sig)) ∧ Below w.heap.size w w' := by
 have h := znf R rn rc ring p s tag A n m parts (dg sig) day w hrn hrk hso hv (by omega) hl hr (z26 sig) hg
 rw [zgu p s tag parts sig day ring hs] at h
 exact h
theorem zi5 (hrn : rn ≤ 1000) (hrk : RdK w R rn ring) (hv : ∀ k ∈ ring, z14 k = true) (hn : n ≤ 10) (hl : ∀ x ∈ parts, x.size ≤ 65536) (hr : Rd w A n (sv parts)) (hs : sig < 2 ^ 128) (hg : RCon w) :
  Calls Tryz.prog 93 #[.slice R rn rc, .int .i64 p, .int .i64 s, .int .i64 tag, .slice A n m, dgV sig, .int .i64 day] w fun e w' => e = .returned (.int .i64 (z2o ring p s day (fun x => val (z0o (z01 tag ([x] ++ parts ++ [x])))) sig)) ∧ Below w.heap.size w w' := by
 have h := zs5 R rn rc ring p s tag A n m parts (dg sig) day w hrn hrk hv hn hl hr (z26 sig) hg
 rw [zgu p s tag parts sig day ring hs] at h
 exact h
end
theorem lds : Les z1c where
 nds := by dsimp only [z1c]; exact Go.Proofs.YtcapckngikekpaaGreatDoor.nds
 blt := by intro n v a; dsimp only [z1c]; exact z8t _
 llt := by intro f; dsimp only [z1c]; exact zpu _
 hlt := by intros; dsimp only [z1c]; exact z8t _
 rlt := by intros; dsimp only [z1c]; exact z8t _
 blind := by intro n v a A k c w hk hs hr hg; dsimp only [z1c]; exact zps n v a A k c w hk hs hr hg
 refBlind := by intro n v a A k c w hk hs hr hg; dsimp only [z1c]; exact zpt n v a A k c w hk hs hr hg
 leaf := by intro f w hg; dsimp only [z1c]; unfold isD; exact zpv (z4w f) w (by have := zi8 f; omega) hg
 refLeaf := by intro f w hg; dsimp only [z1c]; unfold isD; exact zsd (z4w f) w (by have := zi8 f; omega) hg
 makeH := by intro k o c d sr rt A n m w hn hk hr hg; dsimp only [z1c]; exact zi4 k 200 (z2l o c d sr rt) A n m w hn (zby o c d sr rt) hk hr hg
 makeR := by intro k o sr lf A n m w hn hk hr hg; dsimp only [z1c]; exact zi4 k 201 (z2n o sr lf) A n m w hn (zcj o sr lf) hk hr hg
 refMakeH := by intro k o c d sr rt A n m w hn hk hr hg; dsimp only [z1c]; exact zi6 k 200 (z2l o c d sr rt) A n m w hn (zby o c d sr rt) hk hr hg
 refMakeR := by intro k o sr lf A n m w hn hk hr hg; dsimp only [z1c]; exact zi6 k 201 (z2n o sr lf) A n m w hn (zcj o sr lf) hk hr hg
 checkH := by intro R rn rc ring p s o c d sr day rt sig A n m w hrn hrk hso hv hn hr hs hg; dsimp only [z1c]; exact zi3 R rn rc ring p s 200 day (z2l o c d sr rt) sig A n m w hrn hrk hso hv hn (zby o c d sr rt) hr hs hg
 checkR := by intro R rn rc ring p s o sr day lf sig A n m w hrn hrk hso hv hn hr hs hg; dsimp only [z1c]; exact zi3 R rn rc ring p s 201 day (z2n o sr lf) sig A n m w hrn hrk hso hv hn (zcj o sr lf) hr hs hg
 refCheckH := by intro R rn rc ring p s o c d sr day rt sig A n m w hrn hrk hv hn hr hs hg; dsimp only [z1c]; exact zi5 R rn rc ring p s 200 day (z2l o c d sr rt) sig A n m w hrn hrk hv hn (zby o c d sr rt) hr hs hg
 refCheckR := by intro R rn rc ring p s o sr day lf sig A n m w hrn hrk hv hn hr hs hg; dsimp only [z1c]; exact zi5 R rn rc ring p s 201 day (z2n o sr lf) sig A n m w hrn hrk hv hn (zcj o sr lf) hr hs hg
end
end Go.Proofs.YtcapckngikekpaaGreatDoor
