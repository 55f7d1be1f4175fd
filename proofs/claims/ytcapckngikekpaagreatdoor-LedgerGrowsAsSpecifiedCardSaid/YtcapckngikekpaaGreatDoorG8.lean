/-
  Known of the functions of this seat's laws, joined. Conditions: each theorem's own.
-/
import Derived.Test.YtcapckngikekpaaGreatDoorG7
namespace Go.Proofs.YtcapckngikekpaaGreatDoor
set_option linter.unusedSimpArgs false
set_option linter.unusedVariables false
set_option maxRecDepth 100000
set_option maxHeartbeats 16000000
section
open Go.RowKit Exch Merk Ring Sha
def z58 (vec : List Int) (attrs : List At) : List ByteArray := [⟨(z1j vec).toArray⟩, ⟨(z1j (z20 attrs)).toArray⟩, ⟨(z4x (z1n attrs)).toArray⟩]
theorem z9k (l : List Int) : (z1j l).length ≤ 10 + l.length * 10 := by
 unfold z1j
 rw [List.length_append]
 have := z7t l.length
 have := zcx l
 omega
theorem zcf {e : Ev} (h : z10 e) : ∀ s ∈ z3q e, s.size ≤ 65536 := by
 intro s hs
 have h1 := z9k e.vec
 have h2 := z9k (z20 e.attrs)
 have h3 := zb9 e.attrs
 have h4 := zbq e.attrs
 have h5 : ∀ s ∈ z1n e.attrs, s.size ≤ 200 := fun x hx => by
  obtain ⟨a, ha, hx⟩ := List.mem_flatMap.1 hx
  have := h.texts a ha
  simp only [List.mem_cons, List.not_mem_nil, or_false] at hx
  rcases hx with rfl | rfl
  ·exact this.1
  ·exact this.2
 have h6 : ∀ l : List ByteArray, (∀ s ∈ l, s.size ≤ 200) → (l.flatMap fun s => z1r s.data.toList).length ≤ l.length * 210 := fun l => by
  induction l with
  | nil => intro _; simp
  | cons x l ih =>
   intro hl
   have a1 := ih fun s hs => hl s (by simp [hs])
   have a2 : (z1r x.data.toList).length ≤ 210 := by
    unfold z1r
    rw [List.length_append]
    have := z9m 9 (2 * x.data.toList.length)
    have e1 : x.data.toList.length = x.size := by simp
    have := hl x (by simp)
    omega
   simp only [List.flatMap_cons, List.length_append, List.length_cons]; omega
 have h7 := h6 _ h5
 have h8 : (z4x (z1n e.attrs)).length ≤ 10 + (z1n e.attrs).length * 210 := by
  unfold z4x
  rw [List.length_append]
  have := z7t (z1n e.attrs).length
  omega
 have h9 := h.vec
 have h10 := h.attrs
 simp only [z3q, List.mem_cons, List.not_mem_nil, or_false] at hs
 rcases hs with rfl | rfl | rfl <;> simp only [ByteArray.size, List.size_toArray] <;> omega
def z2b (f : Fc) : List Int := [f.kind, f.commit, f.day, f.id, f.owner, f.til, f.frm]
def z5l (f : Fc) : ByteArray := ⟨(z1j (z2b f) ++ dg f.blind).toArray⟩
def z32 (o c d s : Int) (root : Nat) : List ByteArray := [⟨(z1j [o, c, d, s]).toArray⟩, dgS root]
def z43 (o s : Int) (leaf : Nat) : List ByteArray := [⟨(z1j [o, s]).toArray⟩, dgS leaf]
theorem zj5 (f : Fc) : (z5l f).size ≤ 200 := by
 have := z9k (z2b f)
 have e : (z2b f).length = 7 := rfl
 simp only [z5l, ByteArray.size, List.size_toArray, List.length_append, z2q]
 omega
theorem zcp (o c d s : Int) (root : Nat) : ∀ x ∈ z32 o c d s root, x.size ≤ 65536 := by
 intro x hx
 have := z9k [o, c, d, s]
 simp only [z32, List.mem_cons, List.not_mem_nil, or_false] at hx
 rcases hx with rfl | rfl
 ·simp only [ByteArray.size, List.size_toArray]; simp at this; omega
 ·rw [z99]; omega
theorem zdb (o s : Int) (leaf : Nat) : ∀ x ∈ z43 o s leaf, x.size ≤ 65536 := by
 intro x hx
 have := z9k [o, s]
 simp only [z43, List.mem_cons, List.not_mem_nil, or_false] at hx
 rcases hx with rfl | rfl
 ·simp only [ByteArray.size, List.size_toArray]; simp at this; omega
 ·rw [z99]; omega
def z1g : He where
 bl := fun n v a => val (z12 (z0b 121 (dgS n :: z58 v a)))
 lf := fun f => z9i (z5l f)
 nd := z9n
 em := z9c
 sh := fun s o c d sr rt => val (z12 (z0b 200 ([s] ++ z32 o c d sr rt ++ [s])))
 sr := fun s o sr lf => val (z12 (z0b 201 ([s] ++ z43 o sr lf ++ [s])))
def isD (d : Nat) (w : World) (e : Ending) (w' : World) : Prop := e = .returned (dgV d) ∧ Below w.heap.size w w'
structure Les (H : He) : Prop where
 nds : Nds H.nd H.em
 blt : ∀ n v a, H.bl n v a < 2 ^ 128
 llt : ∀ f, H.lf f < 2 ^ 128
 hlt : ∀ s o c d sr rt, H.sh s o c d sr rt < 2 ^ 128
 rlt : ∀ s o sr lf, H.sr s o sr lf < 2 ^ 128
 blind : ∀ (n : Nat) (v : List Int) (a : List At) (A : Option Addr) (k c : Nat) (w : World), k ≤ 100 → (∀ s ∈ z58 v a, s.size ≤ 65536) → Rd w A k (sv (z58 v a)) → GCon w → Calls Tryz.prog 50 #[.string (dgS n), .slice A k c] w (isD (H.bl n v a) w)
 refBlind : ∀ (n : Nat) (v : List Int) (a : List At) (A : Option Addr) (k c : Nat) (w : World), k ≤ 10 → (∀ s ∈ z58 v a, s.size ≤ 65536) → Rd w A k (sv (z58 v a)) → RCon w → Calls Tryz.prog 52 #[.string (dgS n), .slice A k c] w (isD (H.bl n v a) w)
 leaf : ∀ (f : Fc) (w : World), GCon w → Calls Tryz.prog 55 #[.string (z5l f)] w (isD (H.lf f) w)
 refLeaf : ∀ (f : Fc) (w : World), RCon w → Calls Tryz.prog 57 #[.string (z5l f)] w (isD (H.lf f) w)
 makeH : ∀ (k : Key) (o c d sr : Int) (rt : Nat) (A : Option Addr) (n m : Nat) (w : World), n ≤ 10 → k.secret.size ≤ 65536 → Rd w A n (sv (z32 o c d sr rt)) → GCon w → Calls Tryz.prog 75 #[z14 k, .int .i64 200, .slice A n m] w (isD (H.sh k.secret o c d sr rt) w)
 makeR : ∀ (k : Key) (o sr : Int) (lf : Nat) (A : Option Addr) (n m : Nat) (w : World), n ≤ 10 → k.secret.size ≤ 65536 → Rd w A n (sv (z43 o sr lf)) → GCon w → Calls Tryz.prog 75 #[z14 k, .int .i64 201, .slice A n m] w (isD (H.sr k.secret o sr lf) w)
 refMakeH : ∀ (k : Key) (o c d sr : Int) (rt : Nat) (A : Option Addr) (n m : Nat) (w : World), n ≤ 10 → k.secret.size ≤ 65536 → Rd w A n (sv (z32 o c d sr rt)) → RCon w → Calls Tryz.prog 80 #[z14 k, .int .i64 200, .slice A n m] w (isD (H.sh k.secret o c d sr rt) w)
 refMakeR : ∀ (k : Key) (o sr : Int) (lf : Nat) (A : Option Addr) (n m : Nat) (w : World), n ≤ 10 → k.secret.size ≤ 65536 → Rd w A n (sv (z43 o sr lf)) → RCon w → Calls Tryz.prog 80 #[z14 k, .int .i64 201, .slice A n m] w (isD (H.sr k.secret o sr lf) w)
 checkH : ∀ (R : Option Addr) (rn rc : Nat) (ring : List Key) (p s o c d sr day : Int) (rt sig : Nat) (A : Option Addr) (n m : Nat) (w : World), rn ≤ 1000 → RdK w R rn ring → z3m ring → (∀ k ∈ ring, z2f k = true) → n ≤ 10 → Rd w A n (sv (z32 o c d sr rt)) → sig < 2 ^ 128 → GCon w →
  Calls Tryz.prog 92 #[.slice R rn rc, .int .i64 p, .int .i64 s, .int .i64 200, .slice A n m, dgV sig, .int .i64 day] w fun e w' => e = .returned (.int .i64 (z3i ring p s day (fun x => H.sh x o c d sr rt) sig)) ∧ Below w.heap.size w w'
 checkR : ∀ (R : Option Addr) (rn rc : Nat) (ring : List Key) (p s o sr day : Int) (lf sig : Nat) (A : Option Addr) (n m : Nat) (w : World), rn ≤ 1000 → RdK w R rn ring → z3m ring → (∀ k ∈ ring, z2f k = true) → n ≤ 10 → Rd w A n (sv (z43 o sr lf)) → sig < 2 ^ 128 → GCon w →
  Calls Tryz.prog 92 #[.slice R rn rc, .int .i64 p, .int .i64 s, .int .i64 201, .slice A n m, dgV sig, .int .i64 day] w fun e w' => e = .returned (.int .i64 (z3i ring p s day (fun x => H.sr x o sr lf) sig)) ∧ Below w.heap.size w w'
 refCheckH : ∀ (R : Option Addr) (rn rc : Nat) (ring : List Key) (p s o c d sr day : Int) (rt sig : Nat) (A : Option Addr) (n m : Nat) (w : World), rn ≤ 1000 → RdK w R rn ring → (∀ k ∈ ring, z2f k = true) → n ≤ 10 → Rd w A n (sv (z32 o c d sr rt)) → sig < 2 ^ 128 → RCon w →
  Calls Tryz.prog 93 #[.slice R rn rc, .int .i64 p, .int .i64 s, .int .i64 200, .slice A n m, dgV sig, .int .i64 day] w fun e w' => e = .returned (.int .i64 (z3i ring p s day (fun x => H.sh x o c d sr rt) sig)) ∧ Below w.heap.size w w'
 refCheckR : ∀ (R : Option Addr) (rn rc : Nat) (ring : List Key) (p s o sr day : Int) (lf sig : Nat) (A : Option Addr) (n m : Nat) (w : World), rn ≤ 1000 → RdK w R rn ring → (∀ k ∈ ring, z2f k = true) → n ≤ 10 → Rd w A n (sv (z43 o sr lf)) → sig < 2 ^ 128 → RCon w →
  Calls Tryz.prog 93 #[.slice R rn rc, .int .i64 p, .int .i64 s, .int .i64 201, .slice A n m, dgV sig, .int .i64 day] w fun e w' => e = .returned (.int .i64 (z3i ring p s day (fun x => H.sr x o sr lf) sig)) ∧ Below w.heap.size w w'
theorem zp7 (l : List UInt8) : Value.agg (bv (z12 l)).toArray = dgV (val (z12 l)) := by rw [z8a]
theorem dg_bv (n : Nat) : dgV n = .agg (bv (dg n)).toArray := rfl
theorem zux {want : ByteArray → List UInt8} (hw : ∀ s, (want s).length = 16) (ring : List Key) (p s day : Int) (sig : Nat) (hs : sig < 2 ^ 128) :
  (match z18 (z55 p s) ring with | none => (5 : Int) | some k => if z4i k day then (if want k.secret = dg sig then 0 else 8) else 9) = z3i ring p s day (fun x => val (want x)) sig := by
 unfold z3i
 cases z18 (z55 p s) ring with
 | none => rfl
 | some k =>
  dsimp only
  have e : (want k.secret = dg sig) = (val (want k.secret) = sig) := by
   have h1 : dg (val (want k.secret)) = want k.secret := zax (hw _)
   have h2 : val (want k.secret) < 2 ^ 128 := by have := z81 (want k.secret); rwa [hw, zb8] at this
   have h3 : (want k.secret = dg sig) = (dg (val (want k.secret)) = dg sig) := by rw [h1]
   rw [h3, zaw h2 hs]
  simp only [e]
theorem zcq {e : Ending} {w w' : World} {l : List UInt8} {c : Array Value} (hc : c = (bv (z12 l)).toArray) (h : e = .returned (.agg c) ∧ Below w.heap.size w w') : isD (val (z12 l)) w e w' := by
 refine ⟨?_, h.2⟩
 rw [h.1, hc, zp7]
section
variable (n : Nat) (v : List Int) (a : List At) (A : Option Addr) (k c : Nat) (w : World)
theorem zqm (hk : k ≤ 100) (hs : ∀ s ∈ z58 v a, s.size ≤ 65536) (hr : Rd w A k (sv (z58 v a))) (hg : GCon w) : Calls Tryz.prog 50 #[.string (dgS n), .slice A k c] w (isD (val (z12 (z0b 121 (dgS n :: z58 v a)))) w) :=
 (zn2 (dgS n) A k c (z58 v a) w hk hs (by rw [z99]; omega) hr hg).mono fun e w' h => zcq rfl h
theorem zqn (hk : k ≤ 10) (hs : ∀ s ∈ z58 v a, s.size ≤ 65536) (hr : Rd w A k (sv (z58 v a))) (hg : RCon w) : Calls Tryz.prog 52 #[.string (dgS n), .slice A k c] w (isD (val (z12 (z0b 121 (dgS n :: z58 v a)))) w) :=
 (zsm (dgS n) A k c (z58 v a) w hk hs (by rw [z99]; omega) hr hg).mono fun e w' h => zcq rfl h
end
theorem zj1 (k : Key) (tag : Int) (l : List ByteArray) (A : Option Addr) (n m : Nat) (w : World) (hn : n ≤ 10) (hl : ∀ x ∈ l, x.size ≤ 65536) (hk : k.secret.size ≤ 65536) (hr : Rd w A n (sv l)) (hg : GCon w) : Calls Tryz.prog 75 #[z14 k, .int .i64 tag, .slice A n m] w (isD (val (z12 (z0b tag ([k.secret] ++ l ++ [k.secret])))) w) :=
 (zje k tag A n m l w (by omega) hl hk hr hg).mono fun e w' h => zcq rfl h
theorem zj3 (k : Key) (tag : Int) (l : List ByteArray) (A : Option Addr) (n m : Nat) (w : World) (hn : n ≤ 10) (hl : ∀ x ∈ l, x.size ≤ 65536) (hk : k.secret.size ≤ 65536) (hr : Rd w A n (sv l)) (hg : RCon w) : Calls Tryz.prog 80 #[z14 k, .int .i64 tag, .slice A n m] w (isD (val (z12 (z0b tag ([k.secret] ++ l ++ [k.secret])))) w) :=
 (zky k tag A n m l w hn hl hk hr hg).mono fun e w' h => zcq rfl h
theorem zho (p s tag : Int) (parts : List ByteArray) (sig : Nat) (day : Int) (ring : List Key) (hs : sig < 2 ^ 128) : z95 p s tag parts (dg sig) day ring = z3i ring p s day (fun x => val (z12 (z0b tag ([x] ++ parts ++ [x])))) sig := by
 unfold z95
 exact zux (want := fun x => z4o x tag parts) (fun x => zfb x tag parts) ring p s day sig hs
section
variable (R : Option Addr) (rn rc : Nat) (ring : List Key) (p s tag day : Int) (parts : List ByteArray) (sig : Nat) (A : Option Addr) (n m : Nat) (w : World)
theorem zj0 (hrn : rn ≤ 1000) (hrk : RdK w R rn ring) (hso : z3m ring) (hv : ∀ k ∈ ring, z2f k = true) (hn : n ≤ 10) (hl : ∀ x ∈ parts, x.size ≤ 65536) (hr : Rd w A n (sv parts)) (hs : sig < 2 ^ 128) (hg : GCon w) :
  Calls Tryz.prog 92 #[.slice R rn rc, .int .i64 p, .int .i64 s, .int .i64 tag, .slice A n m, dgV sig, .int .i64 day] w fun e w' => e = .returned (.int .i64 (z3i ring p s day (fun x => val (z12 (z0b tag ([x] ++ parts ++ [x])))) sig)) ∧ Below w.heap.size w w' := by
 have h := zoa R rn rc ring p s tag A n m parts (dg sig) day w hrn hrk hso hv (by omega) hl hr (z2q sig) hg
 rw [zho p s tag parts sig day ring hs] at h
 exact h
theorem zj2 (hrn : rn ≤ 1000) (hrk : RdK w R rn ring) (hv : ∀ k ∈ ring, z2f k = true) (hn : n ≤ 10) (hl : ∀ x ∈ parts, x.size ≤ 65536) (hr : Rd w A n (sv parts)) (hs : sig < 2 ^ 128) (hg : RCon w) :
  Calls Tryz.prog 93 #[.slice R rn rc, .int .i64 p, .int .i64 s, .int .i64 tag, .slice A n m, dgV sig, .int .i64 day] w fun e w' => e = .returned (.int .i64 (z3i ring p s day (fun x => val (z12 (z0b tag ([x] ++ parts ++ [x])))) sig)) ∧ Below w.heap.size w w' := by
 have h := zsn R rn rc ring p s tag A n m parts (dg sig) day w hrn hrk hv hn hl hr (z2q sig) hg
 rw [zho p s tag parts sig day ring hs] at h
 exact h
end
theorem lds : Les z1g where
 nds := by dsimp only [z1g]; exact Go.Proofs.YtcapckngikekpaaGreatDoor.nds
 blt := by intro n v a; dsimp only [z1g]; exact z9b _
 llt := by intro f; dsimp only [z1g]; exact zqo _
 hlt := by intros; dsimp only [z1g]; exact z9b _
 rlt := by intros; dsimp only [z1g]; exact z9b _
 blind := by intro n v a A k c w hk hs hr hg; dsimp only [z1g]; exact zqm n v a A k c w hk hs hr hg
 refBlind := by intro n v a A k c w hk hs hr hg; dsimp only [z1g]; exact zqn n v a A k c w hk hs hr hg
 leaf := by intro f w hg; dsimp only [z1g]; unfold isD; exact zqp (z5l f) w (by have := zj5 f; omega) hg
 refLeaf := by intro f w hg; dsimp only [z1g]; unfold isD; exact zt3 (z5l f) w (by have := zj5 f; omega) hg
 makeH := by intro k o c d sr rt A n m w hn hk hr hg; dsimp only [z1g]; exact zj1 k 200 (z32 o c d sr rt) A n m w hn (zcp o c d sr rt) hk hr hg
 makeR := by intro k o sr lf A n m w hn hk hr hg; dsimp only [z1g]; exact zj1 k 201 (z43 o sr lf) A n m w hn (zdb o sr lf) hk hr hg
 refMakeH := by intro k o c d sr rt A n m w hn hk hr hg; dsimp only [z1g]; exact zj3 k 200 (z32 o c d sr rt) A n m w hn (zcp o c d sr rt) hk hr hg
 refMakeR := by intro k o sr lf A n m w hn hk hr hg; dsimp only [z1g]; exact zj3 k 201 (z43 o sr lf) A n m w hn (zdb o sr lf) hk hr hg
 checkH := by intro R rn rc ring p s o c d sr day rt sig A n m w hrn hrk hso hv hn hr hs hg; dsimp only [z1g]; exact zj0 R rn rc ring p s 200 day (z32 o c d sr rt) sig A n m w hrn hrk hso hv hn (zcp o c d sr rt) hr hs hg
 checkR := by intro R rn rc ring p s o sr day lf sig A n m w hrn hrk hso hv hn hr hs hg; dsimp only [z1g]; exact zj0 R rn rc ring p s 201 day (z43 o sr lf) sig A n m w hrn hrk hso hv hn (zdb o sr lf) hr hs hg
 refCheckH := by intro R rn rc ring p s o c d sr day rt sig A n m w hrn hrk hv hn hr hs hg; dsimp only [z1g]; exact zj2 R rn rc ring p s 200 day (z32 o c d sr rt) sig A n m w hrn hrk hv hn (zcp o c d sr rt) hr hs hg
 refCheckR := by intro R rn rc ring p s o sr day lf sig A n m w hrn hrk hv hn hr hs hg; dsimp only [z1g]; exact zj2 R rn rc ring p s 201 day (z43 o sr lf) sig A n m w hrn hrk hv hn (zdb o sr lf) hr hs hg
end
section
open Go.RowKit Exch Merk Ring
theorem z8r {P : Program} {w : World} {ops : Array Oper} {rest : List Oper} {o : Oper} {a : Act} {Q : Exit → Act → World → Prop} (hgd : o.guard = none) {T : TypeId} {i j k l : Nat} {x y z u : Operand} {vx vy vz vu v : Value} (ho : o.op = .build T #[(i, x), (j, y), (k, z), (l, u)]) (hx : a.eval x = vx) (hy : a.eval y = vy) (hz : a.eval z = vz) (hu : a.eval u = vu)
  (hr : ∀ W, (Instr.build T #[(i, vx), (j, vy), (k, vz), (l, vu)]).run P W = .ok v W) (h : wpList P ops Q rest (a.put o.dst v) w) : wpList P ops Q (o :: rest) a w := by
 refine wpList_plain hgd fun K hK => ?_
 unfold Oper.wp execOp
 simp only [ho, List.map_toArray, List.map_cons, List.map_nil, hx, hy, hz, hu, Sem.run_bind, hr, Result.andThen_ok, Sem.run_pure]
 exact hK _ _ h
theorem zmk {P : Program} {w : World} {o : Oper} {a : Act} {K : Act → World → Prop} {Q : Exit → Act → World → Prop} {ty : TypeId} {x y : Operand} (ho : o.op = .store ty x y) (hi : (P.info? ty).map (·.size) = some 1)
  {g j : Nat} (hx : a.eval x = .pointer (some ⟨g, j, none⟩)) {v : Value} (hy : a.eval y = v) (h1 : v.oneCell' = true) {T : TypeId} {cs cs' : Array Value} (hb : Blk w g T cs) (hj : j < cs.size) (hcs : cs.setIfInBounds j v = cs')
  (h : ∀ w', z0y g w w' → Blk w' g T cs' → K (a.put o.dst undef) w') : o.wp P a w K Q :=
 zae (K := K) ho hi hx hy h1 hb hj fun w' hw' h2 => h w' (by rw [hw']; exact z0y.of_setCell _ _ _ _) (by rw [← hcs]; exact h2)
theorem z7d {P : Program} {w : World} {o : Oper} {a : Act} {K : Act → World → Prop} {Q : Exit → Act → World → Prop} {ty : TypeId} {x y : Operand} (ho : o.op = .store ty x y) {g j : Nat} (hx : a.eval x = .pointer (some ⟨g, j, none⟩))
  {T : TypeId} {cs cs' : Array Value} {vs : List Value} (hy : a.eval y = .agg vs.toArray) (hb : Blk w g T cs) (hl : j + vs.length ≤ cs.size) (hi : (P.info? ty).map (·.size) = some vs.length) (h1 : ∀ v ∈ vs, v.oneCell' = true) (hcs : (cs.toList.take j ++ vs ++ cs.toList.drop (j + vs.length)).toArray = cs')
  (h : ∀ w', z0y g w w' → Blk w' g T cs' → K (a.put o.dst undef) w') : o.wp P a w K Q := by
 refine z3b (o := j) (vs := vs.toArray) ho hx hy hb (by simpa using hl) (by simpa using hi) (by simpa using h1) (h _ (z0y.of_setCells _ _ _ _) ?_)
 have := Blk.row g T vs j w cs hb hl
 rw [hcs] at this
 exact this
theorem z9d (f : Fc) (v : Int) : (fcC f).setIfInBounds 3 (.int .i64 v) = fcC { f with id := v } := by simp [fcC, fcL]
theorem zie (f : Fc) (v : Int) : (fcC f).setIfInBounds 4 (.int .i64 v) = fcC { f with owner := v } := by simp [fcC, fcL]
theorem zcl (f : Fc) (v : Int) : (fcC f).setIfInBounds 5 (.int .i64 v) = fcC { f with til := v } := by simp [fcC, fcL]
theorem zcm (f : Fc) (v : Int) : (fcC f).setIfInBounds 6 (.int .i64 v) = fcC { f with frm := v } := by simp [fcC, fcL]
theorem zck (f : Fc) (b : Nat) : ((fcC f).toList.take 7 ++ bv (dg b) ++ (fcC f).toList.drop (7 + (bv (dg b)).length)).toArray = fcC { f with blind := b } := by
 have e : (fcC f).toList.drop (7 + (bv (dg b)).length) = [] := List.drop_eq_nil_of_le (by rw [z01]; show (fcL f).length ≤ 23; rw [z3z]; omega)
 rw [e, List.append_nil]
 simp [fcC, fcL]
theorem z94 (a b c d : Int) (W : World) : (Instr.build 29 #[(0, .int .i64 a), (1, .int .i64 b), (2, .int .i64 c), (3, .int .i64 d)]).run Tryz.prog W = .ok (fcV ⟨a, b, c, d, 0, 0, 0, 0⟩) W := by kernel_rfl
theorem z7v (l : List UInt8) : ∀ v ∈ bv l, v.oneCell' = true := by
 intro u hu
 simp only [bv, List.mem_map] at hu
 obtain ⟨b, _, rfl⟩ := hu
 rfl
theorem zic {W : World} {g : Nat} {T : TypeId} {r : EvR} (hb : Blk W g T (evC r)) : Rd W (some ⟨g, 9, none⟩) 16 (bv (dg r.e.nonce)) := ⟨z01 _, fun k u hk => ⟨_, rfl, zep hb k u hk⟩⟩
theorem z5k (w : World) (r : EvR) : ∃ wa : World, wa = (w.alloc (.cells (evC r) 27)).alloc (.cells (fcC z0r) 29) ∧ Below w.heap.size w wa ∧ Blk wa w.heap.size 27 (evC r) ∧ Blk wa (w.heap.size + 1) 29 (fcC z0r) :=
 ⟨_, rfl, ((Below.refl w.heap.size w).alloc (Nat.le_refl _) _).alloc (by simp) _, (Blk.new _ _ _).alloc _, Blk.new2 _ _ _ _⟩
def z1i (f : Fc) (w : World) (e : Ending) (w' : World) : Prop := e = .returned (fcV f) ∧ Below w.heap.size w w'
theorem zpm {H : He} (L : Les H) (r : EvR) (w : World) (h : z1b w r) (hw : z0t r.e) (hf : z10 r.e) (hg : GCon w) (hk : r.e.kind = 1) :
  Calls Tryz.prog 12 #[evV r] w (z1i (yq H r.e) w) := by
 have hF : yq H r.e = ⟨1, r.e.commit, r.e.day, r.e.id, r.e.owner, r.e.til, 0, (H.bl r.e.nonce r.e.vec r.e.attrs)⟩ := by simp [yq, hk]
 rw [hF]
 clear hF
 obtain ⟨wa, hwa, hb0, q1, q2⟩ := z5k w r
 have HWA := ya hwa
 clear hwa
 have hcells := ya (fun W (hb : Below wa.heap.size wa W) => z2r (q1.below hb))
 have HC : Hid (∀ W, Below wa.heap.size wa W → W.cell? ⟨w.heap.size, 0, none⟩ = some (.int .i64 1) ∧ W.cell? ⟨w.heap.size, 1, none⟩ = some (.int .i64 r.e.commit) ∧ W.cell? ⟨w.heap.size, 2, none⟩ = some (.int .i64 r.e.day) ∧ W.cell? ⟨w.heap.size, 3, none⟩ = some (.int .i64 r.e.id) ∧ W.cell? ⟨w.heap.size, 4, none⟩ = some (.int .i64 r.e.owner) ∧ W.cell? ⟨w.heap.size, 5, none⟩ = some (.int .i64 r.e.til) ∧ W.cell? ⟨w.heap.size, 6, none⟩ = some (.int .i64 r.e.frm)) := ya (fun W hb => by
  have hc := hcells.out W hb
  have z0 := hc 0
  rw [show (evL r)[0]? = some (.int .i64 r.e.kind) from rfl, hk] at z0
  exact ⟨z0, hc 1, hc 2, hc 3, hc 4, hc 5, hc 6⟩)
 have HCT := ya (fun W (hb : Below w.heap.size w W) => zht r W (h.below hb) hw hf)
 have HBL := ya (fun A k c W (hb : Below w.heap.size w W) (hk : k ≤ 100) (hr : Rd W A k (sv (z3q r.e))) => L.blind r.e.nonce r.e.vec r.e.attrs A k c W hk (zcf hf) hr (hg.below hb))
 have HCL : Hid ((z3q r.e).length = 3) := ya rfl
 have HRN := ya (fun W (hb : Below wa.heap.size wa W) => zic (q1.below hb))
 generalize z3q r.e = CL at *
 generalize H.bl r.e.nonce r.e.vec r.e.attrs = BL at *
 generalize r.e.nonce = NC at *
 clear hk h hw hf hg L hcells
 generalize r.e.commit = k1 at *
 generalize r.e.day = k2 at *
 generalize r.e.id = k3 at *
 generalize r.e.owner = k4 at *
 generalize r.e.til = k5 at *
 generalize r.e.frm = k6 at *
 have hB4 := z94 1 k1 k2 k3
 obtain ⟨c0, c1, c2, c3, c4, c5, c6⟩ := HC.out _ (Below.refl _ _)
 have hlt2 := q2.lt
 unfold z1i
 go_enter Tryz.func12, Tryz.ntmps12
 go_upto_region 1 with fail
 change Code.wp _ _ _ _ ((w.alloc (.cells (evC r) 27)).alloc (.cells (fcC z0r) 29))
 rw [← HWA.out]
 go_upto_region 2 with (first
  | ((with_reducible show sl 12); refine z8r rfl rfl rfl rfl rfl rfl hB4 ?_)
  | ((with_reducible show sl 3); refine z1d (z := fcC z0r) (vs := fcC ⟨1, k1, k2, k3, 0, 0, 0, 0⟩) rfl rfl rfl rfl (z5v _) (fun _ => rfl) (fun _ => rfl) (by rw [yk, yk]) (by rw [z0k, yk]) (z2k _) ?_; intro w3 g3 hg3 b3 hb3 lt3; have hgw : wa.heap.size ≤ g3 := (by omega); have hne3 : w.heap.size + 1 < g3 := (by omega); clear hg3 lt3))
 replace q1 := q1.below hb3
 replace q2 := q2.below hb3
 obtain ⟨d0, d1, d2, d3, d4, d5, d6⟩ := HC.out _ hb3
 have hb0a := ya hb0
 have hbw : Below wa.heap.size wa w3 := hb3
 clear c0 c1 c2 c3 c4 c5 c6 d1 d2 d3 hb3
 go_upto_region 4 with fail
 have hd3 : Below w3.heap.size w3 w3.drew := (Below.refl _ _).drew
 have b3d := b3.below hd3
 have hS : Below g3 w3 w3.drew := hd3.mono (by have := b3.lt; omega)
 have HL4 := ya (fun W (h : Below g3 w3 W) => HC.out W (hbw.trans (h.mono hgw)))
 refine z2h (S := (fun W => Below g3 w3 W)) 7 (by kernel_rfl) ?_
 refine WpT.tk 0 hS ?_
 simp only [nrm]
 refine WpT.tl 1 rfl (zag rfl rfl rfl (by kernel_rfl) (fun W h => (HL4.out W h).2.2.2.2.1)) hS ?_
 simp only [nrm]
 refine WpT.tk 2 hS ?_
 simp only [nrm]
 refine WpT.tl 3 rfl (zag rfl rfl rfl (by kernel_rfl) (fun W h => (HL4.out W h).2.2.2.2.2.1)) hS ?_
 simp only [nrm]
 refine WpT.tk 4 hS ?_
 simp only [nrm]
 refine WpT.on 5 rfl (fun K hK => ?_)
 refine zmk rfl (by kernel_rfl) (by rfl) (by rfl) rfl b3d (by rw [yk]; omega) (zie _ _) ?_; intro w4 ht4 b4; replace hS := hS.trans (ht4.below _ (Nat.le_refl _))
 refine hK _ _ hS ?_; clear hK K; try simp only [nrm]
 refine WpT.tk 6 hS ?_
 simp only [nrm]
 refine WpT.ta 7 rfl (fun K hK => ?_)
 refine zmk rfl (by kernel_rfl) (by rfl) (by rfl) rfl b4 (by rw [yk]; omega) (zcl _ _) ?_; intro w5 ht5 b5
 refine hK _ _ ?_; clear hK K; try simp only [nrm]
 refine WpT.done (by kernel_rfl) ?_ _
 skip
 have hbN : Below g3 w3 w5 := hS.trans (ht5.below _ (Nat.le_refl _))
 replace q1 : Blk w5 w.heap.size 27 (evC r) := (hbN.block _ (by omega)).trans q1
 replace q2 : Blk w5 (w.heap.size + 1) 29 (fcC z0r) := (hbN.block _ (by omega)).trans q2
 clear d0 d4 d5 d6 b3 b3d b4 ht4 ht5 hS hd3
 have x0 : w5.cell? ⟨w.heap.size, 0, none⟩ = some (.int .i64 1) := (HC.out _ (hbw.trans (hbN.mono (by omega)))).1
 go_upto_region 13 with fail
 have hbA : Below wa.heap.size wa w5 := hbw.trans (hbN.mono (by omega))
 have hS : Below w5.heap.size w5 w5.drew := (Below.refl _ _).drew
 have hbW : Below w.heap.size w w5 := yb hb0a.out hbA
 have hrn := HRN.out _ hbA
 refine yw 7 (by kernel_rfl) ?_
 refine WpT.tk 0 hS ?_
 simp only [nrm]
 refine WpT.tk 1 hS ?_
 simp only [nrm]
 refine WpT.tl 2 rfl (z7f rfl rfl yo (by kernel_rfl) (by rfl) hrn) hS ?_
 simp only [nrm]
 refine WpT.tl 3 rfl (z69 rfl rfl rfl z1q (by rw [z1f, z4k]) q1) hS ?_
 simp only [nrm]
 refine WpT.on 4 rfl (fun K hK => ?_)
 go_simp; refine (HCT.out _ (yb hbW hS)).mono ?_; unfold z7k; rintro e w6 ⟨v6, rfl, o6, hb6⟩; obtain ⟨A6, n6, c6, rfl, hn6, -, -, r6⟩ := o6.formN; replace hS := yb hS hb6; have hn6' : n6 ≤ 100 := (by have h6 := hn6.out; rw [z4m, HCL.out] at h6; omega); clear hn6 o6
 refine hK _ _ hS ?_; clear hK K; try simp only [nrm]
 refine WpT.on 5 rfl (fun K hK => ?_)
 go_simp; refine (HBL.out A6 n6 c6 _ (yb hbW hS) hn6' r6).mono ?_; unfold isD; rintro e w7 ⟨rfl, hb7⟩; replace hS := yb hS hb7
 refine hK _ _ hS ?_; clear hK K; try simp only [nrm]
 refine WpT.tk 6 hS ?_
 simp only [nrm]
 refine WpT.ta 7 rfl (fun K hK => ?_)
 refine z7d (vs := bv (dg BL)) rfl (by rfl) (by rfl) (b5.below hS) (by rw [z01, yk]; omega) (by rw [yf, z01]) (z7v _) (zck _ _) ?_; intro w8 ht8 b8
 refine hK _ _ ?_; clear hK K; try simp only [nrm]
 refine WpT.done (by kernel_rfl) ?_ _
 skip
 have hbM : Below g3 w3 w8 := (hbN.trans (hS.mono (by have := b5.lt; omega))).trans (ht8.below _ (Nat.le_refl _))
 replace q2 : Blk w8 (w.heap.size + 1) 29 (fcC z0r) := ht8.blk (q2.below hS) (by omega)
 clear hS q1 hb6 hb7 r6 HCT HBL HRN hrn x0 hbN hbW hbA b5 ht8
 go_wp2_with (first
  | ((with_reducible show sl 52); refine z16 rfl rfl rfl b8 z1p (by rw [z0k, yk]) ?_)
  | ((with_reducible show sn); refine z09 (vs := fcC ⟨1, k1, k2, k3, k4, k5, 0, BL⟩) rfl rfl rfl rfl q2 (by rw [yk, yk]) (by rw [z0k, yk]) (z2k _) ?_; intro w9 ht9 b9))
 exact z04 rfl rfl rfl b9 z1p (by rw [z0k, yk]) ⟨rfl, (yb hb0a.out (hbw.trans (hbM.mono (by omega)))).trans (ht9.below _ (by omega))⟩
theorem zpn {H : He} (L : Les H) (r : EvR) (w : World) (h : z1b w r) (hw : z0t r.e) (hf : z10 r.e) (hg : GCon w) (hk : r.e.kind = 2) :
  Calls Tryz.prog 12 #[evV r] w (z1i (yq H r.e) w) := by
 have hF : yq H r.e = ⟨2, r.e.commit, r.e.day, r.e.id, 0, 0, r.e.frm, (H.bl r.e.nonce r.e.vec r.e.attrs)⟩ := by simp [yq, hk]
 rw [hF]
 clear hF
 obtain ⟨wa, hwa, hb0, q1, q2⟩ := z5k w r
 have HWA := ya hwa
 clear hwa
 have hcells := ya (fun W (hb : Below wa.heap.size wa W) => z2r (q1.below hb))
 have HC : Hid (∀ W, Below wa.heap.size wa W → W.cell? ⟨w.heap.size, 0, none⟩ = some (.int .i64 2) ∧ W.cell? ⟨w.heap.size, 1, none⟩ = some (.int .i64 r.e.commit) ∧ W.cell? ⟨w.heap.size, 2, none⟩ = some (.int .i64 r.e.day) ∧ W.cell? ⟨w.heap.size, 3, none⟩ = some (.int .i64 r.e.id) ∧ W.cell? ⟨w.heap.size, 4, none⟩ = some (.int .i64 r.e.owner) ∧ W.cell? ⟨w.heap.size, 5, none⟩ = some (.int .i64 r.e.til) ∧ W.cell? ⟨w.heap.size, 6, none⟩ = some (.int .i64 r.e.frm)) := ya (fun W hb => by
  have hc := hcells.out W hb
  have z0 := hc 0
  rw [show (evL r)[0]? = some (.int .i64 r.e.kind) from rfl, hk] at z0
  exact ⟨z0, hc 1, hc 2, hc 3, hc 4, hc 5, hc 6⟩)
 have HCT := ya (fun W (hb : Below w.heap.size w W) => zht r W (h.below hb) hw hf)
 have HBL := ya (fun A k c W (hb : Below w.heap.size w W) (hk : k ≤ 100) (hr : Rd W A k (sv (z3q r.e))) => L.blind r.e.nonce r.e.vec r.e.attrs A k c W hk (zcf hf) hr (hg.below hb))
 have HCL : Hid ((z3q r.e).length = 3) := ya rfl
 have HRN := ya (fun W (hb : Below wa.heap.size wa W) => zic (q1.below hb))
 generalize z3q r.e = CL at *
 generalize H.bl r.e.nonce r.e.vec r.e.attrs = BL at *
 generalize r.e.nonce = NC at *
 clear hk h hw hf hg L hcells
 generalize r.e.commit = k1 at *
 generalize r.e.day = k2 at *
 generalize r.e.id = k3 at *
 generalize r.e.owner = k4 at *
 generalize r.e.til = k5 at *
 generalize r.e.frm = k6 at *
 have hB4 := z94 2 k1 k2 k3
 obtain ⟨c0, c1, c2, c3, c4, c5, c6⟩ := HC.out _ (Below.refl _ _)
 have hlt2 := q2.lt
 unfold z1i
 go_enter Tryz.func12, Tryz.ntmps12
 go_upto_region 1 with fail
 change Code.wp _ _ _ _ ((w.alloc (.cells (evC r) 27)).alloc (.cells (fcC z0r) 29))
 rw [← HWA.out]
 go_upto_region 2 with (first
  | ((with_reducible show sl 12); refine z8r rfl rfl rfl rfl rfl rfl hB4 ?_)
  | ((with_reducible show sl 3); refine z1d (z := fcC z0r) (vs := fcC ⟨2, k1, k2, k3, 0, 0, 0, 0⟩) rfl rfl rfl rfl (z5v _) (fun _ => rfl) (fun _ => rfl) (by rw [yk, yk]) (by rw [z0k, yk]) (z2k _) ?_; intro w3 g3 hg3 b3 hb3 lt3; have hgw : wa.heap.size ≤ g3 := (by omega); have hne3 : w.heap.size + 1 < g3 := (by omega); clear hg3 lt3))
 replace q1 := q1.below hb3
 replace q2 := q2.below hb3
 obtain ⟨d0, d1, d2, d3, d4, d5, d6⟩ := HC.out _ hb3
 have hb0a := ya hb0
 have hbw : Below wa.heap.size wa w3 := hb3
 clear c0 c1 c2 c3 c4 c5 c6 d1 d2 d3 hb3
 go_upto_region 12 with ((with_reducible show sn); refine z1e rfl rfl (by kernel_rfl) rfl rfl rfl b3 (by rw [yk]; omega) (zcm _ _) ?_; intro w5 ht5 b5)
 have hbN : Below g3 w3 w5 := ht5.below _ (Nat.le_refl _)
 replace q1 : Blk w5 w.heap.size 27 (evC r) := (hbN.block _ (by omega)).trans q1
 replace q2 : Blk w5 (w.heap.size + 1) 29 (fcC z0r) := (hbN.block _ (by omega)).trans q2
 clear d0 d4 d5 d6 b3 ht5
 have x0 : w5.cell? ⟨w.heap.size, 0, none⟩ = some (.int .i64 2) := (HC.out _ (hbw.trans (hbN.mono (by omega)))).1
 go_upto_region 13 with fail
 have hbA : Below wa.heap.size wa w5 := hbw.trans (hbN.mono (by omega))
 have hS : Below w5.heap.size w5 w5.drew := (Below.refl _ _).drew
 have hbW : Below w.heap.size w w5 := yb hb0a.out hbA
 have hrn := HRN.out _ hbA
 refine yw 7 (by kernel_rfl) ?_
 refine WpT.tk 0 hS ?_
 simp only [nrm]
 refine WpT.tk 1 hS ?_
 simp only [nrm]
 refine WpT.tl 2 rfl (z7f rfl rfl yo (by kernel_rfl) (by rfl) hrn) hS ?_
 simp only [nrm]
 refine WpT.tl 3 rfl (z69 rfl rfl rfl z1q (by rw [z1f, z4k]) q1) hS ?_
 simp only [nrm]
 refine WpT.on 4 rfl (fun K hK => ?_)
 go_simp; refine (HCT.out _ (yb hbW hS)).mono ?_; unfold z7k; rintro e w6 ⟨v6, rfl, o6, hb6⟩; obtain ⟨A6, n6, c6, rfl, hn6, -, -, r6⟩ := o6.formN; replace hS := yb hS hb6; have hn6' : n6 ≤ 100 := (by have h6 := hn6.out; rw [z4m, HCL.out] at h6; omega); clear hn6 o6
 refine hK _ _ hS ?_; clear hK K; try simp only [nrm]
 refine WpT.on 5 rfl (fun K hK => ?_)
 go_simp; refine (HBL.out A6 n6 c6 _ (yb hbW hS) hn6' r6).mono ?_; unfold isD; rintro e w7 ⟨rfl, hb7⟩; replace hS := yb hS hb7
 refine hK _ _ hS ?_; clear hK K; try simp only [nrm]
 refine WpT.tk 6 hS ?_
 simp only [nrm]
 refine WpT.ta 7 rfl (fun K hK => ?_)
 refine z7d (vs := bv (dg BL)) rfl (by rfl) (by rfl) (b5.below hS) (by rw [z01, yk]; omega) (by rw [yf, z01]) (z7v _) (zck _ _) ?_; intro w8 ht8 b8
 refine hK _ _ ?_; clear hK K; try simp only [nrm]
 refine WpT.done (by kernel_rfl) ?_ _
 skip
 have hbM : Below g3 w3 w8 := (hbN.trans (hS.mono (by have := b5.lt; omega))).trans (ht8.below _ (Nat.le_refl _))
 replace q2 : Blk w8 (w.heap.size + 1) 29 (fcC z0r) := ht8.blk (q2.below hS) (by omega)
 clear hS q1 hb6 hb7 r6 HCT HBL HRN hrn x0 hbN hbW hbA b5 ht8
 go_wp2_with (first
  | ((with_reducible show sl 52); refine z16 rfl rfl rfl b8 z1p (by rw [z0k, yk]) ?_)
  | ((with_reducible show sn); refine z09 (vs := fcC ⟨2, k1, k2, k3, 0, 0, k6, BL⟩) rfl rfl rfl rfl q2 (by rw [yk, yk]) (by rw [z0k, yk]) (z2k _) ?_; intro w9 ht9 b9))
 exact z04 rfl rfl rfl b9 z1p (by rw [z0k, yk]) ⟨rfl, (yb hb0a.out (hbw.trans (hbM.mono (by omega)))).trans (ht9.below _ (by omega))⟩
theorem zpo {H : He} (L : Les H) (r : EvR) (w : World) (h : z1b w r) (hw : z0t r.e) (hf : z10 r.e) (hg : GCon w) (hk : r.e.kind = 3) :
  Calls Tryz.prog 12 #[evV r] w (z1i (yq H r.e) w) := by
 have hF : yq H r.e = ⟨3, r.e.commit, r.e.day, r.e.id, 0, 0, r.e.frm, 0⟩ := by simp [yq, hk]
 rw [hF]
 clear hF
 obtain ⟨wa, hwa, hb0, q1, q2⟩ := z5k w r
 have HWA := ya hwa
 clear hwa
 have hcells := ya (fun W (hb : Below wa.heap.size wa W) => z2r (q1.below hb))
 have HC : Hid (∀ W, Below wa.heap.size wa W → W.cell? ⟨w.heap.size, 0, none⟩ = some (.int .i64 3) ∧ W.cell? ⟨w.heap.size, 1, none⟩ = some (.int .i64 r.e.commit) ∧ W.cell? ⟨w.heap.size, 2, none⟩ = some (.int .i64 r.e.day) ∧ W.cell? ⟨w.heap.size, 3, none⟩ = some (.int .i64 r.e.id) ∧ W.cell? ⟨w.heap.size, 4, none⟩ = some (.int .i64 r.e.owner) ∧ W.cell? ⟨w.heap.size, 5, none⟩ = some (.int .i64 r.e.til) ∧ W.cell? ⟨w.heap.size, 6, none⟩ = some (.int .i64 r.e.frm)) := ya (fun W hb => by
  have hc := hcells.out W hb
  have z0 := hc 0
  rw [show (evL r)[0]? = some (.int .i64 r.e.kind) from rfl, hk] at z0
  exact ⟨z0, hc 1, hc 2, hc 3, hc 4, hc 5, hc 6⟩)
 clear hk h hw hf hg L hcells
 generalize r.e.commit = k1 at *
 generalize r.e.day = k2 at *
 generalize r.e.id = k3 at *
 generalize r.e.owner = k4 at *
 generalize r.e.til = k5 at *
 generalize r.e.frm = k6 at *
 have hB4 := z94 3 k1 k2 k3
 obtain ⟨c0, c1, c2, c3, c4, c5, c6⟩ := HC.out _ (Below.refl _ _)
 have hlt2 := q2.lt
 unfold z1i
 go_enter Tryz.func12, Tryz.ntmps12
 go_upto_region 1 with fail
 change Code.wp _ _ _ _ ((w.alloc (.cells (evC r) 27)).alloc (.cells (fcC z0r) 29))
 rw [← HWA.out]
 go_upto_region 2 with (first
  | ((with_reducible show sl 12); refine z8r rfl rfl rfl rfl rfl rfl hB4 ?_)
  | ((with_reducible show sl 3); refine z1d (z := fcC z0r) (vs := fcC ⟨3, k1, k2, k3, 0, 0, 0, 0⟩) rfl rfl rfl rfl (z5v _) (fun _ => rfl) (fun _ => rfl) (by rw [yk, yk]) (by rw [z0k, yk]) (z2k _) ?_; intro w3 g3 hg3 b3 hb3 lt3; have hgw : wa.heap.size ≤ g3 := (by omega); have hne3 : w.heap.size + 1 < g3 := (by omega); clear hg3 lt3))
 replace q1 := q1.below hb3
 replace q2 := q2.below hb3
 obtain ⟨d0, d1, d2, d3, d4, d5, d6⟩ := HC.out _ hb3
 have hb0a := ya hb0
 have hbw : Below wa.heap.size wa w3 := hb3
 clear c0 c1 c2 c3 c4 c5 c6 d1 d2 d3 hb3
 go_upto_region 12 with ((with_reducible show sn); refine z1e rfl rfl (by kernel_rfl) rfl rfl rfl b3 (by rw [yk]; omega) (zcm _ _) ?_; intro w5 ht5 b5)
 have hbN : Below g3 w3 w5 := ht5.below _ (Nat.le_refl _)
 replace q1 : Blk w5 w.heap.size 27 (evC r) := (hbN.block _ (by omega)).trans q1
 replace q2 : Blk w5 (w.heap.size + 1) 29 (fcC z0r) := (hbN.block _ (by omega)).trans q2
 clear d0 d4 d5 d6 b3 ht5
 have x0 : w5.cell? ⟨w.heap.size, 0, none⟩ = some (.int .i64 3) := (HC.out _ (hbw.trans (hbN.mono (by omega)))).1
 go_wp2_with (first
  | ((with_reducible show sl 52); refine z16 rfl rfl rfl b5 z1p (by rw [z0k, yk]) ?_)
  | ((with_reducible show sn); refine z09 (vs := fcC ⟨3, k1, k2, k3, 0, 0, k6, 0⟩) rfl rfl rfl rfl q2 (by rw [yk, yk]) (by rw [z0k, yk]) (z2k _) ?_; intro w9 ht9 b9))
 exact z04 rfl rfl rfl b9 z1p (by rw [z0k, yk]) ⟨rfl, (yb hb0a.out (hbw.trans (hbN.mono (by omega)))).trans (ht9.below _ (by omega))⟩
theorem zpp {H : He} (L : Les H) (r : EvR) (w : World) (h : z1b w r) (hw : z0t r.e) (hf : z10 r.e) (hg : GCon w) (hk : r.e.kind = 4) :
  Calls Tryz.prog 12 #[evV r] w (z1i (yq H r.e) w) := by
 have hF : yq H r.e = ⟨4, r.e.commit, r.e.day, r.e.id, 0, r.e.til, 0, 0⟩ := by simp [yq, hk]
 rw [hF]
 clear hF
 obtain ⟨wa, hwa, hb0, q1, q2⟩ := z5k w r
 have HWA := ya hwa
 clear hwa
 have hcells := ya (fun W (hb : Below wa.heap.size wa W) => z2r (q1.below hb))
 have HC : Hid (∀ W, Below wa.heap.size wa W → W.cell? ⟨w.heap.size, 0, none⟩ = some (.int .i64 4) ∧ W.cell? ⟨w.heap.size, 1, none⟩ = some (.int .i64 r.e.commit) ∧ W.cell? ⟨w.heap.size, 2, none⟩ = some (.int .i64 r.e.day) ∧ W.cell? ⟨w.heap.size, 3, none⟩ = some (.int .i64 r.e.id) ∧ W.cell? ⟨w.heap.size, 4, none⟩ = some (.int .i64 r.e.owner) ∧ W.cell? ⟨w.heap.size, 5, none⟩ = some (.int .i64 r.e.til) ∧ W.cell? ⟨w.heap.size, 6, none⟩ = some (.int .i64 r.e.frm)) := ya (fun W hb => by
  have hc := hcells.out W hb
  have z0 := hc 0
  rw [show (evL r)[0]? = some (.int .i64 r.e.kind) from rfl, hk] at z0
  exact ⟨z0, hc 1, hc 2, hc 3, hc 4, hc 5, hc 6⟩)
 clear hk h hw hf hg L hcells
 generalize r.e.commit = k1 at *
 generalize r.e.day = k2 at *
 generalize r.e.id = k3 at *
 generalize r.e.owner = k4 at *
 generalize r.e.til = k5 at *
 generalize r.e.frm = k6 at *
 have hB4 := z94 4 k1 k2 k3
 obtain ⟨c0, c1, c2, c3, c4, c5, c6⟩ := HC.out _ (Below.refl _ _)
 have hlt2 := q2.lt
 unfold z1i
 go_enter Tryz.func12, Tryz.ntmps12
 go_upto_region 1 with fail
 change Code.wp _ _ _ _ ((w.alloc (.cells (evC r) 27)).alloc (.cells (fcC z0r) 29))
 rw [← HWA.out]
 go_upto_region 2 with (first
  | ((with_reducible show sl 12); refine z8r rfl rfl rfl rfl rfl rfl hB4 ?_)
  | ((with_reducible show sl 3); refine z1d (z := fcC z0r) (vs := fcC ⟨4, k1, k2, k3, 0, 0, 0, 0⟩) rfl rfl rfl rfl (z5v _) (fun _ => rfl) (fun _ => rfl) (by rw [yk, yk]) (by rw [z0k, yk]) (z2k _) ?_; intro w3 g3 hg3 b3 hb3 lt3; have hgw : wa.heap.size ≤ g3 := (by omega); have hne3 : w.heap.size + 1 < g3 := (by omega); clear hg3 lt3))
 replace q1 := q1.below hb3
 replace q2 := q2.below hb3
 obtain ⟨d0, d1, d2, d3, d4, d5, d6⟩ := HC.out _ hb3
 have hb0a := ya hb0
 have hbw : Below wa.heap.size wa w3 := hb3
 clear c0 c1 c2 c3 c4 c5 c6 d1 d2 d3 hb3
 go_upto_region 12 with ((with_reducible show sn); refine z1e rfl rfl (by kernel_rfl) rfl rfl rfl b3 (by rw [yk]; omega) (zcl _ _) ?_; intro w5 ht5 b5)
 have hbN : Below g3 w3 w5 := ht5.below _ (Nat.le_refl _)
 replace q1 : Blk w5 w.heap.size 27 (evC r) := (hbN.block _ (by omega)).trans q1
 replace q2 : Blk w5 (w.heap.size + 1) 29 (fcC z0r) := (hbN.block _ (by omega)).trans q2
 clear d0 d4 d5 d6 b3 ht5
 have x0 : w5.cell? ⟨w.heap.size, 0, none⟩ = some (.int .i64 4) := (HC.out _ (hbw.trans (hbN.mono (by omega)))).1
 go_wp2_with (first
  | ((with_reducible show sl 52); refine z16 rfl rfl rfl b5 z1p (by rw [z0k, yk]) ?_)
  | ((with_reducible show sn); refine z09 (vs := fcC ⟨4, k1, k2, k3, 0, k5, 0, 0⟩) rfl rfl rfl rfl q2 (by rw [yk, yk]) (by rw [z0k, yk]) (z2k _) ?_; intro w9 ht9 b9))
 exact z04 rfl rfl rfl b9 z1p (by rw [z0k, yk]) ⟨rfl, (yb hb0a.out (hbw.trans (hbN.mono (by omega)))).trans (ht9.below _ (by omega))⟩
theorem zpq {H : He} (L : Les H) (r : EvR) (w : World) (h : z1b w r) (hw : z0t r.e) (hf : z10 r.e) (hg : GCon w) (hk : r.e.kind = 5) :
  Calls Tryz.prog 12 #[evV r] w (z1i (yq H r.e) w) := by
 have hF : yq H r.e = ⟨5, r.e.commit, r.e.day, 0, 0, 0, 0, 0⟩ := by simp [yq, hk]
 rw [hF]
 clear hF
 obtain ⟨wa, hwa, hb0, q1, q2⟩ := z5k w r
 have HWA := ya hwa
 clear hwa
 have hcells := ya (fun W (hb : Below wa.heap.size wa W) => z2r (q1.below hb))
 have HC : Hid (∀ W, Below wa.heap.size wa W → W.cell? ⟨w.heap.size, 0, none⟩ = some (.int .i64 5) ∧ W.cell? ⟨w.heap.size, 1, none⟩ = some (.int .i64 r.e.commit) ∧ W.cell? ⟨w.heap.size, 2, none⟩ = some (.int .i64 r.e.day) ∧ W.cell? ⟨w.heap.size, 3, none⟩ = some (.int .i64 r.e.id) ∧ W.cell? ⟨w.heap.size, 4, none⟩ = some (.int .i64 r.e.owner) ∧ W.cell? ⟨w.heap.size, 5, none⟩ = some (.int .i64 r.e.til) ∧ W.cell? ⟨w.heap.size, 6, none⟩ = some (.int .i64 r.e.frm)) := ya (fun W hb => by
  have hc := hcells.out W hb
  have z0 := hc 0
  rw [show (evL r)[0]? = some (.int .i64 r.e.kind) from rfl, hk] at z0
  exact ⟨z0, hc 1, hc 2, hc 3, hc 4, hc 5, hc 6⟩)
 clear hk h hw hf hg L hcells
 generalize r.e.commit = k1 at *
 generalize r.e.day = k2 at *
 generalize r.e.id = k3 at *
 generalize r.e.owner = k4 at *
 generalize r.e.til = k5 at *
 generalize r.e.frm = k6 at *
 have hB4 := z94 5 k1 k2 k3
 obtain ⟨c0, c1, c2, c3, c4, c5, c6⟩ := HC.out _ (Below.refl _ _)
 have hlt2 := q2.lt
 unfold z1i
 go_enter Tryz.func12, Tryz.ntmps12
 go_upto_region 1 with fail
 change Code.wp _ _ _ _ ((w.alloc (.cells (evC r) 27)).alloc (.cells (fcC z0r) 29))
 rw [← HWA.out]
 go_upto_region 2 with (first
  | ((with_reducible show sl 12); refine z8r rfl rfl rfl rfl rfl rfl hB4 ?_)
  | ((with_reducible show sl 3); refine z1d (z := fcC z0r) (vs := fcC ⟨5, k1, k2, k3, 0, 0, 0, 0⟩) rfl rfl rfl rfl (z5v _) (fun _ => rfl) (fun _ => rfl) (by rw [yk, yk]) (by rw [z0k, yk]) (z2k _) ?_; intro w3 g3 hg3 b3 hb3 lt3; have hgw : wa.heap.size ≤ g3 := (by omega); have hne3 : w.heap.size + 1 < g3 := (by omega); clear hg3 lt3))
 replace q1 := q1.below hb3
 replace q2 := q2.below hb3
 obtain ⟨d0, d1, d2, d3, d4, d5, d6⟩ := HC.out _ hb3
 have hb0a := ya hb0
 have hbw : Below wa.heap.size wa w3 := hb3
 clear c0 c1 c2 c3 c4 c5 c6 d1 d2 d3 hb3
 go_upto_region 12 with ((with_reducible show sn); refine z1e rfl rfl (by kernel_rfl) rfl rfl rfl b3 (by rw [yk]; omega) (z9d _ _) ?_; intro w5 ht5 b5)
 have hbN : Below g3 w3 w5 := ht5.below _ (Nat.le_refl _)
 replace q1 : Blk w5 w.heap.size 27 (evC r) := (hbN.block _ (by omega)).trans q1
 replace q2 : Blk w5 (w.heap.size + 1) 29 (fcC z0r) := (hbN.block _ (by omega)).trans q2
 clear d0 d4 d5 d6 b3 ht5
 have x0 : w5.cell? ⟨w.heap.size, 0, none⟩ = some (.int .i64 5) := (HC.out _ (hbw.trans (hbN.mono (by omega)))).1
 go_wp2_with (first
  | ((with_reducible show sl 52); refine z16 rfl rfl rfl b5 z1p (by rw [z0k, yk]) ?_)
  | ((with_reducible show sn); refine z09 (vs := fcC ⟨5, k1, k2, 0, 0, 0, 0, 0⟩) rfl rfl rfl rfl q2 (by rw [yk, yk]) (by rw [z0k, yk]) (z2k _) ?_; intro w9 ht9 b9))
 exact z04 rfl rfl rfl b9 z1p (by rw [z0k, yk]) ⟨rfl, (yb hb0a.out (hbw.trans (hbN.mono (by omega)))).trans (ht9.below _ (by omega))⟩
theorem zpl {H : He} (L : Les H) (r : EvR) (w : World) (h : z1b w r) (hw : z0t r.e) (hf : z10 r.e) (hg : GCon w) (hk : r.e.kind ≠ 1 ∧ r.e.kind ≠ 2 ∧ r.e.kind ≠ 3 ∧ r.e.kind ≠ 4 ∧ r.e.kind ≠ 5) :
  Calls Tryz.prog 12 #[evV r] w (z1i (yq H r.e) w) := by
 have hF : yq H r.e = ⟨r.e.kind, r.e.commit, r.e.day, r.e.id, 0, 0, 0, 0⟩ := by simp [yq, hk]
 rw [hF]
 clear hF
 obtain ⟨wa, hwa, hb0, q1, q2⟩ := z5k w r
 have HWA := ya hwa
 clear hwa
 have hcells := ya (fun W (hb : Below wa.heap.size wa W) => z2r (q1.below hb))
 have HC : Hid (∀ W, Below wa.heap.size wa W → W.cell? ⟨w.heap.size, 0, none⟩ = some (.int .i64 r.e.kind) ∧ W.cell? ⟨w.heap.size, 1, none⟩ = some (.int .i64 r.e.commit) ∧ W.cell? ⟨w.heap.size, 2, none⟩ = some (.int .i64 r.e.day) ∧ W.cell? ⟨w.heap.size, 3, none⟩ = some (.int .i64 r.e.id) ∧ W.cell? ⟨w.heap.size, 4, none⟩ = some (.int .i64 r.e.owner) ∧ W.cell? ⟨w.heap.size, 5, none⟩ = some (.int .i64 r.e.til) ∧ W.cell? ⟨w.heap.size, 6, none⟩ = some (.int .i64 r.e.frm)) := ya (fun W hb => by
  have hc := hcells.out W hb
  have z0 := hc 0
  skip
  exact ⟨z0, hc 1, hc 2, hc 3, hc 4, hc 5, hc 6⟩)
 have e1 : (r.e.kind == 1) = false := by simp [hk.1]
 have e2 : (r.e.kind == 2) = false := by simp [hk.2.1]
 have e3 : (r.e.kind == 3) = false := by simp [hk.2.2.1]
 have e4 : (r.e.kind == 4) = false := by simp [hk.2.2.2.1]
 have e5 : (r.e.kind == 5) = false := by simp [hk.2.2.2.2]
 clear hk h hw hf hg L hcells
 generalize r.e.kind = k0 at *
 generalize r.e.commit = k1 at *
 generalize r.e.day = k2 at *
 generalize r.e.id = k3 at *
 generalize r.e.owner = k4 at *
 generalize r.e.til = k5 at *
 generalize r.e.frm = k6 at *
 have hB4 := z94 k0 k1 k2 k3
 obtain ⟨c0, c1, c2, c3, c4, c5, c6⟩ := HC.out _ (Below.refl _ _)
 have hlt2 := q2.lt
 unfold z1i
 go_enter Tryz.func12, Tryz.ntmps12
 go_upto_region 1 with fail
 change Code.wp _ _ _ _ ((w.alloc (.cells (evC r) 27)).alloc (.cells (fcC z0r) 29))
 rw [← HWA.out]
 go_upto_region 2 with (first
  | ((with_reducible show sl 12); refine z8r rfl rfl rfl rfl rfl rfl hB4 ?_)
  | ((with_reducible show sl 3); refine z1d (z := fcC z0r) (vs := fcC ⟨k0, k1, k2, k3, 0, 0, 0, 0⟩) rfl rfl rfl rfl (z5v _) (fun _ => rfl) (fun _ => rfl) (by rw [yk, yk]) (by rw [z0k, yk]) (z2k _) ?_; intro w3 g3 hg3 b3 hb3 lt3; have hgw : wa.heap.size ≤ g3 := (by omega); have hne3 : w.heap.size + 1 < g3 := (by omega); clear hg3 lt3))
 replace q1 := q1.below hb3
 replace q2 := q2.below hb3
 obtain ⟨d0, d1, d2, d3, d4, d5, d6⟩ := HC.out _ hb3
 have hb0a := ya hb0
 have hbw : Below wa.heap.size wa w3 := hb3
 clear c0 c1 c2 c3 c4 c5 c6 d1 d2 d3 hb3
 go_upto_region 12 with fail
 have hbN : Below g3 w3 w3 := Below.refl _ _
 clear d4 d5 d6
 have x0 : w3.cell? ⟨w.heap.size, 0, none⟩ = some (.int .i64 k0) := (HC.out _ (hbw.trans (hbN.mono (by omega)))).1
 go_wp2_with (first
  | ((with_reducible show sl 52); refine z16 rfl rfl rfl b3 z1p (by rw [z0k, yk]) ?_)
  | ((with_reducible show sn); refine z09 (vs := fcC ⟨k0, k1, k2, k3, 0, 0, 0, 0⟩) rfl rfl rfl rfl q2 (by rw [yk, yk]) (by rw [z0k, yk]) (z2k _) ?_; intro w9 ht9 b9))
 exact z04 rfl rfl rfl b9 z1p (by rw [z0k, yk]) ⟨rfl, (yb hb0a.out (hbw.trans (hbN.mono (by omega)))).trans (ht9.below _ (by omega))⟩
theorem zb0 {H : He} (L : Les H) (r : EvR) (w : World) (h : z1b w r) (hw : z0t r.e) (hf : z10 r.e) (hg : GCon w) :
  Calls Tryz.prog 12 #[evV r] w (z1i (yq H r.e) w) := by
 by_cases h1 : r.e.kind = 1
 ·exact zpm L r w h hw hf hg h1
 by_cases h2 : r.e.kind = 2
 ·exact zpn L r w h hw hf hg h2
 by_cases h3 : r.e.kind = 3
 ·exact zpo L r w h hw hf hg h3
 by_cases h4 : r.e.kind = 4
 ·exact zpp L r w h hw hf hg h4
 by_cases h5 : r.e.kind = 5
 ·exact zpq L r w h hw hf hg h5
 exact zpl L r w h hw hf hg ⟨h1, h2, h3, h4, h5⟩
theorem znm (a b c d e f g : Int) (W : World) : (Instr.buildSlice 22 7 #[(0, .int .i64 a), (1, .int .i64 b), (2, .int .i64 c), (3, .int .i64 d), (4, .int .i64 e), (5, .int .i64 f), (6, .int .i64 g)]).run Tryz.prog W = .ok (.slice (some ⟨W.heap.size, 0, none⟩) 7 7) (W.alloc (.cells #[.int .i64 a, .int .i64 b, .int .i64 c, .int .i64 d, .int .i64 e, .int .i64 f, .int .i64 g] 3)) := by kernel_rfl
theorem zmj {w : World} {o : Oper} {a : Act} {K : Act → World → Prop} {Q : Exit → Act → World → Prop} {x0 x1 x2 x3 x4 x5 x6 : Operand} {p0 p1 p2 p3 p4 p5 p6 : Int} (ho : o.op = .buildSlice 22 7 #[(0, x0), (1, x1), (2, x2), (3, x3), (4, x4), (5, x5), (6, x6)])
  (h0 : a.eval x0 = .int .i64 p0) (h1 : a.eval x1 = .int .i64 p1) (h2 : a.eval x2 = .int .i64 p2) (h3 : a.eval x3 = .int .i64 p3) (h4 : a.eval x4 = .int .i64 p4) (h5 : a.eval x5 = .int .i64 p5) (h6 : a.eval x6 = .int .i64 p6)
  (h : ∀ w' g, Rd w' (some ⟨g, 0, none⟩) 7 (iv [p0, p1, p2, p3, p4, p5, p6]) → Below w.heap.size w w' → K (a.put o.dst (.slice (some ⟨g, 0, none⟩) 7 7)) w') : o.wp Tryz.prog a w K Q := by
 have hh := h _ _ (z56 (xs := iv [p0, p1, p2, p3, p4, p5, p6]) (Blk.new w 3 #[.int .i64 p0, .int .i64 p1, .int .i64 p2, .int .i64 p3, .int .i64 p4, .int .i64 p5, .int .i64 p6])) ((Below.refl _ _).alloc (Nat.le_refl _) _)
 unfold Oper.wp execOp
 simp only [ho, List.map_toArray, List.map_cons, List.map_nil, h0, h1, h2, h3, h4, h5, h6, znm, Sem.run_bind, Result.andThen_ok, Sem.run_pure]
 exact hh
theorem zto (s t : ByteArray) (W : World) (h : s.size + t.size ≤ 9223372036854775807) : (binOp .add 9 (.string s) (.string t)).run Tryz.prog W = .ok (.string (s ++ t)) W := by
 rw [binOp_string_add]
 exact run_string_add_sum _ s t h
theorem zgk {ops : Array Oper} {S : World → Prop} {o : Oper} {a : Act} {x y : Operand} {u : TypeId} {s t r : ByteArray} (hw : Region.wanted o (yielded ops a.tmps) = true) (ho : o.op = .binOp .add 9 x y u) (hx : a.eval x = .string s) (hy : a.eval y = .string t) (hr : s ++ t = r) (hsz : s.size + t.size ≤ 9223372036854775807)
  (hg : ∀ W, (eqGuard .add 9 x y (.string s) (.string t)).run Tryz.prog W = .ok () W) : YieldsIf Tryz.prog ops S o (.string r) a := by
 refine .inl ⟨hw, fun w hS => ?_⟩
 unfold execOp
 simp only [ho, hx, hy, Sem.run_bind, hg, zto s t w hsz, Result.andThen_ok, Sem.run_pure, hr]
theorem zj4 (f : Fc) : (⟨(z1j (z2b f)).toArray⟩ : ByteArray) ++ (⟨(dg f.blind).toArray⟩ : ByteArray) = z5l f := by
 unfold z5l
 apply ByteArray.ext
 rw [ByteArray.data_append]
 simp
theorem zj6 (f : Fc) : (⟨(z1j (z2b f)).toArray⟩ : ByteArray).size + (⟨(dg f.blind).toArray⟩ : ByteArray).size ≤ 9223372036854775807 := by
 have := z9k (z2b f)
 have e : (z2b f).length = 7 := rfl
 simp only [ByteArray.size, List.size_toArray, z2q]
 omega
section
variable {W : World} {g : Nat} {T : TypeId} {f : Fc}
theorem zeq (hb : Blk W g T (fcC f)) (j : Nat) : W.cell? ⟨g, j, none⟩ = (fcL f)[j]? := by rw [hb.cell j, List.getElem?_toArray]
theorem zid (hb : Blk W g T (fcC f)) : ∀ j u, (bv (dg f.blind))[j]? = some u → W.cell? ((⟨g, 7, none⟩ : Addr).add j) = some u := by
 intro j u h
 have := zeq hb (7 + j)
 rw [show ((⟨g, 7, none⟩ : Addr).add j) = ⟨g, 7 + j, none⟩ by unfold Addr.add; split <;> simp_all, this]
 unfold fcL
 rw [List.getElem?_append_right (by simp), show 7 + j - [Value.int .i64 f.kind, .int .i64 f.commit, .int .i64 f.day, .int .i64 f.id, .int .i64 f.owner, .int .i64 f.til, .int .i64 f.frm].length = j by simp, h]
theorem zpr (hb : Blk W g T (fcC f)) : Rd W (some ⟨g, 7, none⟩) 16 (bv (dg f.blind)) := ⟨z01 _, fun k u hk => ⟨_, rfl, zid hb k u hk⟩⟩
end
theorem zjb (w : World) (f : Fc) : ∃ wa : World, wa = (w.alloc (.cells (fcC f) 29)).alloc (.cells (dgC 0) 25) ∧ Below w.heap.size w wa ∧ Blk wa w.heap.size 29 (fcC f) ∧ Blk wa (w.heap.size + 1) 25 (dgC 0) :=
 ⟨_, rfl, ((Below.refl w.heap.size w).alloc (Nat.le_refl _) _).alloc (by simp) _, (Blk.new _ _ _).alloc _, Blk.new2 _ _ _ _⟩
theorem zcd (d : Nat) (w : World) :
  Calls Tryz.prog 53 #[dgV d] w fun e w' => e = .returned (.string (dgS d)) ∧ Below w.heap.size w w' := by
 obtain ⟨wa, hwa, hb0, q1⟩ : ∃ wa : World, wa = w.alloc (.cells (dgC d) 25) ∧ Below w.heap.size w wa ∧ Blk wa w.heap.size 25 (dgC d) := ⟨_, rfl, (Below.refl w.heap.size w).alloc (Nat.le_refl _) _, Blk.new _ _ _⟩
 have HWA := ya hwa
 have HLN := ya (z2q d)
 clear hwa
 show Calls _ _ #[.agg (bv (dg d)).toArray] _ fun e w' => e = .returned (.string ⟨(dg d).toArray⟩) ∧ _
 have q1' : Blk wa w.heap.size 25 (bv (dg d)).toArray := q1
 have HQ := ya (fun W (h : Below wa.heap.size wa W) => q1'.below h)
 change Hid (wa = w.alloc (.cells (bv (dg d)).toArray 25)) at HWA
 clear q1 q1'
 generalize dg d = D at *
 go_enter Tryz.func53, Tryz.ntmps53
 go_upto_region 1 with fail
 change Code.wp _ _ _ _ (w.alloc (.cells (bv D).toArray 25))
 rw [← HWA.out]
 go_wp2_with fail
 go_loopw [3, 4] (fun v3 v4 wr => ∃ k : Nat, v4 = .int .i64 (k : Int) ∧ k ≤ 16 ∧ Own wr wa.heap.size 5 v3 (bv (D.take k)) ∧ Below wa.heap.size wa wr) (fun _ v4 _ => 16 - (intOf v4).toNat)
 case atStart => exact ⟨0, rfl, by omega, Own.nil _ _ _, Below.refl _ _⟩
 case round =>
  obtain ⟨k, rfl, hk, o3, hbl⟩ := hrel
  by_cases hlt : k < 16
  ·have dj : decide ((k : Int) < 16) = true := by rw [decide_eq_true_eq]; omega
   have hkl : k < D.length := by rw [HLN.out]; exact hlt
   have hix : 0 ≤ (k : Int) ∧ (k : Int) < 16 := by omega
   have hc := (HQ.out _ hbl).cell k
   rw [show (bv D).toArray[k]? = some (.int .u8 (D[k].toNat : Nat)) by simp [bv, hkl]] at hc
   have HT := ya (List.take_succ_eq_append_getElem hkl)
   have htl : (D.take k).length = k := by rw [List.length_take, HLN.out]; omega
   generalize D[k] = x at *
   have hz := hbl.size
   clear hkl
   go_wp2_with ((with_reducible show sl 14); refine z27 rfl rfl z2i rfl (o3.alloc _) rfl (Rd.new1 _ _ _) (z3s rfl) (by rw [z0p]; omega) (by simp; omega) ?_; intro v' w' o' hg' hb' _)
   refine ⟨⟨k + 1, by go_num, by omega, ?_, (hbl.alloc hz _).trans hb'⟩, by simp [intOf]; omega⟩
   rw [HT.out]
   unfold bv at o' ⊢
   rw [List.map_append]
   exact o'
  ·have dj : decide ((k : Int) < 16) = false := by rw [decide_eq_false_iff_not]; omega
   obtain rfl : k = 16 := by omega
   have HE : Hid (D.take 16 = D) := ya (List.take_of_length_le (by rw [HLN.out]; omega))
   rw [HE.out] at o3
   obtain ⟨A3, n3, c3, rfl, -, -, -, r3⟩ := o3.formN
   clear o3
   go_wp2_with ((with_reducible show sl 16); refine zgg rfl rfl yo (by kernel_rfl) rfl r3 ?_)
   go_ret
   exact ⟨rfl, yb hb0 hbl⟩
theorem zcu {H : He} (L : Les H) (f : Fc) (w : World) (hf : z1z (z2b f)) (hg : GCon w) :
  Calls Tryz.prog 14 #[fcV f] w (isD (H.lf f) w) := by
 obtain ⟨wa, hwa, hb0, q1, q2⟩ := zjb w f
 have HWA := ya hwa
 have hcells := zeq q1
 have c0 : wa.cell? ⟨w.heap.size, 0, none⟩ = some (.int .i64 f.kind) := hcells 0
 have c1 : wa.cell? ⟨w.heap.size, 1, none⟩ = some (.int .i64 f.commit) := hcells 1
 have c2 : wa.cell? ⟨w.heap.size, 2, none⟩ = some (.int .i64 f.day) := hcells 2
 have c3 : wa.cell? ⟨w.heap.size, 3, none⟩ = some (.int .i64 f.id) := hcells 3
 have c4 : wa.cell? ⟨w.heap.size, 4, none⟩ = some (.int .i64 f.owner) := hcells 4
 have c5 : wa.cell? ⟨w.heap.size, 5, none⟩ = some (.int .i64 f.til) := hcells 5
 have c6 : wa.cell? ⟨w.heap.size, 6, none⟩ = some (.int .i64 f.frm) := hcells 6
 have hrb := zpr q1
 have HI := ya (fun A W (hr : Rd W A 7 (iv (z2b f))) => zbr A 7 7 (z2b f) W hr (by omega) hf)
 have HLF := ya (fun W (h : Below w.heap.size w W) => L.leaf f W (hg.below h))
 have hls := zj4 f
 have hsm := zj6 f
 have hlt2 := q2.lt
 clear hwa hcells hf hg L
 unfold isD at *
 unfold z2b at HI
 generalize H.lf f = LF at *
 generalize z5l f = SF at *
 unfold z2b at hls hsm
 generalize z1j [f.kind, f.commit, f.day, f.id, f.owner, f.til, f.frm] = EN at *
 go_enter Tryz.func14, Tryz.ntmps14
 go_upto_region 1 with fail
 change Code.wp _ _ _ _ ((w.alloc (.cells (fcC f) 29)).alloc (.cells (dgC 0) 25))
 rw [← HWA.out]
 have hS : Below wa.heap.size wa wa.drew := (Below.refl _ _).drew
 refine yw 22 (by kernel_rfl) ?_
 refine WpT.tk 0 hS ?_
 simp only [nrm]
 refine WpT.tl 1 rfl (yg rfl rfl rfl (by kernel_rfl) c0) hS ?_
 simp only [nrm]
 refine WpT.tk 2 hS ?_
 simp only [nrm]
 refine WpT.tl 3 rfl (yg rfl rfl rfl (by kernel_rfl) c1) hS ?_
 simp only [nrm]
 refine WpT.tk 4 hS ?_
 simp only [nrm]
 refine WpT.tl 5 rfl (yg rfl rfl rfl (by kernel_rfl) c2) hS ?_
 simp only [nrm]
 refine WpT.tk 6 hS ?_
 simp only [nrm]
 refine WpT.tl 7 rfl (yg rfl rfl rfl (by kernel_rfl) c3) hS ?_
 simp only [nrm]
 refine WpT.tk 8 hS ?_
 simp only [nrm]
 refine WpT.tl 9 rfl (yg rfl rfl rfl (by kernel_rfl) c4) hS ?_
 simp only [nrm]
 refine WpT.tk 10 hS ?_
 simp only [nrm]
 refine WpT.tl 11 rfl (yg rfl rfl rfl (by kernel_rfl) c5) hS ?_
 simp only [nrm]
 refine WpT.tk 12 hS ?_
 simp only [nrm]
 refine WpT.tl 13 rfl (yg rfl rfl rfl (by kernel_rfl) c6) hS ?_
 simp only [nrm]
 refine WpT.tk 17 hS ?_
 simp only [nrm]
 refine WpT.tk 18 hS ?_
 simp only [nrm]
 refine WpT.tl 19 rfl (z7f rfl rfl yo (by kernel_rfl) (by rfl) hrb) hS ?_
 simp only [nrm]
 refine WpT.on 14 rfl (fun K hK => ?_)
 refine zmj rfl (by rfl) (by rfl) (by rfl) (by rfl) (by rfl) (by rfl) (by rfl) ?_; intro w3 g3 r3 hb3; replace hS := yb hS hb3
 refine hK _ _ hS ?_; clear hK K; try simp only [nrm]
 refine WpT.on 15 rfl (fun K hK => ?_)
 go_simp; refine (HI.out _ _ r3).mono ?_; rintro e w4 ⟨v4, rfl, o4, hb4⟩; obtain ⟨A4, n4, c4', rfl, -, -, -, r4⟩ := o4.formN; replace hS := yb hS hb4
 refine hK _ _ hS ?_; clear hK K; try simp only [nrm]
 refine WpT.on 16 rfl (fun K hK => ?_)
 refine yx rfl yo (by kernel_rfl) (by rfl) r4 ?_
 refine hK _ _ hS ?_; clear hK K; try simp only [nrm]
 refine WpT.tl 20 rfl (zgk (by rfl) rfl (by rfl) (by rfl) hls hsm (fun W => by rfl)) hS ?_
 simp only [nrm]
 refine WpT.on 21 rfl (fun K hK => ?_)
 go_simp; refine (HLF.out _ (yb hb0 hS)).mono ?_; rintro e w5 ⟨rfl, hb5⟩; replace hS := yb hS hb5
 refine hK _ _ hS ?_; clear hK K; try simp only [nrm]
 refine WpT.ta 22 rfl (fun K hK => ?_)
 refine yy (vs := dgC LF) rfl (by rfl) (by rfl) (q2.below hS) (by rw [yc, yc]) (by rw [yf, yc]) (z0d _) ?_; intro w9 ht9 b9
 refine hK _ _ ?_; clear hK K; try simp only [nrm]
 refine WpT.done (by kernel_rfl) ?_ _
 skip
 go_wp2_with fail
 exact z04 rfl rfl rfl b9 yn (by rw [yf, yc]) ⟨rfl, (yb hb0 hS).trans (ht9.below _ (by omega))⟩
theorem zkx {H : He} (L : Les H) (f : Fc) (w : World) (hf : z1z (z2b f)) (hg : RCon w) :
  Calls Tryz.prog 15 #[fcV f] w (isD (H.lf f) w) := by
 obtain ⟨wa, hwa, hb0, q1, q2⟩ := zjb w f
 have HWA := ya hwa
 have hcells := zeq q1
 have c0 : wa.cell? ⟨w.heap.size, 0, none⟩ = some (.int .i64 f.kind) := hcells 0
 have c1 : wa.cell? ⟨w.heap.size, 1, none⟩ = some (.int .i64 f.commit) := hcells 1
 have c2 : wa.cell? ⟨w.heap.size, 2, none⟩ = some (.int .i64 f.day) := hcells 2
 have c3 : wa.cell? ⟨w.heap.size, 3, none⟩ = some (.int .i64 f.id) := hcells 3
 have c4 : wa.cell? ⟨w.heap.size, 4, none⟩ = some (.int .i64 f.owner) := hcells 4
 have c5 : wa.cell? ⟨w.heap.size, 5, none⟩ = some (.int .i64 f.til) := hcells 5
 have c6 : wa.cell? ⟨w.heap.size, 6, none⟩ = some (.int .i64 f.frm) := hcells 6
 have hrb := zid q1
 have HI := ya (fun A W (hr : Rd W A 7 (iv (z2b f))) => zdf A 7 7 (z2b f) W hr (by omega) hf)
 have HLF := ya (fun W (h : Below w.heap.size w W) => L.refLeaf f W (hg.below h))
 have HBY := ya (fun W => zcd f.blind W)
 have hls : (⟨(z1j (z2b f)).toArray⟩ : ByteArray) ++ dgS f.blind = z5l f := zj4 f
 have hsm : (⟨(z1j (z2b f)).toArray⟩ : ByteArray).size + (dgS f.blind).size ≤ 9223372036854775807 := zj6 f
 have hlt2 := q2.lt
 clear hwa hcells hf hg L
 unfold isD at *
 unfold z2b at HI
 generalize H.lf f = LF at *
 generalize z5l f = SF at *
 unfold z2b at hls hsm
 generalize z1j [f.kind, f.commit, f.day, f.id, f.owner, f.til, f.frm] = EN at *
 generalize dgS f.blind = SB at *
 go_enter Tryz.func15, Tryz.ntmps15
 go_upto_region 1 with fail
 change Code.wp _ _ _ _ ((w.alloc (.cells (fcC f) 29)).alloc (.cells (dgC 0) 25))
 rw [← HWA.out]
 have hS : Below wa.heap.size wa wa.drew := (Below.refl _ _).drew
 refine yw 22 (by kernel_rfl) ?_
 refine WpT.tk 0 hS ?_
 simp only [nrm]
 refine WpT.tl 1 rfl (yg rfl rfl rfl (by kernel_rfl) c0) hS ?_
 simp only [nrm]
 refine WpT.tk 2 hS ?_
 simp only [nrm]
 refine WpT.tl 3 rfl (yg rfl rfl rfl (by kernel_rfl) c1) hS ?_
 simp only [nrm]
 refine WpT.tk 4 hS ?_
 simp only [nrm]
 refine WpT.tl 5 rfl (yg rfl rfl rfl (by kernel_rfl) c2) hS ?_
 simp only [nrm]
 refine WpT.tk 6 hS ?_
 simp only [nrm]
 refine WpT.tl 7 rfl (yg rfl rfl rfl (by kernel_rfl) c3) hS ?_
 simp only [nrm]
 refine WpT.tk 8 hS ?_
 simp only [nrm]
 refine WpT.tl 9 rfl (yg rfl rfl rfl (by kernel_rfl) c4) hS ?_
 simp only [nrm]
 refine WpT.tk 10 hS ?_
 simp only [nrm]
 refine WpT.tl 11 rfl (yg rfl rfl rfl (by kernel_rfl) c5) hS ?_
 simp only [nrm]
 refine WpT.tk 12 hS ?_
 simp only [nrm]
 refine WpT.tl 13 rfl (yg rfl rfl rfl (by kernel_rfl) c6) hS ?_
 simp only [nrm]
 refine WpT.tk 17 hS ?_
 simp only [nrm]
 refine WpT.tl 18 rfl (z06 (us := bv (dg f.blind)) rfl rfl rfl yn (by rw [yf, z01]) hrb) hS ?_
 simp only [nrm]
 refine WpT.on 14 rfl (fun K hK => ?_)
 refine zmj rfl (by rfl) (by rfl) (by rfl) (by rfl) (by rfl) (by rfl) (by rfl) ?_; intro w3 g3 r3 hb3; replace hS := yb hS hb3
 refine hK _ _ hS ?_; clear hK K; try simp only [nrm]
 refine WpT.on 15 rfl (fun K hK => ?_)
 go_simp; refine (HI.out _ _ r3).mono ?_; rintro e w4 ⟨v4, rfl, o4, hb4⟩; obtain ⟨A4, n4, c4', rfl, -, -, -, r4⟩ := o4.formN; clear o4; replace hS := yb hS hb4
 refine hK _ _ hS ?_; clear hK K; try simp only [nrm]
 refine WpT.fork (i := 16) (j := 19) rfl rfl (by kernel_rfl) (fun K hK => ?_) (fun K hK => ?_)
 ·refine yx rfl yo (by kernel_rfl) (by rfl) r4 ?_
  refine hK _ _ hS ?_; clear hK K; try simp only [nrm]
  refine WpT.on 19 rfl (fun K hK => ?_)
  go_simp; refine (HBY.out _).mono ?_; rintro e w6 ⟨rfl, hb6⟩; (try replace r4 := r4.below hb6); replace hS := yb hS hb6
  refine hK _ _ hS ?_; clear hK K; try simp only [nrm]
  refine WpT.tl 20 rfl (zgk (by rfl) rfl (by rfl) (by rfl) hls hsm (fun W => by rfl)) hS ?_
  simp only [nrm]
  refine WpT.on 21 rfl (fun K hK => ?_)
  go_simp; refine (HLF.out _ (yb hb0 hS)).mono ?_; rintro e w5 ⟨rfl, hb5⟩; replace hS := yb hS hb5
  refine hK _ _ hS ?_; clear hK K; try simp only [nrm]
  refine WpT.ta 22 rfl (fun K hK => ?_)
  refine yy (vs := dgC LF) rfl (by rfl) (by rfl) (q2.below hS) (by rw [yc, yc]) (by rw [yf, yc]) (z0d _) ?_; intro w9 ht9 b9
  refine hK _ _ ?_; clear hK K; try simp only [nrm]
  refine WpT.done (by kernel_rfl) ?_ _
  go_wp2_with fail; exact z04 rfl rfl rfl b9 yn (by rw [yf, yc]) ⟨rfl, (yb hb0 hS).trans (ht9.below _ (by omega))⟩
 ·go_simp; refine (HBY.out _).mono ?_; rintro e w6 ⟨rfl, hb6⟩; (try replace r4 := r4.below hb6); replace hS := yb hS hb6
  refine hK _ _ hS ?_; clear hK K; try simp only [nrm]
  refine WpT.on 16 rfl (fun K hK => ?_)
  refine yx rfl yo (by kernel_rfl) (by rfl) r4 ?_
  refine hK _ _ hS ?_; clear hK K; try simp only [nrm]
  refine WpT.tl 20 rfl (zgk (by rfl) rfl (by rfl) (by rfl) hls hsm (fun W => by rfl)) hS ?_
  simp only [nrm]
  refine WpT.on 21 rfl (fun K hK => ?_)
  go_simp; refine (HLF.out _ (yb hb0 hS)).mono ?_; rintro e w5 ⟨rfl, hb5⟩; replace hS := yb hS hb5
  refine hK _ _ hS ?_; clear hK K; try simp only [nrm]
  refine WpT.ta 22 rfl (fun K hK => ?_)
  refine yy (vs := dgC LF) rfl (by rfl) (by rfl) (q2.below hS) (by rw [yc, yc]) (by rw [yf, yc]) (z0d _) ?_; intro w9 ht9 b9
  refine hK _ _ ?_; clear hK K; try simp only [nrm]
  refine WpT.done (by kernel_rfl) ?_ _
  go_wp2_with fail; exact z04 rfl rfl rfl b9 yn (by rw [yf, yc]) ⟨rfl, (yb hb0 hS).trans (ht9.below _ (by omega))⟩
theorem zkv (r : EvR) (w : World) (h : z1b w r) (hw : z0t r.e) (hf : z10 r.e) :
  Calls Tryz.prog 54 #[evV r] w (z7k (z3q r.e) w) := by
 obtain ⟨wa, hwa, hb0, q1⟩ := zaz w r
 have HWA := ya hwa
 clear hwa
 obtain ⟨⟨k0, k1, k2, k3, k4, k5, k6, vec, attrs, nonce⟩, vA, vn, vc, aA, an, ac⟩ := r
 obtain ⟨hvl, hvr, hvc, hvm, har, hac, ham, hno⟩ := h
 obtain ⟨wv, wat, -⟩ := hw
 obtain ⟨fv, fa, ft⟩ := hf
 dsimp only at hvl hvr hvc hvm har hac ham hno wv wat fv fa ft ⊢
 have hal := har.len
 have hcells := z2r q1
 have c7 : wa.cell? ⟨w.heap.size, 7, none⟩ = some (.slice vA vn vc) := hcells 7
 have c8 : wa.cell? ⟨w.heap.size, 8, none⟩ = some (.slice aA an ac) := hcells 8
 have HE := ya (fun W (h : Below w.heap.size w W) => zsq vA vn vc vec W (hvr.below h) (by omega) wv)
 have HNF : Hid (z1z (z20 attrs)) := ya (fun x hx => by
  obtain ⟨a, ha, hx⟩ := List.mem_flatMap.1 hx
  have := wat a ha
  simp only [List.mem_cons, List.not_mem_nil, or_false] at hx
  rcases hx with rfl | rfl
  ·exact this.1
  ·exact this.2)
 have HTF : Hid (∀ s ∈ z1n attrs, s.size ≤ 65536) := ya (fun x hx => by
  obtain ⟨a, ha, hx⟩ := List.mem_flatMap.1 hx
  have := ft a ha
  simp only [List.mem_cons, List.not_mem_nil, or_false] at hx
  rcases hx with rfl | rfl <;> omega)
 have hnl := zb9 attrs
 have htl := zbq attrs
 have HIN := ya (fun A n c W (hr : Rd W A n (iv (z20 attrs))) (hn : n ≤ 1000) => zdf A n c (z20 attrs) W hr hn HNF.out)
 have HST := ya (fun A n c W (hr : Rd W A n (sv (z1n attrs))) (hn : n ≤ 1000) => zta A n c (z1n attrs) W hr hn HTF.out)
 have HLN : Hid (∀ i, (z20 (attrs.take i)).length ≤ 40 ∧ (z1n (attrs.take i)).length ≤ 40) := ya (fun i => by rw [zb9, zbq, List.length_take]; omega)
 have HNX := ya (zjk attrs)
 have HTX := ya (zlz attrs)
 have H0 : Hid (z20 (attrs.take 0) = [] ∧ z1n (attrs.take 0) = []) := ya ⟨rfl, rfl⟩
 have HEND : Hid (z20 (attrs.take an) = z20 attrs ∧ z1n (attrs.take an) = z1n attrs) := ya (by rw [List.take_of_length_le (by omega)]; exact ⟨rfl, rfl⟩)
 have HAL := ya hal
 have HAR := ya (fun W (h : Below w.heap.size w W) => har.below h)
 have han : an ≤ 20 := by omega
 unfold z3q
 dsimp only
 have harA := har.below hb0
 clear hvr har hvl hal wv wat fv fa ft hnl htl hno hcells
 generalize z1j vec = EV at *
 generalize z1j (z20 attrs) = EN at *
 generalize z4x (z1n attrs) = ET at *
 unfold z7k
 go_enter Tryz.func54, Tryz.ntmps54
 go_upto_region 1 with fail
 change Code.wp _ _ _ _ (w.alloc (.cells (evC ⟨⟨k0, k1, k2, k3, k4, k5, k6, vec, attrs, nonce⟩, vA, vn, vc, aA, an, ac⟩) 27))
 rw [← HWA.out]
 have HC8 := ya (fun W (h : Below wa.heap.size wa W) => cell_later h c8)
 have HC7 := ya (fun W (h : Below wa.heap.size wa W) => cell_later h c7)
 go_wp2_with fail
 go_loopw [3, 4, 5] (fun v3 v4 v5 wr => ∃ i : Nat, v5 = .int .i64 (i : Int) ∧ i ≤ an ∧ Own wr wa.heap.size 3 v3 (iv (z20 (attrs.take i))) ∧ Own wr wa.heap.size 9 v4 (sv (z1n (attrs.take i))) ∧ Below wa.heap.size wa wr) (fun _ _ v5 _ => an - (intOf v5).toNat)
 case atStart => exact ⟨0, rfl, Nat.zero_le _, by rw [H0.out.1]; exact Own.nil _ _ _, by rw [H0.out.2]; exact Own.nil _ _ _, Below.refl _ _⟩
 case round =>
  obtain ⟨i, rfl, hi, o3, o4, hbl⟩ := hrel
  have c8w := HC8.out _ hbl
  by_cases hin : i < an
  ·have dj : decide ((i : Int) < (an : Int)) = true := by rw [decide_eq_true_eq]; omega
   have hix : 0 ≤ (i : Int) ∧ (i : Int) < (an : Int) := by omega
   have hil : i < attrs.length := by rw [HAL.out]; exact hin
   have HNI := ya (HNX.out i hil)
   have HTI := ya (HTX.out i hil)
   obtain ⟨ad, hA, hce⟩ := harA.elem hil
   have hl40 := HLN.out i
   generalize attrs[i] = a at *
   have e0 : wa.cell? (ad.add (i * 4)) = some (.string a.name) := by have h := hce 0 _ rfl; rw [show (ad.add (i * 4)).add 0 = ad.add (i * 4) by unfold Addr.add; (repeat' split) <;> simp_all] at h; exact h
   have e1 : wa.cell? ((ad.add (i * 4)).add 1) = some (.int .i64 a.kind) := hce 1 _ rfl
   have e2 : wa.cell? ((ad.add (i * 4)).add 2) = some (.int .i64 a.n) := hce 2 _ rfl
   have e3 : wa.cell? ((ad.add (i * 4)).add 3) = some (.string a.s) := hce 3 _ rfl
   subst hA
   clear hil hce
   go_upto_region 6 with fail
   have hd : Below wr.heap.size wr wr.drew := (Below.refl _ _).drew
   have hB : Below wa.heap.size wa wr.drew := hbl.drew
   replace o3 := Own.below o3 hd
   replace o4 := Own.below o4 hd
   clear hbl c8w hd
   refine zc1 (S := Below (wa).heap.size (wa)) 15 (by kernel_rfl) ?_
   refine WpT.tk 0 hB ?_
   simp only [nrm]
   refine WpT.tk 1 hB ?_
   simp only [nrm]
   refine WpT.tl 2 rfl (yg rfl rfl rfl (by kernel_rfl) c8) hB ?_
   simp only [nrm]
   refine WpT.tk 3 hB ?_
   simp only [nrm]
   refine WpT.tk 4 hB ?_
   simp only [nrm]
   refine WpT.tk 5 hB ?_
   simp only [nrm]
   refine WpT.tl 6 rfl (yg rfl rfl rfl (by kernel_rfl) e1) hB ?_
   simp only [nrm]
   refine WpT.tk 7 hB ?_
   simp only [nrm]
   refine WpT.tl 8 rfl (yg rfl rfl rfl (by kernel_rfl) c8) hB ?_
   simp only [nrm]
   refine WpT.tk 9 hB ?_
   simp only [nrm]
   refine WpT.tk 10 hB ?_
   simp only [nrm]
   refine WpT.tk 11 hB ?_
   simp only [nrm]
   refine WpT.tl 12 rfl (yg rfl rfl rfl (by kernel_rfl) e2) hB ?_
   simp only [nrm]
   refine WpT.on 13 rfl (fun K hK => ?_)
   refine zdx (p := a.kind) (q := a.n) rfl (by rfl) (by rfl) ?_; intro w5 g5 q5 hb5; replace o3 := Own.below o3 hb5; replace o4 := Own.below o4 hb5; replace hB := yb hB hb5
   refine hK _ _ hB ?_; clear hK K; try simp only [nrm]
   refine WpT.on 14 rfl (fun K hK => ?_)
   refine z7b rfl zcg (by rfl) o3 (by rfl) (zbk q5) (by intro u hu; simp [iv] at hu; rcases hu with rfl | rfl <;> rfl) (by rw [z9l]; omega) hB.size ?_; intro v3' wx o3' hgx hbx _; have o4x : Own wx wa.heap.size 9 u4 (sv (z1n (attrs.take i))) := z7r o3 hgx o4 (by decide); replace hB := hB.trans hbx
   refine hK _ _ hB ?_; clear hK K; try simp only [nrm]
   refine WpT.ta 15 rfl (fun K hK => ?_)
   go_simp; (try go_bits)
   refine hK _ _ ?_; clear hK K; try simp only [nrm]
   refine WpT.done (by kernel_rfl) ?_ _
   skip
   clear o3 o4 q5 hgx hbx hb5
   go_upto_region 7 with fail
   have hd : Below wx.heap.size wx wx.drew := (Below.refl _ _).drew
   replace o3' := Own.below o3' hd
   replace o4x := Own.below o4x hd
   replace hB : Below wa.heap.size wa wx.drew := hB.drew
   clear hd
   refine zc1 (S := Below (wa).heap.size (wa)) 15 (by kernel_rfl) ?_
   refine WpT.tk 0 hB ?_
   simp only [nrm]
   refine WpT.tk 1 hB ?_
   simp only [nrm]
   refine WpT.tl 2 rfl (yg rfl rfl rfl (by kernel_rfl) c8) hB ?_
   simp only [nrm]
   refine WpT.tk 3 hB ?_
   simp only [nrm]
   refine WpT.tk 4 hB ?_
   simp only [nrm]
   refine WpT.tk 5 hB ?_
   simp only [nrm]
   refine WpT.tl 6 rfl (yg rfl rfl rfl (by kernel_rfl) e0) hB ?_
   simp only [nrm]
   refine WpT.tk 7 hB ?_
   simp only [nrm]
   refine WpT.tl 8 rfl (yg rfl rfl rfl (by kernel_rfl) c8) hB ?_
   simp only [nrm]
   refine WpT.tk 9 hB ?_
   simp only [nrm]
   refine WpT.tk 10 hB ?_
   simp only [nrm]
   refine WpT.tk 11 hB ?_
   simp only [nrm]
   refine WpT.tl 12 rfl (yg rfl rfl rfl (by kernel_rfl) e3) hB ?_
   simp only [nrm]
   refine WpT.on 13 rfl (fun K hK => ?_)
   refine zdy (s := a.name) (t := a.s) rfl (by rfl) (by rfl) ?_; intro w7 g7 q7 hb7; replace o3' := Own.below o3' hb7; replace o4x := Own.below o4x hb7; replace hB := yb hB hb7
   refine hK _ _ hB ?_; clear hK K; try simp only [nrm]
   refine WpT.on 14 rfl (fun K hK => ?_)
   refine z7b rfl z7p (by rfl) o4x (by rfl) (zdc q7) (by intro u hu; simp [sv] at hu; rcases hu with rfl | rfl <;> rfl) (by rw [z4m]; omega) hB.size ?_; intro v4' wy o4' hgy hby _; have o3y : Own wy wa.heap.size 3 v3' (iv (z20 (attrs.take i)) ++ iv [a.kind, a.n]) := z7r o4x hgy o3' (by decide); replace hB := hB.trans hby
   refine hK _ _ hB ?_; clear hK K; try simp only [nrm]
   refine WpT.ta 15 rfl (fun K hK => ?_)
   go_simp; (try go_bits)
   refine hK _ _ ?_; clear hK K; try simp only [nrm]
   refine WpT.done (by kernel_rfl) ?_ _
   skip
   go_wp2_with fail
   exact ⟨⟨i + 1, by go_num, by omega, by rw [HNI.out]; unfold iv at o3y ⊢; rw [List.map_append]; exact o3y, by rw [HTI.out]; unfold sv at o4' ⊢; rw [List.map_append]; exact o4', hB⟩, by simp [intOf]; omega⟩
  ·have dj : decide ((i : Int) < (an : Int)) = false := by rw [decide_eq_false_iff_not]; omega
   obtain rfl : an = i := by omega
   rw [HEND.out.1] at o3
   rw [HEND.out.2] at o4
   obtain ⟨A3, n3, c3, rfl, hn3, -, -, r3⟩ := o3.formN
   obtain ⟨A4, n4, c4, rfl, hn4, -, -, r4⟩ := o4.formN
   have hn3' : n3 ≤ 1000 := by have := hn3.out; rw [z9l] at this; have := HLN.out an; rw [HEND.out.1] at this; omega
   have hn4' : n4 ≤ 1000 := by have := hn4.out; rw [z4m] at this; have := HLN.out an; rw [HEND.out.2] at this; omega
   clear o3 o4 hn3 hn4
   have c7' : wr.cell? ⟨w.heap.size, 7, none⟩ = some (.slice vA vn vc) := HC7.out _ hbl
   have HR3 := ya (fun W (h : Below wr.heap.size wr W) => HIN.out A3 n3 c3 W (r3.below h) hn3')
   have HR4 := ya (fun W (h : Below wr.heap.size wr W) => HST.out A4 n4 c4 W (r4.below h) hn4')
   replace hb0 := yb hb0 hbl
   clear c7 c8 hbl r3 r4 q1 harA
   have hS : Below wr.heap.size wr wr.drew := (Below.refl _ _).drew
   go_upto_region 8 with fail
   refine yw 11 (by kernel_rfl) ?_
   refine WpT.tk 0 hS ?_
   simp only [nrm]
   refine WpT.tl 1 rfl (yg rfl rfl rfl (by kernel_rfl) c7') hS ?_
   simp only [nrm]
   refine WpT.tk 4 hS ?_
   simp only [nrm]
   refine WpT.tk 7 hS ?_
   simp only [nrm]
   refine WpT.on 2 rfl (fun K hK => ?_)
   go_simp; refine (HE.out _ (yb hb0 hS)).mono ?_; rintro e w2 ⟨v2, rfl, o2, hb2⟩; obtain ⟨A2, n2, c2, rfl, -, -, -, r2⟩ := o2.formN; clear o2; replace hS := yb hS hb2
   refine hK _ _ hS ?_; clear hK K; try simp only [nrm]
   refine WpT.fork (i := 3) (j := 5) rfl rfl (by kernel_rfl) (fun K hK => ?_) (fun K hK => ?_)
   ·refine yx rfl yo (by kernel_rfl) (by rfl) r2 ?_
    refine hK _ _ hS ?_; clear hK K; try simp only [nrm]
    refine WpT.on 5 rfl (fun K hK => ?_)
    go_simp; refine (HR3.out _ hS).mono ?_; rintro e w5 ⟨v5, rfl, o5, hb5⟩; obtain ⟨A5, n5, c5, rfl, -, -, -, r5⟩ := o5.formN; clear o5; (try replace r2 := r2.below hb5); replace hS := yb hS hb5
    refine hK _ _ hS ?_; clear hK K; try simp only [nrm]
    refine WpT.fork (i := 6) (j := 8) rfl rfl (by kernel_rfl) (fun K hK => ?_) (fun K hK => ?_)
    ·refine yx rfl yo (by kernel_rfl) (by rfl) r5 ?_
     refine hK _ _ hS ?_; clear hK K; try simp only [nrm]
     refine WpT.on 8 rfl (fun K hK => ?_)
     go_simp; refine (HR4.out _ hS).mono ?_; rintro e w8 ⟨v8, rfl, o8, hb8⟩; obtain ⟨A8, n8, c8, rfl, -, -, -, r8⟩ := o8.formN; clear o8; (try replace r2 := r2.below hb8); (try replace r5 := r5.below hb8); replace hS := yb hS hb8
     refine hK _ _ hS ?_; clear hK K; try simp only [nrm]
     refine WpT.on 9 rfl (fun K hK => ?_)
     refine yx rfl yo (by kernel_rfl) (by rfl) r8 ?_
     refine hK _ _ hS ?_; clear hK K; try simp only [nrm]
     refine WpT.on 10 rfl (fun K hK => ?_)
     refine z22 rfl (by rfl) (by rfl) (by rfl) ?_; intro w9 g9 o9 hb9; have o9' := Own.lower o9 hS.size; replace hS := yb hS hb9
     refine hK _ _ hS ?_; clear hK K; try simp only [nrm]
     refine WpT.ta 11 rfl (fun K hK => ?_)
     go_simp; (try go_bits)
     refine hK _ _ ?_; clear hK K; try simp only [nrm]
     refine WpT.done (by kernel_rfl) ?_ _
     go_wp2_with fail; go_ret; exact ⟨_, rfl, Own.lower o9' hb0.size, yb hb0 hS⟩
    ·go_simp; refine (HR4.out _ hS).mono ?_; rintro e w8 ⟨v8, rfl, o8, hb8⟩; obtain ⟨A8, n8, c8, rfl, -, -, -, r8⟩ := o8.formN; clear o8; (try replace r2 := r2.below hb8); (try replace r5 := r5.below hb8); replace hS := yb hS hb8
     refine hK _ _ hS ?_; clear hK K; try simp only [nrm]
     refine WpT.fork (i := 6) (j := 9) rfl rfl (by kernel_rfl) (fun K hK => ?_) (fun K hK => ?_)
     ·refine yx rfl yo (by kernel_rfl) (by rfl) r5 ?_
      refine hK _ _ hS ?_; clear hK K; try simp only [nrm]
      refine WpT.on 9 rfl (fun K hK => ?_)
      refine yx rfl yo (by kernel_rfl) (by rfl) r8 ?_
      refine hK _ _ hS ?_; clear hK K; try simp only [nrm]
      refine WpT.on 10 rfl (fun K hK => ?_)
      refine z22 rfl (by rfl) (by rfl) (by rfl) ?_; intro w9 g9 o9 hb9; have o9' := Own.lower o9 hS.size; replace hS := yb hS hb9
      refine hK _ _ hS ?_; clear hK K; try simp only [nrm]
      refine WpT.ta 11 rfl (fun K hK => ?_)
      go_simp; (try go_bits)
      refine hK _ _ ?_; clear hK K; try simp only [nrm]
      refine WpT.done (by kernel_rfl) ?_ _
      go_wp2_with fail; go_ret; exact ⟨_, rfl, Own.lower o9' hb0.size, yb hb0 hS⟩
     ·refine yx rfl yo (by kernel_rfl) (by rfl) r8 ?_
      refine hK _ _ hS ?_; clear hK K; try simp only [nrm]
      refine WpT.on 6 rfl (fun K hK => ?_)
      refine yx rfl yo (by kernel_rfl) (by rfl) r5 ?_
      refine hK _ _ hS ?_; clear hK K; try simp only [nrm]
      refine WpT.on 10 rfl (fun K hK => ?_)
      refine z22 rfl (by rfl) (by rfl) (by rfl) ?_; intro w9 g9 o9 hb9; have o9' := Own.lower o9 hS.size; replace hS := yb hS hb9
      refine hK _ _ hS ?_; clear hK K; try simp only [nrm]
      refine WpT.ta 11 rfl (fun K hK => ?_)
      go_simp; (try go_bits)
      refine hK _ _ ?_; clear hK K; try simp only [nrm]
      refine WpT.done (by kernel_rfl) ?_ _
      go_wp2_with fail; go_ret; exact ⟨_, rfl, Own.lower o9' hb0.size, yb hb0 hS⟩
   ·go_simp; refine (HR3.out _ hS).mono ?_; rintro e w5 ⟨v5, rfl, o5, hb5⟩; obtain ⟨A5, n5, c5, rfl, -, -, -, r5⟩ := o5.formN; clear o5; (try replace r2 := r2.below hb5); replace hS := yb hS hb5
    refine hK _ _ hS ?_; clear hK K; try simp only [nrm]
    refine WpT.fork3 (i := 3) (j := 6) (k := 8) rfl rfl rfl (by kernel_rfl) (fun K hK => ?_) (fun K hK => ?_) (fun K hK => ?_)
    ·refine yx rfl yo (by kernel_rfl) (by rfl) r2 ?_
     refine hK _ _ hS ?_; clear hK K; try simp only [nrm]
     refine WpT.fork (i := 6) (j := 8) rfl rfl (by kernel_rfl) (fun K hK => ?_) (fun K hK => ?_)
     ·refine yx rfl yo (by kernel_rfl) (by rfl) r5 ?_
      refine hK _ _ hS ?_; clear hK K; try simp only [nrm]
      refine WpT.on 8 rfl (fun K hK => ?_)
      go_simp; refine (HR4.out _ hS).mono ?_; rintro e w8 ⟨v8, rfl, o8, hb8⟩; obtain ⟨A8, n8, c8, rfl, -, -, -, r8⟩ := o8.formN; clear o8; (try replace r2 := r2.below hb8); (try replace r5 := r5.below hb8); replace hS := yb hS hb8
      refine hK _ _ hS ?_; clear hK K; try simp only [nrm]
      refine WpT.on 9 rfl (fun K hK => ?_)
      refine yx rfl yo (by kernel_rfl) (by rfl) r8 ?_
      refine hK _ _ hS ?_; clear hK K; try simp only [nrm]
      refine WpT.on 10 rfl (fun K hK => ?_)
      refine z22 rfl (by rfl) (by rfl) (by rfl) ?_; intro w9 g9 o9 hb9; have o9' := Own.lower o9 hS.size; replace hS := yb hS hb9
      refine hK _ _ hS ?_; clear hK K; try simp only [nrm]
      refine WpT.ta 11 rfl (fun K hK => ?_)
      go_simp; (try go_bits)
      refine hK _ _ ?_; clear hK K; try simp only [nrm]
      refine WpT.done (by kernel_rfl) ?_ _
      go_wp2_with fail; go_ret; exact ⟨_, rfl, Own.lower o9' hb0.size, yb hb0 hS⟩
     ·go_simp; refine (HR4.out _ hS).mono ?_; rintro e w8 ⟨v8, rfl, o8, hb8⟩; obtain ⟨A8, n8, c8, rfl, -, -, -, r8⟩ := o8.formN; clear o8; (try replace r2 := r2.below hb8); (try replace r5 := r5.below hb8); replace hS := yb hS hb8
      refine hK _ _ hS ?_; clear hK K; try simp only [nrm]
      refine WpT.fork (i := 6) (j := 9) rfl rfl (by kernel_rfl) (fun K hK => ?_) (fun K hK => ?_)
      ·refine yx rfl yo (by kernel_rfl) (by rfl) r5 ?_
       refine hK _ _ hS ?_; clear hK K; try simp only [nrm]
       refine WpT.on 9 rfl (fun K hK => ?_)
       refine yx rfl yo (by kernel_rfl) (by rfl) r8 ?_
       refine hK _ _ hS ?_; clear hK K; try simp only [nrm]
       refine WpT.on 10 rfl (fun K hK => ?_)
       refine z22 rfl (by rfl) (by rfl) (by rfl) ?_; intro w9 g9 o9 hb9; have o9' := Own.lower o9 hS.size; replace hS := yb hS hb9
       refine hK _ _ hS ?_; clear hK K; try simp only [nrm]
       refine WpT.ta 11 rfl (fun K hK => ?_)
       go_simp; (try go_bits)
       refine hK _ _ ?_; clear hK K; try simp only [nrm]
       refine WpT.done (by kernel_rfl) ?_ _
       go_wp2_with fail; go_ret; exact ⟨_, rfl, Own.lower o9' hb0.size, yb hb0 hS⟩
      ·refine yx rfl yo (by kernel_rfl) (by rfl) r8 ?_
       refine hK _ _ hS ?_; clear hK K; try simp only [nrm]
       refine WpT.on 6 rfl (fun K hK => ?_)
       refine yx rfl yo (by kernel_rfl) (by rfl) r5 ?_
       refine hK _ _ hS ?_; clear hK K; try simp only [nrm]
       refine WpT.on 10 rfl (fun K hK => ?_)
       refine z22 rfl (by rfl) (by rfl) (by rfl) ?_; intro w9 g9 o9 hb9; have o9' := Own.lower o9 hS.size; replace hS := yb hS hb9
       refine hK _ _ hS ?_; clear hK K; try simp only [nrm]
       refine WpT.ta 11 rfl (fun K hK => ?_)
       go_simp; (try go_bits)
       refine hK _ _ ?_; clear hK K; try simp only [nrm]
       refine WpT.done (by kernel_rfl) ?_ _
       go_wp2_with fail; go_ret; exact ⟨_, rfl, Own.lower o9' hb0.size, yb hb0 hS⟩
    ·refine yx rfl yo (by kernel_rfl) (by rfl) r5 ?_
     refine hK _ _ hS ?_; clear hK K; try simp only [nrm]
     refine WpT.fork (i := 3) (j := 8) rfl rfl (by kernel_rfl) (fun K hK => ?_) (fun K hK => ?_)
     ·refine yx rfl yo (by kernel_rfl) (by rfl) r2 ?_
      refine hK _ _ hS ?_; clear hK K; try simp only [nrm]
      refine WpT.on 8 rfl (fun K hK => ?_)
      go_simp; refine (HR4.out _ hS).mono ?_; rintro e w8 ⟨v8, rfl, o8, hb8⟩; obtain ⟨A8, n8, c8, rfl, -, -, -, r8⟩ := o8.formN; clear o8; (try replace r2 := r2.below hb8); (try replace r5 := r5.below hb8); replace hS := yb hS hb8
      refine hK _ _ hS ?_; clear hK K; try simp only [nrm]
      refine WpT.on 9 rfl (fun K hK => ?_)
      refine yx rfl yo (by kernel_rfl) (by rfl) r8 ?_
      refine hK _ _ hS ?_; clear hK K; try simp only [nrm]
      refine WpT.on 10 rfl (fun K hK => ?_)
      refine z22 rfl (by rfl) (by rfl) (by rfl) ?_; intro w9 g9 o9 hb9; have o9' := Own.lower o9 hS.size; replace hS := yb hS hb9
      refine hK _ _ hS ?_; clear hK K; try simp only [nrm]
      refine WpT.ta 11 rfl (fun K hK => ?_)
      go_simp; (try go_bits)
      refine hK _ _ ?_; clear hK K; try simp only [nrm]
      refine WpT.done (by kernel_rfl) ?_ _
      go_wp2_with fail; go_ret; exact ⟨_, rfl, Own.lower o9' hb0.size, yb hb0 hS⟩
     ·go_simp; refine (HR4.out _ hS).mono ?_; rintro e w8 ⟨v8, rfl, o8, hb8⟩; obtain ⟨A8, n8, c8, rfl, -, -, -, r8⟩ := o8.formN; clear o8; (try replace r2 := r2.below hb8); (try replace r5 := r5.below hb8); replace hS := yb hS hb8
      refine hK _ _ hS ?_; clear hK K; try simp only [nrm]
      refine WpT.fork (i := 3) (j := 9) rfl rfl (by kernel_rfl) (fun K hK => ?_) (fun K hK => ?_)
      ·refine yx rfl yo (by kernel_rfl) (by rfl) r2 ?_
       refine hK _ _ hS ?_; clear hK K; try simp only [nrm]
       refine WpT.on 9 rfl (fun K hK => ?_)
       refine yx rfl yo (by kernel_rfl) (by rfl) r8 ?_
       refine hK _ _ hS ?_; clear hK K; try simp only [nrm]
       refine WpT.on 10 rfl (fun K hK => ?_)
       refine z22 rfl (by rfl) (by rfl) (by rfl) ?_; intro w9 g9 o9 hb9; have o9' := Own.lower o9 hS.size; replace hS := yb hS hb9
       refine hK _ _ hS ?_; clear hK K; try simp only [nrm]
       refine WpT.ta 11 rfl (fun K hK => ?_)
       go_simp; (try go_bits)
       refine hK _ _ ?_; clear hK K; try simp only [nrm]
       refine WpT.done (by kernel_rfl) ?_ _
       go_wp2_with fail; go_ret; exact ⟨_, rfl, Own.lower o9' hb0.size, yb hb0 hS⟩
      ·refine yx rfl yo (by kernel_rfl) (by rfl) r8 ?_
       refine hK _ _ hS ?_; clear hK K; try simp only [nrm]
       refine WpT.on 3 rfl (fun K hK => ?_)
       refine yx rfl yo (by kernel_rfl) (by rfl) r2 ?_
       refine hK _ _ hS ?_; clear hK K; try simp only [nrm]
       refine WpT.on 10 rfl (fun K hK => ?_)
       refine z22 rfl (by rfl) (by rfl) (by rfl) ?_; intro w9 g9 o9 hb9; have o9' := Own.lower o9 hS.size; replace hS := yb hS hb9
       refine hK _ _ hS ?_; clear hK K; try simp only [nrm]
       refine WpT.ta 11 rfl (fun K hK => ?_)
       go_simp; (try go_bits)
       refine hK _ _ ?_; clear hK K; try simp only [nrm]
       refine WpT.done (by kernel_rfl) ?_ _
       go_wp2_with fail; go_ret; exact ⟨_, rfl, Own.lower o9' hb0.size, yb hb0 hS⟩
    ·go_simp; refine (HR4.out _ hS).mono ?_; rintro e w8 ⟨v8, rfl, o8, hb8⟩; obtain ⟨A8, n8, c8, rfl, -, -, -, r8⟩ := o8.formN; clear o8; (try replace r2 := r2.below hb8); (try replace r5 := r5.below hb8); replace hS := yb hS hb8
     refine hK _ _ hS ?_; clear hK K; try simp only [nrm]
     refine WpT.fork3 (i := 3) (j := 6) (k := 9) rfl rfl rfl (by kernel_rfl) (fun K hK => ?_) (fun K hK => ?_) (fun K hK => ?_)
     ·refine yx rfl yo (by kernel_rfl) (by rfl) r2 ?_
      refine hK _ _ hS ?_; clear hK K; try simp only [nrm]
      refine WpT.fork (i := 6) (j := 9) rfl rfl (by kernel_rfl) (fun K hK => ?_) (fun K hK => ?_)
      ·refine yx rfl yo (by kernel_rfl) (by rfl) r5 ?_
       refine hK _ _ hS ?_; clear hK K; try simp only [nrm]
       refine WpT.on 9 rfl (fun K hK => ?_)
       refine yx rfl yo (by kernel_rfl) (by rfl) r8 ?_
       refine hK _ _ hS ?_; clear hK K; try simp only [nrm]
       refine WpT.on 10 rfl (fun K hK => ?_)
       refine z22 rfl (by rfl) (by rfl) (by rfl) ?_; intro w9 g9 o9 hb9; have o9' := Own.lower o9 hS.size; replace hS := yb hS hb9
       refine hK _ _ hS ?_; clear hK K; try simp only [nrm]
       refine WpT.ta 11 rfl (fun K hK => ?_)
       go_simp; (try go_bits)
       refine hK _ _ ?_; clear hK K; try simp only [nrm]
       refine WpT.done (by kernel_rfl) ?_ _
       go_wp2_with fail; go_ret; exact ⟨_, rfl, Own.lower o9' hb0.size, yb hb0 hS⟩
      ·refine yx rfl yo (by kernel_rfl) (by rfl) r8 ?_
       refine hK _ _ hS ?_; clear hK K; try simp only [nrm]
       refine WpT.on 6 rfl (fun K hK => ?_)
       refine yx rfl yo (by kernel_rfl) (by rfl) r5 ?_
       refine hK _ _ hS ?_; clear hK K; try simp only [nrm]
       refine WpT.on 10 rfl (fun K hK => ?_)
       refine z22 rfl (by rfl) (by rfl) (by rfl) ?_; intro w9 g9 o9 hb9; have o9' := Own.lower o9 hS.size; replace hS := yb hS hb9
       refine hK _ _ hS ?_; clear hK K; try simp only [nrm]
       refine WpT.ta 11 rfl (fun K hK => ?_)
       go_simp; (try go_bits)
       refine hK _ _ ?_; clear hK K; try simp only [nrm]
       refine WpT.done (by kernel_rfl) ?_ _
       go_wp2_with fail; go_ret; exact ⟨_, rfl, Own.lower o9' hb0.size, yb hb0 hS⟩
     ·refine yx rfl yo (by kernel_rfl) (by rfl) r5 ?_
      refine hK _ _ hS ?_; clear hK K; try simp only [nrm]
      refine WpT.fork (i := 3) (j := 9) rfl rfl (by kernel_rfl) (fun K hK => ?_) (fun K hK => ?_)
      ·refine yx rfl yo (by kernel_rfl) (by rfl) r2 ?_
       refine hK _ _ hS ?_; clear hK K; try simp only [nrm]
       refine WpT.on 9 rfl (fun K hK => ?_)
       refine yx rfl yo (by kernel_rfl) (by rfl) r8 ?_
       refine hK _ _ hS ?_; clear hK K; try simp only [nrm]
       refine WpT.on 10 rfl (fun K hK => ?_)
       refine z22 rfl (by rfl) (by rfl) (by rfl) ?_; intro w9 g9 o9 hb9; have o9' := Own.lower o9 hS.size; replace hS := yb hS hb9
       refine hK _ _ hS ?_; clear hK K; try simp only [nrm]
       refine WpT.ta 11 rfl (fun K hK => ?_)
       go_simp; (try go_bits)
       refine hK _ _ ?_; clear hK K; try simp only [nrm]
       refine WpT.done (by kernel_rfl) ?_ _
       go_wp2_with fail; go_ret; exact ⟨_, rfl, Own.lower o9' hb0.size, yb hb0 hS⟩
      ·refine yx rfl yo (by kernel_rfl) (by rfl) r8 ?_
       refine hK _ _ hS ?_; clear hK K; try simp only [nrm]
       refine WpT.on 3 rfl (fun K hK => ?_)
       refine yx rfl yo (by kernel_rfl) (by rfl) r2 ?_
       refine hK _ _ hS ?_; clear hK K; try simp only [nrm]
       refine WpT.on 10 rfl (fun K hK => ?_)
       refine z22 rfl (by rfl) (by rfl) (by rfl) ?_; intro w9 g9 o9 hb9; have o9' := Own.lower o9 hS.size; replace hS := yb hS hb9
       refine hK _ _ hS ?_; clear hK K; try simp only [nrm]
       refine WpT.ta 11 rfl (fun K hK => ?_)
       go_simp; (try go_bits)
       refine hK _ _ ?_; clear hK K; try simp only [nrm]
       refine WpT.done (by kernel_rfl) ?_ _
       go_wp2_with fail; go_ret; exact ⟨_, rfl, Own.lower o9' hb0.size, yb hb0 hS⟩
     ·refine yx rfl yo (by kernel_rfl) (by rfl) r8 ?_
      refine hK _ _ hS ?_; clear hK K; try simp only [nrm]
      refine WpT.fork (i := 3) (j := 6) rfl rfl (by kernel_rfl) (fun K hK => ?_) (fun K hK => ?_)
      ·refine yx rfl yo (by kernel_rfl) (by rfl) r2 ?_
       refine hK _ _ hS ?_; clear hK K; try simp only [nrm]
       refine WpT.on 6 rfl (fun K hK => ?_)
       refine yx rfl yo (by kernel_rfl) (by rfl) r5 ?_
       refine hK _ _ hS ?_; clear hK K; try simp only [nrm]
       refine WpT.on 10 rfl (fun K hK => ?_)
       refine z22 rfl (by rfl) (by rfl) (by rfl) ?_; intro w9 g9 o9 hb9; have o9' := Own.lower o9 hS.size; replace hS := yb hS hb9
       refine hK _ _ hS ?_; clear hK K; try simp only [nrm]
       refine WpT.ta 11 rfl (fun K hK => ?_)
       go_simp; (try go_bits)
       refine hK _ _ ?_; clear hK K; try simp only [nrm]
       refine WpT.done (by kernel_rfl) ?_ _
       go_wp2_with fail; go_ret; exact ⟨_, rfl, Own.lower o9' hb0.size, yb hb0 hS⟩
      ·refine yx rfl yo (by kernel_rfl) (by rfl) r5 ?_
       refine hK _ _ hS ?_; clear hK K; try simp only [nrm]
       refine WpT.on 3 rfl (fun K hK => ?_)
       refine yx rfl yo (by kernel_rfl) (by rfl) r2 ?_
       refine hK _ _ hS ?_; clear hK K; try simp only [nrm]
       refine WpT.on 10 rfl (fun K hK => ?_)
       refine z22 rfl (by rfl) (by rfl) (by rfl) ?_; intro w9 g9 o9 hb9; have o9' := Own.lower o9 hS.size; replace hS := yb hS hb9
       refine hK _ _ hS ?_; clear hK K; try simp only [nrm]
       refine WpT.ta 11 rfl (fun K hK => ?_)
       go_simp; (try go_bits)
       refine hK _ _ ?_; clear hK K; try simp only [nrm]
       refine WpT.done (by kernel_rfl) ?_ _
       go_wp2_with fail; go_ret; exact ⟨_, rfl, Own.lower o9' hb0.size, yb hb0 hS⟩
end
end Go.Proofs.YtcapckngikekpaaGreatDoor
