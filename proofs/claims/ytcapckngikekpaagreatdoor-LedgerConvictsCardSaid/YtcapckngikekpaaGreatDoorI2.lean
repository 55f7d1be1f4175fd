/-
  Known of the functions of this seat's laws, joined. Conditions: each theorem's own.
-/
import Derived.Test.YtcapckngikekpaaGreatDoorI1
import Derived.Laws.IdiomCopy
import Derived.Lib.AppendStr
namespace Go.Proofs.YtcapckngikekpaaGreatDoor
set_option linter.unusedSimpArgs false
set_option linter.unusedVariables false
set_option maxRecDepth 100000
set_option maxHeartbeats 16000000
section
open Go.RowKit
section
variable {P : Program} {w : World}
theorem zu3 {dT sT ty e : TypeId} (hu : P.underlying dT = some (.slice e)) (hs : (P.info? e).map (·.size) = some 1) {g o dLen dCap : Nat} {s : ByteArray} {T : TypeId} {cs : Array Value}
  (hb : Blk w g T cs) (hfit : o + dLen ≤ cs.size) :
  (Builtin.copy_ #[dT, sT] ty #[.slice (some ⟨g, o, none⟩) dLen dCap, .string s]).run P w = .ok (goInt (Nat.min s.size dLen)) (w.setCells g o (bv (s.data.toList.take (Nat.min s.size dLen)))) := by
 have hl : (bv (s.data.toList.take (Nat.min s.size dLen))).length ≤ dLen := by
  have : Nat.min s.size dLen ≤ dLen := Nat.min_le_right _ _
  simp only [z0r, List.length_take]
  omega
 have hst := run_storeCells_cells (P := P) g o (bv (s.data.toList.take (Nat.min s.size dLen))) 0 w (fun j hj => by rw [hb.cell]; simp; omega) (fun j hj => hb.free _) (z9n _)
 simp only [Nat.add_zero] at hst
 cases hq : P.info? e with
 | none => simp [hq] at hs
 | some i =>
  have htk : List.take (Nat.min s.size dLen) (List.map (fun b : UInt8 => Value.int IntKind.u8 (b.toNat : Int)) s.data.toList) = bv (s.data.toList.take (Nat.min s.size dLen)) := by
   rw [bv, List.map_take]
  simp [Builtin.copy_, run_underlying hu, Builtin.lenOf, Builtin.firstCells, sizeOf, typeInfo, hq]
  first | (rw [htk, hst]) | (simp only [htk, hst])
  simp [Result.andThen]
theorem zx2 {o : Oper} {a : Act} {K : Act → World → Prop} {Q : Exit → Act → World → Prop} {d x : Operand} {dT sT e : TypeId}
  (ho : o.op = .call { callee := .builtin .copy, args := #[d, x], argTypes := #[dT, sT] }) (hu : P.underlying dT = some (.slice e)) (hs : (P.info? e).map (·.size) = some 1)
  {g f dLen dCap : Nat} {s : ByteArray} {T : TypeId} {cs : Array Value} (hd : a.eval d = .slice (some ⟨g, f, none⟩) dLen dCap) (hx : a.eval x = .string s) (hb : Blk w g T cs) (hfit : f + dLen ≤ cs.size)
  (h : ∀ k w', k = Nat.min s.size dLen → w' = w.setCells g f (bv (s.data.toList.take k)) → Blk w' g T (cs.toList.take f ++ bv (s.data.toList.take k) ++ cs.toList.drop (f + k)).toArray → K (a.put o.dst (.int .i64 k)) w') : o.wp P a w K Q := by
 have hrun := zu3 (P := P) (w := w) (dT := dT) (sT := sT) (ty := o.type) (dCap := dCap) hu hs (s := s) hb hfit
 have hlen : (bv (s.data.toList.take (Nat.min s.size dLen))).length = Nat.min s.size dLen := by
  have h2 : Nat.min s.size dLen ≤ s.size := Nat.min_le_left _ _
  simp only [z0r, List.length_take, Array.length_toList]
  have h3 : s.data.size = s.size := rfl
  omega
 have hle : Nat.min s.size dLen ≤ dLen := Nat.min_le_right _ _
 have hrow := Blk.row g T (bv (s.data.toList.take (Nat.min s.size dLen))) f w cs hb (by omega)
 rw [hlen] at hrow
 have := h _ _ rfl rfl hrow
 unfold Oper.wp execOp
 simp only [ho, resolve, invoke, builtin, Sem.run_bind, Sem.run_pure, Result.andThen_ok, List.map_toArray, List.map_cons, List.map_nil, hd, hx, hrun]
 exact this
theorem zwq {ops : Array Oper} {rest : List Oper} {o : Oper} {a : Act} {Q : Exit → Act → World → Prop} (hgd : o.guard = none) {d x : Operand} {dT sT e : TypeId}
  (ho : o.op = .call { callee := .builtin .copy, args := #[d, x], argTypes := #[dT, sT] }) (hu : P.underlying dT = some (.slice e)) (hs : (P.info? e).map (·.size) = some 1)
  {g f dLen dCap : Nat} {s : ByteArray} {T : TypeId} {cs : Array Value} (hd : a.eval d = .slice (some ⟨g, f, none⟩) dLen dCap) (hx : a.eval x = .string s) (hb : Blk w g T cs) (hfit : f + dLen ≤ cs.size)
  (h : ∀ k w', k = Nat.min s.size dLen → w' = w.setCells g f (bv (s.data.toList.take k)) → Blk w' g T (cs.toList.take f ++ bv (s.data.toList.take k) ++ cs.toList.drop (f + k)).toArray → wpList P ops Q rest (a.put o.dst (.int .i64 k)) w') : wpList P ops Q (o :: rest) a w :=
 wpList_plain hgd fun _ hK => zx2 ho hu hs hd hx hb hfit fun k w' h1 h2 h3 => hK _ _ (h k w' h1 h2 h3)
theorem zu7 {t e : TypeId} {n : Nat} (hu : P.underlying t = some (.array n e)) (hs : (P.info? e).map (·.size) = some 1) (g o a : Nat) (ha : a < n) (w : World) :
  (Instr.sliceAt t (.pointer (some ⟨g, o, none⟩)) (some (.int .i64 (a : Nat))) none none).run P w = .ok (.slice (some ⟨g, o + a, none⟩) (n - a) (n - a)) w := by
 have hl : P.arrayLen t = n := by simp [Program.arrayLen, hu]
 have he : P.elem t = e := by simp [Program.elem, hu]
 rw [run_sliceAt_array_l w t ⟨g, o, none⟩ (by rw [hl, he]; exact hu) .i64 (a : Nat) (by omega) (by rw [hl]; omega), hl, he]
 cases hq : P.info? e with
 | none => simp [hq] at hs
 | some i =>
  have hi : i.size = 1 := by simpa [hq] using hs
  have hne : ¬ n = a := by omega
  simp [sizeOf, typeInfo, hq, hi, slicedAt, hne]
  by_cases h0 : a = 0 <;> simp [Addr.add, h0]
theorem zmd {ops : Array Oper} {rest : List Oper} {o : Oper} {a : Act} {Q : Exit → Act → World → Prop} (hgd : o.guard = none) {t : TypeId} {parts : Array (Nat × Operand)} (ho : o.op = .build t parts) {v : Value}
  {ps : Array (Nat × Value)} (hp : (parts.map fun (i, x) => (i, a.eval x)) = ps) (hr : (Instr.build t ps).run P w = .ok v w) (h : wpList P ops Q rest (a.put o.dst v) w) : wpList P ops Q (o :: rest) a w :=
 wpList_plain hgd fun K hK => by
  subst hp
  unfold Oper.wp execOp
  simp only [ho, hr, Sem.run_bind, Result.andThen_ok, Sem.run_pure]
  exact hK _ _ h
theorem z5j {ops : Array Oper} {rest : List Oper} {o : Oper} {a : Act} {Q : Exit → Act → World → Prop} (hgd : o.guard = none) {e : TypeId} {z : Value} (ho : o.op = .alloc e)
  (hz : (zeroValue e).run P w = .ok z w) (h : wpList P ops Q rest (a.put o.dst (.pointer (some ⟨w.heap.size, 0, none⟩))) (w.alloc (.cells z.cells e))) : wpList P ops Q (o :: rest) a w :=
 wpList_plain hgd fun K hK => z83 ho hz (hK _ _ h)
end
end
section
open Go.RowKit Sha
def z0u (s : S8) (b : List UInt8) (n : Nat) : Array Value := ((z02 s).toList ++ bv b ++ [Value.int .u64 (n : Nat)]).toArray
theorem z26 (s : S8) (b : List UInt8) (n : Nat) (h : b.length = 64) : (z0u s b n).size = 73 := by simp [z0u, z02, h]
theorem z3i (s : S8) (b : List UInt8) (n : Nat) : (z0u s b n).all (·.oneCell') = true := by
 simp [z0u, z02, bv, Value.oneCell']
def S0 : S8 := ⟨0, 0, 0, 0, 0, 0, 0, 0⟩
def z2d : Array Value := z0u S0 (List.replicate 64 0) 0
theorem z4i (W : World) : (zeroValue 191).run Tryz.prog W = .ok (.agg z2d) W := by kernel_rfl
theorem zha (W : World) : (Instr.build 191 #[(0, .agg #[.int .u32 1779033703, .int .u32 3144134277, .int .u32 1013904242, .int .u32 2773480762, .int .u32 1359893119, .int .u32 2600822924, .int .u32 528734635, .int .u32 1541459225])]).run Tryz.prog W = .ok (.agg (z0u H0 (List.replicate 64 0) 0)) W := by kernel_rfl
theorem zn2 (w : World) : Calls Tryz.prog 139 #[] w fun e w' => e = .returned (.agg (z0u H0 (List.replicate 64 0) 0)) ∧ Below w.heap.size w w' := by
 have hz := z4i
 have h2 := zha
 go_enter Tryz.func139, Tryz.ntmps139
 go_upto_region 1 with (fail)
 refine wp_region_lit ?_
 go_step
 go_step
 go_step
 refine zmd rfl rfl (by simp [Act.eval]) (zha _) ?_
 clear hz h2
 have hsz : (z0u H0 (List.replicate 64 0) 0).size = 73 := z26 _ _ _ (by simp)
 have hzz : z2d.size = 73 := z26 _ _ _ (by simp)
 refine z2l (g := w.heap.size) (o := 0) (vs := z0u H0 (List.replicate 64 0) 0) rfl rfl rfl rfl (Blk.new w 191 z2d) (by rw [hsz, hzz]; decide) (by rw [hsz]; kernel_rfl) (z3i _ _ _) ?_
 refine wpList_nil ?_
 have hB := (Blk.new w 191 z2d).all (z0u H0 (List.replicate 64 0) 0) (by rw [hsz, hzz])
 have hb := z0x (Below.alloc (Below.refl w.heap.size w) (Nat.le_refl _) (.cells z2d 191)) (g := w.heap.size) (Nat.le_refl _) 0 (z0u H0 (List.replicate 64 0) 0).toList
 change Exit.then _ _ _ _ ((w.alloc (.cells z2d 191)).setCells w.heap.size 0 (z0u H0 (List.replicate 64 0) 0).toList)
 generalize (w.alloc (.cells z2d 191)).setCells w.heap.size 0 (z0u H0 (List.replicate 64 0) 0).toList = w2 at *
 have HZ := ya hsz
 clear hsz hzz
 simp only [Act.put]
 go_wp2
 refine z0s rfl rfl rfl hB (by kernel_rfl) (by rw [HZ.out]; kernel_rfl) ⟨rfl, hb⟩
def yt (m b : List UInt8) : Array Value := z0u (stN m (m.length / 64)) b m.length
theorem zdf (s : S8) (b : List UInt8) (n : Nat) (h : b.length = 64) : (z0u s b n)[72]? = some (.int .u64 (n : Nat)) := by
 simp only [z0u, z02]
 rw [List.getElem?_toArray, List.getElem?_append_right (by simp [h])]
 simp [h]
theorem zvf (s : S8) (b x : List UInt8) (n a : Nat) (h : b.length = 64) (hx : a + x.length ≤ 64) :
  ((z0u s b n).toList.take (8 + a) ++ bv x ++ (z0u s b n).toList.drop (8 + a + x.length)).toArray = z0u s (splice b x a) n := by
 have h8 : (z02 s).toList.length = 8 := rfl
 have t1 : ((z02 s).toList ++ (bv b ++ [Value.int .u64 (n : Nat)])).take (8 + a) = (z02 s).toList ++ (bv b).take a := by
  rw [List.take_append, List.take_of_length_le (by omega), h8, show 8 + a - 8 = a by omega, List.take_append_of_le_length (by rw [z0r]; omega)]
 have t2 : ((z02 s).toList ++ (bv b ++ [Value.int .u64 (n : Nat)])).drop (8 + a + x.length) = (bv b).drop (a + x.length) ++ [Value.int .u64 (n : Nat)] := by
  rw [List.drop_append, List.drop_of_length_le (by omega), h8, show 8 + a + x.length - 8 = a + x.length by omega, List.drop_append_of_le_length (by rw [z0r]; omega), List.nil_append]
 simp only [z0u, List.append_assoc]
 rw [t1, t2]
 simp [splice, bv, List.map_take, List.map_drop, List.append_assoc]
theorem zlr (s : S8) (b : List UInt8) (n n' : Nat) (h : b.length = 64) : (z0u s b n).setIfInBounds 72 (.int .u64 (n' : Nat)) = z0u s b n' := by
 simp only [z0u, List.setIfInBounds_toArray]
 rw [List.set_append_right _ _ (by simp [z02, h])]
 simp [z02, h]
theorem zve (s s' : S8) (b : List UInt8) (n : Nat) : ((z0u s b n).toList.take 0 ++ (z02 s').toList ++ (z0u s b n).toList.drop (0 + (z02 s').toList.length)).toArray = z0u s' b n := by
 have h8 : (z02 s').toList.length = 0 + (z02 s).toList.length := rfl
 simp only [z0u, List.take_zero, List.nil_append, h8, Nat.zero_add]
 rw [List.append_assoc, List.append_assoc, List.drop_left]
theorem zvg (s : S8) (b : List UInt8) (n : Nat) : (z0u s b n).extract 0 (0 + 8) = z02 s := by
 simp [z0u, z02]
theorem zvd (s : S8) (b : List UInt8) (n k : Nat) (h : k < b.length) : (z0u s b n)[8 + k]? = some (.int .u8 (b[k].toNat : Nat)) := by
 have h8 : (z02 s).toList.length = 8 := rfl
 simp only [z0u, List.getElem?_toArray]
 rw [List.append_assoc, List.getElem?_append_right (by omega), List.getElem?_append_left (by rw [z0r]; omega)]
 simp [bv, h8, h]
theorem Blk.strm_rd {w : World} {g : Nat} {T : TypeId} {s : S8} {b : List UInt8} {n : Nat} (h : Blk w g T (z0u s b n)) (hb : b.length = 64) : Rd w (some ⟨g, 8, none⟩) 64 (bv b) := by
 refine ⟨by rw [z0r, hb], fun k u hk => ⟨_, rfl, ?_⟩⟩
 have hlt : k < b.length := by have := (List.getElem?_eq_some_iff.1 hk).1; simpa using this
 have hadd : (⟨g, 8, none⟩ : Addr).add k = ⟨g, 8 + k, none⟩ := by unfold Addr.add; split <;> simp_all
 rw [hadd, h.cell, zvd s b n k hlt, ← hk]
 simp [bv, hlt]
theorem zpz (s : ByteArray) (k : Nat) : (s.extract k s.size).data.toList = s.data.toList.drop k := by
 rw [ByteArray.data_extract, Array.toList_extract]
 have h : s.size = s.data.toList.length := by simp
 rw [h, List.extract_eq_take_drop, List.take_of_length_le (by simp)]
def zvc : Value → Nat
 | .string s => s.size
 | _ => 0
theorem z3u (m b : List UInt8) (t : ByteArray) (w : World) (hT : z1z m b) (hlen : m.length + t.size ≤ 1099511627776) (hg : GCon w) :
  Calls Tryz.prog 140 #[.agg (yt m b), .string t] w fun e w' => ∃ b', e = .returned (.agg (yt (m ++ t.data.toList) b')) ∧ z1z (m ++ t.data.toList) b' ∧ Below w.heap.size w w' := by
 have hz := z4i
 go_enter Tryz.func140, Tryz.ntmps140
 go_wp2_with fail
 clear hz
 go_loopw [1, 5, 6] (fun x _ _ wr => ∃ (m' b' : List UInt8) (s : ByteArray), x = .string s ∧ m' ++ s.data.toList = m ++ t.data.toList ∧ z1z m' b' ∧ Below w.heap.size w wr ∧
  Blk wr w.heap.size 191 (yt m' b') ∧ Blk wr (w.heap.size + 1) 191 z2d) (fun x _ _ _ => zvc x)
 case atStart => exact ⟨m, b, t, rfl, rfl, hT, ((Below.refl _ _).alloc (by simp) _).alloc (by simp) _, (Blk.new _ _ _).alloc _, Blk.new2 _ _ _ _⟩
 case round =>
  obtain ⟨m1, b1, s, rfl, hms, hT1, hb, hB, hB0⟩ := hrel
  by_cases h0 : s.data.toList = []
  ·have he1 : (!s.toList.isEmpty) = false := by rw [ByteArray.toList_eq, h0]; rfl
   have he2 : s.toList.isEmpty = true := by rw [ByteArray.toList_eq, h0]; rfl
   go_upto_region 8 with (fail)
   rw [h0, List.append_nil] at hms
   subst hms
   have hsz := z26 (stN (m ++ t.data.toList) ((m ++ t.data.toList).length / 64)) b1 (m ++ t.data.toList).length hT1.len
   have hzz : z2d.size = 73 := z26 _ _ _ (by simp)
   have hone : (yt (m ++ t.data.toList) b1).all (·.oneCell') = true := z3i _ _ _
   change (yt (m ++ t.data.toList) b1).size = 73 at hsz
   have hB2 := hB0.all (yt (m ++ t.data.toList) b1) (by rw [hsz, hzz])
   have hb2 := z0x hb (g := w.heap.size + 1) (by omega) 0 (yt (m ++ t.data.toList) b1).toList
   have HM := ya hT1
   clear hT1
   refine wp_region_lit ?_
   refine z1u rfl rfl rfl hB (by kernel_rfl) (by rw [hsz]; kernel_rfl) ?_
   refine z2l (g := w.heap.size + 1) (o := 0) rfl rfl rfl rfl hB0 (by rw [hsz, hzz]; decide) (by rw [hsz]; kernel_rfl) hone ?_
   refine wpList_nil ?_
   obtain ⟨cs, hcs⟩ : ∃ cs, cs = yt (m ++ t.data.toList) b1 := ⟨_, rfl⟩
   rw [← hcs] at hB2 hb2 hsz ⊢
   have HCS := ya hcs
   generalize wr.setCells (w.heap.size + 1) 0 cs.toList = w5 at *
   clear hB0 hB hone hzz he1 he2 h0 hcs
   have HZ := ya hsz
   clear hsz
   go_wp2
   refine z0s rfl rfl rfl hB2 (by kernel_rfl) (by rw [HZ.out]; kernel_rfl) ⟨b1, by rw [HCS.out], HM.out, hb2⟩
  ·have hl := congrArg List.length hms
   simp only [List.length_append] at hl
   have hs0 : s.data.toList.length = s.size := by simp
   have ht0 : t.data.toList.length = t.size := by simp
   have hpos : 0 < s.size := by
    have := List.length_pos_iff.2 h0
    omega
   have hm1 : m1.length ≤ 1099511627776 := by omega
   have he1 : (!s.toList.isEmpty) = true := by rw [ByteArray.toList_eq]; simpa using h0
   have he2 : s.toList.isEmpty = false := by rw [ByteArray.toList_eq]; simpa using h0
   have HMS := ya hms
   have HL := ya (show m1.length + s.size = m.length + t.size by omega)
   have HS0 := ya hs0
   clear hms hl hs0 ht0
   have c72 := hB.cell 72
   rw [yt, zdf _ _ _ hT1.len] at c72
   obtain ⟨a, ha⟩ : ∃ a : Nat, a = m1.length % 64 := ⟨_, rfl⟩
   have ha64 : a < 64 := by omega
   have hai : ((m1.length : Int) % 64) = (a : Int) := by omega
   have HA := ya ha
   clear ha
   go_upto_region 3 with (fail)
   have hsl := fun W => zu7 (P := Tryz.prog) (t := 188) (e := 5) (n := 64) (by kernel_rfl) (by kernel_rfl) w.heap.size 8 a ha64 W
   refine wp_region_lit ?_
   iterate 12 go_step
   clear hsl
   have hsz := z26 (stN m1 (m1.length / 64)) b1 m1.length hT1.len
   refine zwq (e := 5) rfl rfl (by kernel_rfl) (by kernel_rfl) rfl rfl hB (by rw [yt, hsz]; omega) ?_
   intro k w1 hk hw1 hB1
   have hk1 : k ≤ s.size ∧ k ≤ 64 - a ∧ (k = s.size ∨ k = 64 - a) := by
    have e : Nat.min s.size (64 - a) = min s.size (64 - a) := rfl
    rw [hk, e]; omega
   obtain ⟨hks, hka, hkc⟩ := hk1
   have hxl : (s.data.toList.take k).length = k := by rw [List.length_take, HS0.out]; omega
   have hsplit : s.data.toList.take k ++ (s.extract k s.size).data.toList = s.data.toList := by
    have e := zpz s k
    rw [e, List.take_append_drop]
   clear hk hsz
   generalize s.data.toList.take k = x at *
   have hb1 : Below w.heap.size w w1 := by rw [hw1]; exact z0x hb (Nat.le_refl _) _ _
   have hB01 : Blk w1 (w.heap.size + 1) 191 z2d := by rw [hw1]; exact hB0.farRow (by omega) _ _
   rw [← hxl, yt, zvf _ _ _ _ _ hT1.len (by omega)] at hB1
   clear hw1 hB hB0 hb c72
   have HXL := ya hxl
   have HSP := ya hsplit
   clear hxl hsplit
   have hT2 := hT1.splice x (by rw [HXL.out, ← HA.out]; omega)
   have hfl : a + k = 64 → stN (m1 ++ x) ((m1 ++ x).length / 64) = z3p (stN m1 (m1.length / 64)) (splice b1 x (m1.length % 64)) := fun h => zva hT1 x (by rw [HXL.out, ← HA.out]; omega)
   have hpt : ¬ a + k = 64 → stN (m1 ++ x) ((m1 ++ x).length / 64) = stN m1 (m1.length / 64) := fun h => zvb m1 x (by rw [HXL.out, ← HA.out]; omega)
   have hok := zde m1 (m1.length / 64)
   have hlx : (m1 ++ x).length = m1.length + k := by rw [List.length_append, HXL.out]
   rw [← HA.out] at hT2 hfl
   have HM : Hid ((m1 ++ x) ++ (s.extract k s.size).data.toList = m ++ t.data.toList) := by rw [List.append_assoc, HSP.out, HMS.out]; exact rfl
   have hse : (s.extract k s.size).size < s.size := by
    have h1 := congrArg List.length HSP.out
    rw [List.length_append, HXL.out, HS0.out] at h1
    have h2 : (s.extract k s.size).data.toList.length = (s.extract k s.size).size := by simp
    omega
   clear HMS HSP HXL hT1 HS0
   have c72 := hB1.cell 72
   have f72 := hB1.free 72
   rw [zdf _ _ _ (by have := hT2.len; exact this)] at c72
   by_cases hfull : a + k = 64
   ·have hS := ya (hfl hfull)
    clear hfl hpt
    generalize splice b1 x a = b2 at *
    have hq : ((a : Int) + (k : Int) == 64) = true := by simp; omega
    have hb2 : Below w.heap.size w (w1.setCell ⟨w.heap.size, 72, none⟩ (.int .u64 ((m1.length : Int) + (k : Int)))) := hb1.setCell (Nat.le_refl _) _
    have hB2 := hB1.set 72 (.int .u64 ((m1.length : Int) + (k : Int)))
    have hB02 := hB01.far (p := ⟨w.heap.size, 72, none⟩) (by simp) (.int .u64 ((m1.length : Int) + (k : Int)))
    have e2 : (z0u (stN m1 (m1.length / 64)) b2 m1.length).setIfInBounds 72 (.int .u64 ((m1.length : Int) + (k : Int))) = z0u (stN m1 (m1.length / 64)) b2 (m1.length + k) := zlr _ _ _ _ hT2.len
    rw [e2] at hB2
    clear e2
    go_wp2_with fail
    clear hB1 hB01 hb1 c72 f72
    generalize w1.setCell ⟨w.heap.size, 72, none⟩ (.int .u64 ((m1.length : Int) + (k : Int))) = w2 at *
    have hsz := z26 (stN m1 (m1.length / 64)) b2 (m1.length + k) hT2.len
    have hrd := hB2.strm_rd hT2.len
    have hgc := hg.below hb2
    generalize stN m1 (m1.length / 64) = s1 at *
    have hrow := Blk.row w.heap.size 191 (z02 (z3p s1 b2)).toList 0
    have hl64 := hT2.len
    have HL64 := ya hl64
    clear hl64
    refine yz 6 (by kernel_rfl) ?_
    refine WpT.tk 0 ((Below.refl _ _).drew) ?_
    simp only [nrm]
    refine WpT.tl 1 rfl (zgj (v := .agg (z02 s1)) (n := 8) (off := 0) rfl rfl rfl (by kernel_rfl) (by kernel_rfl) (by rw [hsz]; decide) hB2 (by rw [zvg])) ((Below.refl _ _).drew) ?_
    simp only [nrm]
    refine WpT.tk 2 ((Below.refl _ _).drew) ?_
    simp only [nrm]
    refine WpT.tk 3 ((Below.refl _ _).drew) ?_
    simp only [nrm]
    refine WpT.on 4 rfl (fun K hK => ?_)
    go_simp; refine (zoy s1 hok _ 64 b2 _ HL64.out (by omega) (by unfold maxLen; omega) (by exact hrd.below (Below.refl _ _).drew) (by exact hgc)).mono ?_; rintro e w9 ⟨rfl, hb9⟩; have hS9 : Below w2.heap.size w2 w9 := yb (Below.refl _ w2).drew hb9
    refine hK _ _ hS9 ?_; clear hK K; try simp only [nrm]
    refine WpT.tk 5 hS9 ?_
    simp only [nrm]
    refine WpT.ta 6 rfl (fun K hK => ?_)
    refine z3b (g := w.heap.size) (o := 0) (vs := z02 (z3p s1 b2)) rfl rfl rfl (hB2.below hS9) (by rw [hsz]; show 0 + 8 ≤ 73; decide) (by kernel_rfl) (by simp [z02, Value.oneCell']) ?_
    refine hK _ _ ?_; clear hK K; try simp only [nrm]
    refine WpT.done (by kernel_rfl) ?_ _
    have hB9 := hrow w9 _ (hB2.below hS9) (by rw [hsz]; show 0 + 8 ≤ 73; decide)
    rw [zve] at hB9
    have hb10 : Below w.heap.size w (w9.setCells w.heap.size 0 (z02 (z3p s1 b2)).toList) := z0x (hb2.trans (hS9.mono hb2.size)) (Nat.le_refl _) _ _
    have hB10 := (hB02.below hS9).farRow (g := w.heap.size) (by omega) 0 (z02 (z3p s1 b2)).toList
    clear hB2 hB02 hrd hgc hrow hsz hb9 hS9 hb2
    generalize w9.setCells w.heap.size 0 (z02 (z3p s1 b2)).toList = w5 at *
    go_wp2_with fail
    exact ⟨⟨m1 ++ x, b2, _, rfl, HM.out, hT2, hb10, by unfold yt; rw [hS.out, hlx]; exact hB9, hB10⟩, hse⟩
   ·have hS := ya (hpt hfull)
    clear hfl hpt
    generalize splice b1 x a = b2 at *
    have hq : ((a : Int) + (k : Int) == 64) = false := by simp; omega
    go_wp2_with fail
    refine ⟨⟨m1 ++ x, b2, _, rfl, HM.out, hT2, hb1.setCell (Nat.le_refl _) _, ?_, hB01.far (by simp) _⟩, hse⟩
    have h := hB1.set 72 (.int .u64 ((m1.length + k : Nat) : Int))
    rw [zlr _ _ _ _ (by exact hT2.len)] at h
    unfold yt
    rw [hS.out, hlx]
    exact h
def slLen : Value → Nat
 | .slice _ n _ => n
 | _ => 0
theorem ziy (n i : Nat) : ((z9f n i).toNat : Int) = (8 * (n : Int)) / 2 ^ (56 - 8 * i) % 256 := by
 unfold z9f
 rw [UInt8.toNat_ofNat']
 rw [show ((8 : Int) * (n : Int)) = ((8 * n : Nat) : Int) by simp, show (2 : Int) ^ (56 - 8 * i) = ((2 ^ (56 - 8 * i) : Nat) : Int) by simp]
 omega
def z0t (l : List UInt8) : Array Value := (bv (l ++ List.replicate (32 - l.length) 0)).toArray
theorem z9z (l : List UInt8) (h : l.length ≤ 32) : (z0t l).size = 32 := by simp [z0t]; omega
theorem zd6 (l : List UInt8) (h : l.length = 32) : z0t l = (bv l).toArray := by simp [z0t, h]
theorem zl0 (l : List UInt8) (x : UInt8) (h : l.length < 32) : (z0t l).setIfInBounds l.length (.int .u8 (x.toNat : Nat)) = z0t (l ++ [x]) := by
 unfold z0t
 have e : List.replicate (32 - l.length) (0 : UInt8) = 0 :: List.replicate (32 - (l.length + 1)) 0 := by
  rw [show 32 - l.length = (32 - (l.length + 1)) + 1 by omega, List.replicate_succ]
 simp only [bv, List.setIfInBounds_toArray, e, List.length_append, List.length_cons, List.length_nil, List.map_append, List.map_cons, Nat.zero_add]
 congr 1
 rw [List.set_append_right _ _ (by simp)]
 simp
theorem zkz (l : List UInt8) (h : l.length < 32) : (z0t l)[l.length]? = some (.int .u8 0) := by
 unfold z0t
 have e : List.replicate (32 - l.length) (0 : UInt8) = 0 :: List.replicate (32 - (l.length + 1)) 0 := by
  rw [show 32 - l.length = (32 - (l.length + 1)) + 1 by omega, List.replicate_succ]
 simp only [bv, List.getElem?_toArray, List.getElem?_map]
 rw [List.getElem?_append_right (Nat.le_refl _), e]
 simp
theorem zjk (l : List UInt8) : (z0t l).all (·.oneCell') = true := by simp [z0t, bv, Value.oneCell']
theorem zhw (s : S8) (i : Nat) : ((z96 s i).toNat : Int) = ((s.list.getD (i / 4) 0 : Nat) : Int) / 2 ^ (24 - 8 * (i % 4)) % 256 := by
 unfold z96
 rw [UInt8.toNat_ofNat', show (2 : Int) ^ (24 - 8 * (i % 4)) = ((2 ^ (24 - 8 * (i % 4)) : Nat) : Int) by simp]
 omega
theorem zvh (s : S8) (b : List UInt8) (n k : Nat) (h : k < 8) : (z0u s b n)[k]? = some (.int .u32 (s.list.getD k 0 : Nat)) := by
 have h8 : (z02 s).toList.length = 8 := rfl
 simp only [z0u, List.getElem?_toArray]
 rw [List.append_assoc, List.getElem?_append_left (by omega)]
 rcases (show k = 0 ∨ k = 1 ∨ k = 2 ∨ k = 3 ∨ k = 4 ∨ k = 5 ∨ k = 6 ∨ k = 7 by omega) with rfl | rfl | rfl | rfl | rfl | rfl | rfl | rfl <;> rfl
theorem zj3 {s : S8} (h : S8.Ok s) (k : Nat) (hk : k < 8) : s.list.getD k 0 < 4294967296 := by
 rcases (show k = 0 ∨ k = 1 ∨ k = 2 ∨ k = 3 ∨ k = 4 ∨ k = 5 ∨ k = 6 ∨ k = 7 by omega) with rfl | rfl | rfl | rfl | rfl | rfl | rfl | rfl
 ·exact h.a
 ·exact h.b
 ·exact h.c
 ·exact h.d
 ·exact h.e
 ·exact h.f
 ·exact h.g
 ·exact h.h
theorem Own.lit (w : World) (B : Nat) (e : TypeId) (xs : List Value) (hB : B ≤ w.heap.size) (hm : xs.length ≤ maxLen) : Own (w.alloc (.cells xs.toArray e)) B e (.slice (some ⟨w.heap.size, 0, none⟩) xs.length xs.length) xs := by
 refine ⟨by simp, .inr ⟨w.heap.size, xs.length, xs.toArray, rfl, hB, heap_alloc_new w _, Nat.le_refl _, hm, by simp, by simp⟩⟩
theorem Own.slLen {w : World} {B : Nat} {e : TypeId} {v : Value} {xs : List Value} (h : Own w B e v xs) : slLen v = xs.length := by
 obtain ⟨A, c, rfl, _⟩ := h.form; rfl
structure zgo (m : List UInt8) (s : S8) : Prop where
 eq : sha m = dig s 32
theorem zaa (W : World) : (zeroValue 195).run Tryz.prog W = .ok (.agg (z0t [])) W := by kernel_rfl
theorem zv9 (m b : List UInt8) (w : World) (hT : z1z m b) (hlen : m.length ≤ 549755813888) (hg : GCon w) :
  Calls Tryz.prog 142 #[.agg (yt m b)] w fun e w' => e = .returned (.agg (bv (sha m)).toArray) ∧ Below w.heap.size w w' := by
 have hz32 := zaa
 go_enter Tryz.func142, Tryz.ntmps142
 go_upto_region 1 with (fail)
 obtain ⟨wa, hwa, ba, hB, hR⟩ : ∃ wa : World, wa = (w.alloc (.cells (yt m b) 191)).alloc (.cells (z0t []) 195) ∧ Below w.heap.size w wa ∧
   Blk wa w.heap.size 191 (yt m b) ∧ Blk wa (w.heap.size + 1) 195 (z0t []) :=
  ⟨_, rfl, ((Below.refl _ _).alloc (Nat.le_refl _) _).alloc (by simp) _, (Blk.new _ _ _).alloc _, Blk.new2 _ _ _ _⟩
 rw [← hwa]
 clear hwa hz32
 have hsz := z26 (stN m (m.length / 64)) b m.length hT.len
 change (yt m b).size = 73 at hsz
 have c72 := hB.cell 72
 rw [yt, zdf _ _ _ hT.len] at c72
 have HSZ := ya hsz
 clear hsz
 go_wp2_with fail
 clear c72
 go_loopw [4] (fun v wr => ∃ i : Nat, i ≤ z4r m.length ∧ Own wr (w.heap.size + 2) 5 v (bv (z6e i)) ∧ Below w.heap.size w wr ∧ w.heap.size + 2 ≤ wr.heap.size ∧ Blk wr w.heap.size 191 (yt m b) ∧ Blk wr (w.heap.size + 1) 195 (z0t [])) (fun v _ => 65 - slLen v)
 case atStart =>
  have hz := hR.lt
  exact ⟨0, Nat.zero_le _, Own.lit wa (w.heap.size + 2) 5 [.int .u8 128] (by omega) (by simp [maxLen]), ba.alloc ba.size _, by simp; omega, hB.alloc _, hR.alloc _⟩
 case round =>
  clear ba hB hR
  obtain ⟨i, hi, hown, ba, hz, hB, hR⟩ := hrel
  obtain ⟨A, n, c, rfl, hn, hnc, hcm, hr⟩ := hown.formN
  have c72 := hB.cell 72
  rw [yt, zdf _ _ _ hT.len] at c72
  have hn1 : n = i + 1 := by rw [hn.out]; simp [z7v]
  have hzl := zab m.length
  by_cases hzi : i = z4r m.length
  ·have hne : (((m.length : Int) + (n : Int)) % 64 != 56) = false := by
    have := zmq m.length
    simp; omega
   have hnb : n ≤ 64 := by omega
   rw [hzi] at hown
   clear hr hn hnc hcm hi hzi hzl hn1
   go_wp2_with fail
   clear hne c72
   obtain ⟨wo, rfl⟩ : ∃ wo : World, wo = wr := ⟨_, rfl⟩
   go_loopw [4, 5, 23] (fun v _ i wr => ∃ j : Nat, j ≤ 8 ∧ i = .int .i64 j ∧ Own wr (w.heap.size + 2) 5 v (bv (z6e (z4r m.length) ++ z5t m.length j)) ∧ Below w.heap.size w wr ∧ w.heap.size + 2 ≤ wr.heap.size ∧ Blk wr w.heap.size 191 (yt m b) ∧ Blk wr (w.heap.size + 1) 195 (z0t [])) (fun _ _ i _ => 8 - (intOf i).toNat)
   case atStart => exact ⟨0, Nat.zero_le _, rfl, by rw [show z5t m.length 0 = [] from rfl, List.append_nil]; exact hown, ba, hz, hB, hR⟩
   case round =>
    clear hown ba hz hB hR hnb
    obtain ⟨j, hj, rfl, hown, ba, hz, hB, hR⟩ := hrel
    obtain ⟨A, n, c, rfl, hn, hnc, hcm, hr⟩ := hown.formN
    by_cases hlt : j < 8
    ·have hLB := ya (ziy m.length j)
     go_wp2_with (at_builtin; refine z27 rfl rfl z2p rfl (hown.alloc _) rfl (Rd.new1 _ _ _) (z3r rfl) (by rw [z0r, List.length_append, z7v, zav]; have := zab m.length; omega) (by simp; omega) ?_; intro v' w' hown' hg' hb' _)
     have hbx : Below (w.heap.size + 2) wr w' := ((Below.refl _ _).alloc hz _).trans hb'
     refine ⟨⟨j + 1, by omega, by go_num, ?_, ba.trans (hbx.mono (by omega)), by have := hbx.size; omega, hB.below' hbx (by omega), hR.below' hbx (by omega)⟩, by simp [intOf]; omega⟩
     rw [ziz, ← List.append_assoc, z2n, show bv [z9f m.length j] = [.int .u8 (8 * (m.length : Int) / 2 ^ (56 - 8 * j) % 256)] by simp [bv, hLB.out]]
     exact hown'
    ·obtain rfl : j = 8 := by omega
     rw [← zju] at hown hn hr
     clear hj hlt hown hnc hcm
     have hpl : (pad m.length).length ≤ 128 := by
      have := zab m.length
      simp only [pad, List.length_append, List.length_cons, List.length_replicate, zav]; omega
     have hps : (⟨(pad m.length).toArray⟩ : ByteArray).size = (pad m.length).length := rfl
     have hsz := HSZ.out
     go_upto_region 10 with (fail)
     refine wp_region_lit ?_
     refine z1u rfl rfl rfl hB (by kernel_rfl) (by rw [hsz]; kernel_rfl) ?_
     go_step
     go_step
     go_step
     refine zdk rfl rfl z06 (by kernel_rfl) rfl hr ?_
     go_step
     go_step
     refine (z3u m b _ _ hT (by rw [hps]; omega) (hg.below ba)).mono ?_
     rintro e w5 ⟨b', he, hT5, hb5⟩
     replace he : e = .returned (.agg (z0u (z69 m) b' (m ++ pad m.length).length)) := he
     subst he
     have hl5 := hT5.len
     have ba5 := ba.trans (hb5.mono ba.size)
     have hz5 := hb5.size
     have hB5 := hB.below hb5
     have hR5 := hR.below hb5
     generalize (m ++ pad m.length).length = L at *
     have hsz5 := z26 (z69 m) b' L hl5
     have hone := z3i (z69 m) b' L
     have hfok : S8.Ok (z69 m) := zde _ _
     have HSHA : zgo m (z69 m) := ⟨rfl⟩
     generalize z69 m = fm at *
     dsimp only
     go_step
     refine z2l (g := w.heap.size) (o := 0) rfl rfl rfl rfl hB5 (by rw [hsz5, hsz]; decide) (by rw [hsz5]; kernel_rfl) hone ?_
     refine wpList_nil ?_
     have hB6 := hB5.all (z0u fm b' L) (by rw [hsz5, hsz])
     have ba6 := z0x ba5 (g := w.heap.size) (Nat.le_refl _) 0 (z0u fm b' L).toList
     have hR6 := hR5.farRow (g := w.heap.size) (by omega) 0 (z0u fm b' L).toList
     have hz6 : w.heap.size + 2 ≤ (w5.setCells w.heap.size 0 (z0u fm b' L).toList).heap.size := by rw [z7d]; omega
     clear hps hpl hl5 hB5 ba5 hR5 hB hR ba hb5 hr hn hz5 hz hsz hsz5 hone hT5
     generalize w5.setCells w.heap.size 0 (z0u fm b' L).toList = w6 at *
     have hz32 := zaa
     simp only [Act.put]
     go_wp2_with fail
     clear hz32
     generalize hg3 : w6.heap.size = g3 at *
     have HG3 := ya hg3
     clear hg3
     obtain ⟨wo, hwo⟩ : ∃ wo : World, wo = w6.alloc (.cells (z0t []) 195) := ⟨_, rfl⟩
     have bao : Below w.heap.size w wo := by rw [hwo]; exact ba6.alloc (by rw [HG3.out]; omega) _
     have hBo : Blk wo w.heap.size 191 (z0u fm b' L) := by rw [hwo]; exact hB6.alloc _
     have hRo : Blk wo (w.heap.size + 1) 195 (z0t []) := by rw [hwo]; exact hR6.alloc _
     have hOo : Blk wo g3 195 (z0t []) := by rw [hwo, ← HG3.out]; exact Blk.new _ _ _
     rw [← hwo]
     clear hwo ba6 hB6 hR6
     go_loopw [7, 40] (fun _ i wr => ∃ j : Nat, j ≤ 32 ∧ i = .int .i64 j ∧ Below w.heap.size w wr ∧ Blk wr w.heap.size 191 (z0u fm b' L) ∧ Blk wr (w.heap.size + 1) 195 (z0t []) ∧ Blk wr g3 195 (z0t (dig fm j))) (fun _ i _ => 32 - (intOf i).toNat)
     case atStart => exact ⟨0, Nat.zero_le _, rfl, bao, hBo, hRo, hOo⟩
     case round =>
      clear bao hBo hRo hOo
      obtain ⟨j, hj, rfl, ba, hB, hR, hO⟩ := hrel
      by_cases hlt : j < 32
      ·have hjl := z73 fm j
       have hw := hB.cell (j / 4)
       rw [zvh _ _ _ _ (by omega)] at hw
       have hwl := zj3 hfok (j / 4) (by omega)
       have hdb := ya (zhw fm j)
       generalize fm.list.getD (j / 4) 0 = wd at *
       have co : wr.cell? ⟨g3, j, none⟩ = some (.int .u8 0) := by
        have h := zkz (dig fm j) (by omega)
        rw [hjl] at h
        rw [hO.cell, h]
       have fo := hO.free j
       have hset := ya (zl0 (dig fm j) (z96 fm j) (by omega))
       have HJL := ya hjl
       clear hjl
       go_wp2_with fail
       have hs := hO.set j (.int .u8 ((wd : Int) / 2 ^ (24 - 8 * (j % 4)) % 256))
       have e := hset.out
       rw [HJL.out, hdb.out, ← zhx] at e
       rw [e] at hs
       exact ⟨⟨j + 1, by omega, by go_num, ba.setCell (by simp; omega) _, hB.far (by simp; omega) _, hR.far (by simp; omega) _, hs⟩, by simp [intOf]; omega⟩
      ·obtain rfl : j = 32 := by omega
       have h32 := z9z (dig fm 32) (by rw [z73]; omega)
       have h0 := z9z [] (by simp)
       have hone := zjk (dig fm 32)
       have hR2 := hR.all (z0t (dig fm 32)) (by rw [h32, h0])
       have ba2 := z0x ba (g := w.heap.size + 1) (by omega) 0 (z0t (dig fm 32)).toList
       go_upto_region 17 with (fail)
       refine wp_region_lit ?_
       refine z1u rfl rfl rfl hO (by kernel_rfl) (by rw [h32]; kernel_rfl) ?_
       refine z2l (g := w.heap.size + 1) (o := 0) rfl rfl rfl rfl hR (by rw [h32, h0]; decide) (by rw [h32]; kernel_rfl) hone ?_
       refine wpList_nil ?_
       generalize wr.setCells (w.heap.size + 1) 0 (z0t (dig fm 32)).toList = w7 at *
       rw [zd6 _ (z73 fm 32), ← HSHA.eq] at hR2
       rw [zd6 _ (z73 fm 32), ← HSHA.eq]
       have H32 := ya (show (bv (sha m)).toArray.size = 32 by simp [zaw])
       clear hO hR hB h32 h0 hone
       go_wp2
       refine z0s rfl rfl rfl hR2 (by kernel_rfl) (by rw [H32.out]; kernel_rfl) ⟨rfl, ba2⟩
  ·have hne : (((m.length : Int) + (n : Int)) % 64 != 56) = true := by
    have := zmr m.length i (by omega)
    simp; omega
   have hnb : n ≤ 64 := by omega
   have HN := ya hn1
   clear hn1
   go_wp2_with (at_builtin; refine z27 rfl rfl z2p rfl (hown.alloc _) rfl (Rd.new1 _ _ _) (z3r rfl) (by rw [z0r, z7v]; omega) (by simp; omega) ?_; intro v' w' hown' hg' hb' _)
   have hbx : Below (w.heap.size + 2) wr w' := ((Below.refl _ _).alloc hz _).trans hb'
   have hl := hown'.slLen
   refine ⟨⟨i + 1, by omega, ?_, ba.trans (hbx.mono (by omega)), by have := hbx.size; omega, hB.below' hbx (by omega), hR.below' hbx (by omega)⟩, ?_⟩
   ·rw [zjt, z2n]; exact hown'
   ·rw [hl]
    show 65 - _ < 65 - n
    simp only [List.length_append, z0r, z7v, List.length_cons, List.length_nil]
    have := HN.out
    omega
theorem z6w (w : World) : Calls Tryz.prog 139 #[] w fun e w' => e = .returned (.agg (yt [] (List.replicate 64 0))) ∧ Below w.heap.size w w' := zn2 w
end
section
open Go.RowKit
def z2r : Nat → Nat → List UInt8
 | 0, z => [UInt8.ofNat z]
 | f + 1, z => if z < 128 then [UInt8.ofNat z] else UInt8.ofNat (z % 128 + 128) :: z2r f (z / 128)
theorem za1 (f z : Nat) (h : z < 128) : z2r f z = [UInt8.ofNat z] := by
 cases f with
 | zero => rfl
 | succ f => simp [z2r, h]
theorem za0 (f z : Nat) (h : ¬ z < 128) : z2r (f + 1) z = UInt8.ofNat (z % 128 + 128) :: z2r f (z / 128) := by simp [z2r, h]
theorem z9h (f z : Nat) : (z2r f z).length ≤ f + 1 := by
 induction f generalizing z with
 | zero => simp [z2r]
 | succ f ih =>
  unfold z2r
  split
  ·simp
  ·simp only [List.length_cons]; have := ih (z / 128); omega
def z1q (s : List UInt8) : List UInt8 := z2r 9 (2 * s.length) ++ s
theorem or128 : ∀ x : Fin 256, bits .or .u8 ((x.val : Nat) : Int) 128 = ((x.val % 128 + 128 : Nat) : Int) := by decide +kernel
theorem zfb (z : Nat) : bits .or .u8 ((z : Int) % 256) 128 = ((z % 128 + 128 : Nat) : Int) := by
 have h := or128 ⟨z % 256, Nat.mod_lt _ (by decide)⟩
 simp only at h
 rw [show ((z : Int) % 256) = ((z % 256 : Nat) : Int) by simp, h]
 omega
theorem zmc {ops : Array Oper} {rest : List Oper} {o : Oper} {a : Act} {Q : Exit → Act → World → Prop} {w : World} (hgd : o.guard = none) {sl x : Operand}
  (ho : o.op = .call { callee := .builtin .append, args := #[sl, x], argTypes := #[102, 9] }) {B : Nat} {v : Value} {xs : List Value} (hs : a.eval sl = v) (hown : Own w B 5 v xs)
  {s : ByteArray} (hx : a.eval x = .string s) (hlen : xs.length + s.size ≤ 1099511627776) (hB : B ≤ w.heap.size)
  (h : ∀ v' w', Own w' B 5 v' (xs ++ bv s.data.toList) → Below B w w' → wpList Tryz.prog ops Q rest (a.put o.dst v') w') : wpList Tryz.prog ops Q (o :: rest) a w := by
 obtain ⟨i, h1, h2, h3, h4⟩ := info_parts (show (Tryz.prog.info? 5).map (fun i => (i.zero, i.size, i.bytes)) = some (some (.int .u8 0), 1, 1) by kernel_rfl)
 refine Lib.wpList_append_own_string w hgd sl x _ _ ho B 5 i (by kernel_rfl) (by kernel_rfl) h1 h2 h3 h4 v xs.length xs hs hown s hx (by simp only [maxLen]; omega) (by omega) hB ?_
 intro v' w' k1 k2 _
 refine h v' w' ?_ ((Below.refl B w).grown k2 hB fun k hk => ((World.ownsRow.lt hown) k hk).1)
 unfold Own
 rw [List.length_append, z0r, show s.data.toList.length = s.size by simp]
 exact k1
theorem zwc (m : Nat) (w : World) (hm : m < 1099511627776) :
  Calls Tryz.prog 106 #[.int .i64 (m : Nat)] w fun e w' => ∃ v, e = .returned v ∧ Own w' w.heap.size 5 v (bv (z2r 9 (2 * m))) ∧ Below w.heap.size w w' := by
 have h63 : (m : Int) / 9223372036854775808 = 0 := by omega
 have hx : bits .xor .u64 ((m : Int) * 2) 0 = ((2 * m : Nat) : Int) := by
  have := zg1 (2 * m) 0 (by omega) (by omega)
  rw [show ((m : Int) * 2) = ((2 * m : Nat) : Int) by omega, show (0 : Int) = ((0 : Nat) : Int) from rfl, this]
  simp
 go_enter Tryz.func106, Tryz.ntmps106
 go_wp2_with fail
 go_loopw [3, 4] (fun x v wr => ∃ (f z : Nat) (acc : List UInt8), x = .int .u64 z ∧ z < 128 ^ (f + 1) ∧ f + acc.length ≤ 9 ∧ acc ++ z2r f z = z2r 9 (2 * m) ∧ Own wr w.heap.size 5 v (bv acc) ∧ Below w.heap.size w wr) (fun x _ _ => (intOf x).toNat)
 case atStart => exact ⟨9, 2 * m, [], by simp, by omega, by simp, by simp, Own.nil _ _ _, Below.refl _ _⟩
 case round =>
  obtain ⟨f, z, acc, rfl, hzf, hfa, hacc, hown, hb⟩ := hrel
  have hz := hb.size
  have hzl : z < 1180591620717411303424 := by
   have : 128 ^ (f + 1) ≤ 128 ^ 10 := Nat.pow_le_pow_right (by omega) (by omega)
   omega
  have HA := ya hacc
  clear hacc
  by_cases hlt : z < 128
  ·have hv := za1 f z hlt
   have HV := ya hv
   have hz2 : ¬ (127 : Int) < z := by omega
   have hd : decide ((127 : Int) < (z : Int)) = false := by simpa using hz2
   clear hv hzf hzl
   go_wp2_with (at_builtin; refine z27 rfl rfl z2p rfl (hown.alloc _) rfl (Rd.new1 _ _ _) (z3r rfl) (by rw [z0r]; omega) (by simp; omega) ?_; intro v' w' hown' hg' hb' _)
   go_ret
   refine ⟨_, rfl, ?_, (hb.alloc hz _).trans hb'⟩
   rw [← HA.out, HV.out, z2n, show bv [UInt8.ofNat z] = [.int .u8 (z : Nat)] by simp [bv, UInt8.toNat_ofNat']; omega]
   exact hown'
  ·obtain ⟨f, rfl⟩ : ∃ g, f = g + 1 := by
    cases f with
    | zero => exfalso; simp at hzf; omega
    | succ f => exact ⟨f, rfl⟩
   have hv := za0 f z hlt
   have HV := ya hv
   have hd : decide ((127 : Int) < (z : Int)) = true := by simp; omega
   have ho := zfb z
   have hq : z / 128 < 128 ^ (f + 1) := by
    rw [Nat.div_lt_iff_lt_mul (by omega)]; rw [Nat.pow_succ] at hzf; exact hzf
   have HQ := ya hq
   clear hv hzf hq
   go_wp2_with (at_builtin; refine z27 rfl rfl z2p rfl (hown.alloc _) rfl (Rd.new1 _ _ _) (z3r rfl) (by rw [z0r]; omega) (by simp; omega) ?_; intro v' w' hown' hg' hb' _)
   refine ⟨⟨f, z / 128, acc ++ [UInt8.ofNat (z % 128 + 128)], by simp, HQ.out, by simp; omega, by rw [← HA.out, HV.out, List.append_assoc]; rfl, ?_, (hb.alloc hz _).trans hb'⟩, ?_⟩
   ·rw [z2n, show bv [UInt8.ofNat (z % 128 + 128)] = [.int .u8 ((z % 128 + 128 : Nat) : Int)] by simp [bv, UInt8.toNat_ofNat']; omega]
    exact hown'
   ·simp [intOf]; omega
theorem zwd (n : Int) (m : Nat) (w : World) (hn : n = m) (hm : m < 1099511627776) :
  Calls Tryz.prog 106 #[.int .i64 n] w fun e w' => ∃ v, e = .returned v ∧ Own w' w.heap.size 5 v (bv (z2r 9 (2 * m))) ∧ Below w.heap.size w w' := by
 subst hn; exact zwc m w hm
theorem zm9 (s : ByteArray) (w : World) (hs : s.size < 1073741824) :
  Calls Tryz.prog 141 #[.string s] w fun e w' => ∃ v, e = .returned v ∧ Own w' w.heap.size 5 v (bv (z1q s.data.toList)) ∧ Below w.heap.size w w' := by
 go_enter Tryz.func141, Tryz.ntmps141
 go_wp2_with fail
 refine (zwd _ s.size _ rfl (by omega)).mono ?_
 rintro e w1 ⟨v1, rfl, hown1, hb1⟩
 have hl := z9h 9 (2 * s.size)
 have hz := hb1.size
 go_wp2_with (at_builtin; refine zmc rfl rfl rfl hown1 rfl (by rw [z0r]; omega) hz ?_; intro v' w' hown' hb')
 go_ret
 refine ⟨_, rfl, ?_, hb1.trans hb'⟩
 unfold z1q
 rw [z2n, show s.data.toList.length = s.size by simp]
 exact hown'
section
variable {P : Program} {ops : Array Oper} {Q : Exit → Act → World → Prop} {S : World → Prop} {t : Nat}
theorem WpT.fork3 {i j k : Nat} {o o' o'' : Oper} {f : Nat} {listed : Array Bool} {a : Act} {w : World} (hl : ops.toList[i]? = some o) (hl' : ops.toList[j]? = some o') (hl'' : ops.toList[k]? = some o'') (hr : Region.ready .any ops listed = [i, j, k])
  (h : ∀ K : Act → World → Prop, (∀ a w, S w → WpT P ops Q S t f (listed.setIfInBounds i true) a w → K a w) →
   if Region.wanted o (yielded ops a.tmps) = true then o.wp P a w K Q else K (a.put o.dst undef) w)
  (h' : ∀ K : Act → World → Prop, (∀ a w, S w → WpT P ops Q S t f (listed.setIfInBounds j true) a w → K a w) →
   if Region.wanted o' (yielded ops a.tmps) = true then o'.wp P a w K Q else K (a.put o'.dst undef) w)
  (h'' : ∀ K : Act → World → Prop, (∀ a w, S w → WpT P ops Q S t f (listed.setIfInBounds k true) a w → K a w) →
   if Region.wanted o'' (yielded ops a.tmps) = true then o''.wp P a w K Q else K (a.put o''.dst undef) w) : WpT P ops Q S t (f + 1) listed a w := by
 have hi : ops[i]? = some o := by rwa [Array.getElem?_toList] at hl
 have hj : ops[j]? = some o' := by rwa [Array.getElem?_toList] at hl'
 have hk : ops[k]? = some o'' := by rwa [Array.getElem?_toList] at hl''
 refine ⟨fun h0 => (by rw [hr] at h0; cases h0), fun q hq => ?_⟩
 rw [hr] at hq
 rcases (show q = i ∨ q = j ∨ q = k by simpa using hq) with rfl | rfl | rfl
 ·have := h (fun a' w' => (q = t ∨ listed.getD t false = true ∨ S w') ∧ WpT P ops Q S t f (listed.setIfInBounds q true) a' w') (fun a w hS hW => ⟨.inr (.inr hS), hW⟩)
  unfold wpOp
  simp only [hi]
  split
  ·rename_i hw; rw [if_pos hw] at this; exact .inl this
  ·rename_i hw; rw [if_neg hw] at this; exact this
 ·have := h' (fun a' w' => (q = t ∨ listed.getD t false = true ∨ S w') ∧ WpT P ops Q S t f (listed.setIfInBounds q true) a' w') (fun a w hS hW => ⟨.inr (.inr hS), hW⟩)
  unfold wpOp
  simp only [hj]
  split
  ·rename_i hw; rw [if_pos hw] at this; exact .inl this
  ·rename_i hw; rw [if_neg hw] at this; exact this
 ·have := h'' (fun a' w' => (q = t ∨ listed.getD t false = true ∨ S w') ∧ WpT P ops Q S t f (listed.setIfInBounds q true) a' w') (fun a w hS hW => ⟨.inr (.inr hS), hW⟩)
  unfold wpOp
  simp only [hk]
  split
  ·rename_i hw; rw [if_pos hw] at this; exact .inl this
  ·rename_i hw; rw [if_neg hw] at this; exact this
end
section
variable {P : Program} {w : World} {o : Oper} {a : Act} {K : Act → World → Prop} {Q : Exit → Act → World → Prop}
theorem z5k {e : TypeId} {z : Value} (ho : o.op = .alloc e) (hz : (zeroValue e).run P w = .ok z w)
  (h : ∀ w' g, g = w.heap.size → Blk w' g e z.cells → Below w.heap.size w w' → K (a.put o.dst (.pointer (some ⟨g, 0, none⟩))) w') : o.wp P a w K Q :=
 z83 ho hz (h _ _ rfl (Blk.new _ _ _) ((Below.refl _ _).alloc (Nat.le_refl _) _))
theorem zbk {t e : TypeId} {x : Operand} {u : Value} (ho : o.op = .buildSlice t 1 #[(0, x)]) (hx : a.eval x = u)
  (hr : (Instr.buildSlice t 1 #[(0, u)]).run P w = .ok (.slice (some ⟨w.heap.size, 0, none⟩) 1 1) (w.alloc (.cells #[u] e)))
  (h : ∀ w' g, g = w.heap.size → Rd w' (some ⟨g, 0, none⟩) 1 [u] → Below w.heap.size w w' → K (a.put o.dst (.slice (some ⟨g, 0, none⟩) 1 1)) w') : o.wp P a w K Q := by
 have h2 := h _ _ rfl (Rd.new1 w u e) ((Below.refl _ _).alloc (Nat.le_refl _) _)
 unfold Oper.wp execOp
 simp only [ho, List.map_toArray, List.map_cons, List.map_nil, hx, hr, Sem.run_bind, Result.andThen_ok, Sem.run_pure]
 exact h2
theorem z0g {src dst e : TypeId} {x : Operand} (ho : o.op = .convert src dst x) (hT : z8x P src e) (hd : P.underlying dst = some .string) {A : Option Addr} {n c : Nat} {l : List UInt8} (hx : a.eval x = .slice A n c) (h : Rd w A n (bv l))
  (k : K (a.put o.dst (.string ⟨l.toArray⟩)) w) : o.wp P a w K Q := by
 unfold Oper.wp execOp
 simp only [ho, hx, Sem.run_bind, zfo (w := w) (c := c) hT hd h, Result.andThen_ok, Sem.run_pure]
 exact k
end
theorem zx0 {P : Program} {w : World} {ops : Array Oper} {rest : List Oper} {o : Oper} {a : Act} {Q : Exit → Act → World → Prop} (hgd : o.guard = none) {ty : TypeId} {x : Operand} (ho : o.op = .load ty x)
  {g off n : Nat} (hx : a.eval x = .pointer (some ⟨g, off, none⟩)) {T : TypeId} {cs : Array Value} (hb : Blk w g T cs) (hn : off + n ≤ cs.size) (hu : (P.underlying ty).map z0c = some true)
  (hi : (P.info? ty).map (·.size) = some n) {v : Value} (hv : .agg (cs.extract off (off + n)) = v) (h : wpList P ops Q rest (a.put o.dst v) w) : wpList P ops Q (o :: rest) a w := by
 subst hv
 cases hd : P.underlying ty with
 | none => rw [hd] at hu; cases hu
 | some d =>
  rw [hd] at hu
  refine wpList_load_mid hgd ty x ho g off hx (cs.extract off (off + n)).toList d (World.rangeAt_of_block hb off n) hd (by cases d <;> simp_all [z0c]) (by rw [hi]; simp; omega) ?_
  rw [Array.toArray_toList]
  exact h
theorem z1p {P : Program} {w : World} {ops : Array Oper} {rest : List Oper} {o1 o2 : Oper} {a : Act} {Q : Exit → Act → World → Prop} (hg1 : o1.guard = none) (hg2 : o2.guard = none) {e ty : TypeId} {z : Array Value} (h1 : o1.op = .alloc e)
  {x y : Operand} (h2 : o2.op = .store ty x y) (hz : (zeroValue e).run P w = .ok (.agg z) w) (hx : ∀ p, (a.put o1.dst (.pointer p)).eval x = .pointer p) {vs : Array Value} (hy : ∀ p, (a.put o1.dst (.pointer p)).eval y = .agg vs)
  (hs : vs.size = z.size) (hi : (P.info? ty).map (·.size) = some vs.size) (hone : vs.all (·.oneCell') = true)
  (h : ∀ w' g, g = w.heap.size → Blk w' g e vs → Below w.heap.size w w' → g < w'.heap.size → wpList P ops Q rest ((a.put o1.dst (.pointer (some ⟨g, 0, none⟩))).put o2.dst undef) w') : wpList P ops Q (o1 :: o2 :: rest) a w := by
 refine z5j hg1 h1 hz ?_
 have hB : Blk (w.alloc (.cells z e)) w.heap.size e z := Blk.new _ _ _
 refine z2l hg2 h2 (hx _) (hy _) hB (by omega) hi hone ?_
 exact h _ w.heap.size rfl (hB.all vs hs) (z0x ((Below.refl _ _).alloc (Nat.le_refl _) _) (Nat.le_refl _) 0 vs.toList) (by rw [z7d]; exact hB.lt)
theorem zak (u : Value) (h1 : u.oneCell' = true) (W : World) : (Instr.buildSlice 102 1 #[(0, u)]).run Tryz.prog W = .ok (.slice (some ⟨W.heap.size, 0, none⟩) 1 1) (W.alloc (.cells #[u] 5)) := by
 cases u <;> first | (simp [Value.oneCell'] at h1; done) | kernel_rfl
end
section
open Go.RowKit Sha
def z07 (tag : Int) (l : List ByteArray) : List UInt8 := yk tag :: l.flatMap fun s => z1q s.data.toList
theorem zij (tag : Int) (l : List ByteArray) (s : ByteArray) : z07 tag (l ++ [s]) = z07 tag l ++ z1q s.data.toList := by simp [z07]
theorem zf1 (s : ByteArray) : (z1q s.data.toList).length ≤ 10 + s.size := by
 have := z9h 9 (2 * s.data.toList.length)
 have h : s.data.toList.length = s.size := by simp
 simp only [z1q, List.length_append]; omega
theorem zau (tag : Int) (l : List ByteArray) (M : Nat) (h : ∀ s ∈ l, s.size ≤ M) : (z07 tag l).length ≤ 1 + l.length * (10 + M) := by
 induction l with
 | nil => simp [z07]
 | cons s l ih =>
  have h1 := zf1 s
  have h2 := h s (by simp)
  have h3 := ih fun x hx => h x (by simp [hx])
  simp only [z07, List.flatMap_cons, List.length_cons, List.length_append] at h3 ⊢
  have : (l.length + 1) * (10 + M) = l.length * (10 + M) + (10 + M) := by rw [Nat.add_mul, Nat.one_mul]
  omega
def z0p : Array Value := (bv (List.replicate 16 0)).toArray
theorem z8w (W : World) : (zeroValue 25).run Tryz.prog W = .ok (.agg z0p) W := by kernel_rfl
theorem z6v (l : List UInt8) : (bv l).toArray.all (·.oneCell') = true := by simp [bv, Value.oneCell']
def z12 (m : List UInt8) : List UInt8 := (sha m).take 16
theorem z8m (m : List UInt8) : (z12 m).length = 16 := by simp [z12, zaw]
theorem zay (tag : Int) (A : Option Addr) (n c : Nat) (l : List ByteArray) (w : World) (hn : n ≤ 4096) (hs : ∀ s ∈ l, s.size ≤ 65536) (hr : Rd w A n (sv l)) (hg : GCon w) :
  Calls Tryz.prog 98 #[.int .i64 tag, .slice A n c] w fun e w' => e = .returned (.agg (bv (z12 (z07 tag l))).toArray) ∧ Below w.heap.size w w' := by
 have hl : l.length = n := by have := hr.len; simpa using this
 have HL := ya hl
 have hil := zau tag l 65536 hs
 have hil2 : (z07 tag l).length ≤ 549755813888 := by
  have h2 : l.length * (10 + 65536) ≤ 4096 * (10 + 65536) := Nat.mul_le_mul_right _ (by omega)
  omega
 have HD := ya (fun (b' : List UInt8) (W : World) (hT : z1z (z07 tag l) b') (hg : GCon W) => zv9 (z07 tag l) b' W hT hil2 hg)
 have HLN := ya (zaw (z07 tag l))
 unfold z12
 clear hl hil hil2
 generalize sha (z07 tag l) = S at HD HLN ⊢
 have hz := z4i
 have hz16 := z8w
 go_enter Tryz.func98, Tryz.ntmps98
 go_wp2_with fail
 obtain ⟨wa, hwa, ba, hR, hra, hga⟩ : ∃ wa : World, wa = w.alloc (.cells z0p 25) ∧ Below w.heap.size w wa ∧ Blk wa w.heap.size 25 z0p ∧ Rd wa A n (sv l) ∧ GCon wa := by
  have b := (Below.refl w.heap.size w).alloc (Nat.le_refl _) (.cells z0p 25)
  exact ⟨_, rfl, b, Blk.new _ _ _, hr.below b, hg.below b⟩
 rw [← hwa]
 clear hwa hz16
 have hlt0 := hR.lt
 go_cut [5] from 9 to 14 (fun v5 w3 => ∃ (b5 : Nat) (b' : List UInt8), v5 = .pointer (some ⟨b5, 0, none⟩) ∧ w.heap.size < b5 ∧ z1z [yk tag] b' ∧ Below wa.heap.size wa w3 ∧ Blk w3 b5 191 (yt [yk tag] b'))
 case first =>
  have hS0 : Below wa.heap.size wa wa.drew := (Below.refl _ wa).drew
  have hbt : [Value.int .u8 (tag % 256)] = bv [yk tag] := by simp [bv, zhd]
  have HBT := ya hbt
  have hzz : z2d.size = 73 := z26 _ _ _ (by simp)
  have HZZ := ya hzz
  clear hbt hzz hz
  refine yz 7 (by kernel_rfl) ?_
  refine WpT.tk 1 ((Below.refl _ _).drew) ?_
  simp only [nrm]
  refine WpT.tk 2 ((Below.refl _ _).drew) ?_
  simp only [nrm]
  refine WpT.fork3 (i := 0) (j := 3) (k := 6) rfl rfl rfl (by kernel_rfl) (fun K hK => ?_) (fun K hK => ?_) (fun K hK => ?_)
  ·go_simp; refine (z6w _).mono ?_; rintro e w1 ⟨rfl, hb1⟩; have hS1 : Below wa.heap.size wa w1 := yb (by assumption) hb1; (try replace hrd := hrd.below hb1); (try replace hBv := hBv.below hb1)
   refine hK _ _ (by assumption) ?_; clear hK K; try simp only [nrm]
   refine WpT.fork (i := 3) (j := 6) rfl rfl (by kernel_rfl) (fun K hK => ?_) (fun K hK => ?_)
   ·rw [if_pos (by rfl)]; refine zbk rfl rfl (zak _ rfl _) ?_; intro w3 g3 hg3 hrd hb3; clear hg3; have hS3 : Below wa.heap.size wa w3 := yb (by assumption) hb3; (try replace hBv := hBv.below hb3)
    refine hK _ _ (by assumption) ?_; clear hK K; try simp only [nrm]
    refine WpT.fork (i := 4) (j := 6) rfl rfl (by kernel_rfl) (fun K hK => ?_) (fun K hK => ?_)
    ·rw [if_pos (by rfl)]; change Rd _ _ _ [Value.int .u8 (tag % 256)] at hrd; rw [HBT.out] at hrd; refine z0g rfl z06 z5i rfl hrd ?_
     refine hK _ _ (by assumption) ?_; clear hK K; try simp only [nrm]
     refine WpT.fork (i := 5) (j := 6) rfl rfl (by kernel_rfl) (fun K hK => ?_) (fun K hK => ?_)
     ·go_simp; refine (z3u [] (List.replicate 64 0) _ _ (z1z.nil _ (by simp)) (by show 0 + 1 ≤ _; omega) (by exact hga.below (by assumption))).mono ?_; rintro e w5 ⟨b', he, hT, hb5⟩; replace he : e = .returned (.agg (yt [yk tag] b')) := he; subst he; have hS5 : Below wa.heap.size wa w5 := yb (by assumption) hb5; (try replace hBv := hBv.below hb5)
      refine hK _ _ (by assumption) ?_; clear hK K; try simp only [nrm]
      refine WpT.on 6 rfl (fun K hK => ?_)
      rw [if_pos (by rfl)]; refine z5k rfl (z4i _) ?_; intro w6 g5 hg5 hBv hb6; replace hg5 : wa.heap.size ≤ g5 := (by rw [hg5]; exact Below.size (by assumption)); have hS6 : Below wa.heap.size wa w6 := yb (by assumption) hb6; (try replace hrd := hrd.below hb6)
      refine hK _ _ (by assumption) ?_; clear hK K; try simp only [nrm]
      refine WpT.ta 7 rfl (fun K hK => ?_)
      rw [if_pos (by rfl)]; have hsz := z26 (stN [yk tag] ([yk tag].length / 64)) b' [yk tag].length hT.len; change (yt [yk tag] b').size = 73 at hsz; refine z3b (g := g5) (o := 0) (vs := yt [yk tag] b') rfl rfl rfl hBv (by rw [hsz]; show 0 + 73 ≤ z2d.size; rw [HZZ.out]; decide) (by rw [hsz]; kernel_rfl) (z3i _ _ _) ?_
      refine hK _ _ ?_; clear hK K; try simp only [nrm]
      refine WpT.done (by kernel_rfl) ?_ _
      have hf := Blk.all hBv (yt [yk tag] b') (by rw [hsz]; exact HZZ.out.symm); go_wp2; go_meet; case rel => exact ⟨g5, b', rfl, by omega, hT, z0x (by assumption) hg5 0 _, hf⟩
     ·rw [if_pos (by rfl)]; refine z5k rfl (z4i _) ?_; intro w6 g5 hg5 hBv hb6; replace hg5 : wa.heap.size ≤ g5 := (by rw [hg5]; exact Below.size (by assumption)); have hS6 : Below wa.heap.size wa w6 := yb (by assumption) hb6; (try replace hrd := hrd.below hb6)
      refine hK _ _ (by assumption) ?_; clear hK K; try simp only [nrm]
      refine WpT.on 5 rfl (fun K hK => ?_)
      go_simp; refine (z3u [] (List.replicate 64 0) _ _ (z1z.nil _ (by simp)) (by show 0 + 1 ≤ _; omega) (by exact hga.below (by assumption))).mono ?_; rintro e w5 ⟨b', he, hT, hb5⟩; replace he : e = .returned (.agg (yt [yk tag] b')) := he; subst he; have hS5 : Below wa.heap.size wa w5 := yb (by assumption) hb5; (try replace hBv := hBv.below hb5)
      refine hK _ _ (by assumption) ?_; clear hK K; try simp only [nrm]
      refine WpT.ta 7 rfl (fun K hK => ?_)
      rw [if_pos (by rfl)]; have hsz := z26 (stN [yk tag] ([yk tag].length / 64)) b' [yk tag].length hT.len; change (yt [yk tag] b').size = 73 at hsz; refine z3b (g := g5) (o := 0) (vs := yt [yk tag] b') rfl rfl rfl hBv (by rw [hsz]; show 0 + 73 ≤ z2d.size; rw [HZZ.out]; decide) (by rw [hsz]; kernel_rfl) (z3i _ _ _) ?_
      refine hK _ _ ?_; clear hK K; try simp only [nrm]
      refine WpT.done (by kernel_rfl) ?_ _
      have hf := Blk.all hBv (yt [yk tag] b') (by rw [hsz]; exact HZZ.out.symm); go_wp2; go_meet; case rel => exact ⟨g5, b', rfl, by omega, hT, z0x (by assumption) hg5 0 _, hf⟩
    ·rw [if_pos (by rfl)]; refine z5k rfl (z4i _) ?_; intro w6 g5 hg5 hBv hb6; replace hg5 : wa.heap.size ≤ g5 := (by rw [hg5]; exact Below.size (by assumption)); have hS6 : Below wa.heap.size wa w6 := yb (by assumption) hb6; (try replace hrd := hrd.below hb6)
     refine hK _ _ (by assumption) ?_; clear hK K; try simp only [nrm]
     refine WpT.on 4 rfl (fun K hK => ?_)
     rw [if_pos (by rfl)]; change Rd _ _ _ [Value.int .u8 (tag % 256)] at hrd; rw [HBT.out] at hrd; refine z0g rfl z06 z5i rfl hrd ?_
     refine hK _ _ (by assumption) ?_; clear hK K; try simp only [nrm]
     refine WpT.on 5 rfl (fun K hK => ?_)
     go_simp; refine (z3u [] (List.replicate 64 0) _ _ (z1z.nil _ (by simp)) (by show 0 + 1 ≤ _; omega) (by exact hga.below (by assumption))).mono ?_; rintro e w5 ⟨b', he, hT, hb5⟩; replace he : e = .returned (.agg (yt [yk tag] b')) := he; subst he; have hS5 : Below wa.heap.size wa w5 := yb (by assumption) hb5; (try replace hBv := hBv.below hb5)
     refine hK _ _ (by assumption) ?_; clear hK K; try simp only [nrm]
     refine WpT.ta 7 rfl (fun K hK => ?_)
     rw [if_pos (by rfl)]; have hsz := z26 (stN [yk tag] ([yk tag].length / 64)) b' [yk tag].length hT.len; change (yt [yk tag] b').size = 73 at hsz; refine z3b (g := g5) (o := 0) (vs := yt [yk tag] b') rfl rfl rfl hBv (by rw [hsz]; show 0 + 73 ≤ z2d.size; rw [HZZ.out]; decide) (by rw [hsz]; kernel_rfl) (z3i _ _ _) ?_
     refine hK _ _ ?_; clear hK K; try simp only [nrm]
     refine WpT.done (by kernel_rfl) ?_ _
     have hf := Blk.all hBv (yt [yk tag] b') (by rw [hsz]; exact HZZ.out.symm); go_wp2; go_meet; case rel => exact ⟨g5, b', rfl, by omega, hT, z0x (by assumption) hg5 0 _, hf⟩
   ·rw [if_pos (by rfl)]; refine z5k rfl (z4i _) ?_; intro w6 g5 hg5 hBv hb6; replace hg5 : wa.heap.size ≤ g5 := (by rw [hg5]; exact Below.size (by assumption)); have hS6 : Below wa.heap.size wa w6 := yb (by assumption) hb6; (try replace hrd := hrd.below hb6)
    refine hK _ _ (by assumption) ?_; clear hK K; try simp only [nrm]
    refine WpT.on 3 rfl (fun K hK => ?_)
    rw [if_pos (by rfl)]; refine zbk rfl rfl (zak _ rfl _) ?_; intro w3 g3 hg3 hrd hb3; clear hg3; have hS3 : Below wa.heap.size wa w3 := yb (by assumption) hb3; (try replace hBv := hBv.below hb3)
    refine hK _ _ (by assumption) ?_; clear hK K; try simp only [nrm]
    refine WpT.on 4 rfl (fun K hK => ?_)
    rw [if_pos (by rfl)]; change Rd _ _ _ [Value.int .u8 (tag % 256)] at hrd; rw [HBT.out] at hrd; refine z0g rfl z06 z5i rfl hrd ?_
    refine hK _ _ (by assumption) ?_; clear hK K; try simp only [nrm]
    refine WpT.on 5 rfl (fun K hK => ?_)
    go_simp; refine (z3u [] (List.replicate 64 0) _ _ (z1z.nil _ (by simp)) (by show 0 + 1 ≤ _; omega) (by exact hga.below (by assumption))).mono ?_; rintro e w5 ⟨b', he, hT, hb5⟩; replace he : e = .returned (.agg (yt [yk tag] b')) := he; subst he; have hS5 : Below wa.heap.size wa w5 := yb (by assumption) hb5; (try replace hBv := hBv.below hb5)
    refine hK _ _ (by assumption) ?_; clear hK K; try simp only [nrm]
    refine WpT.ta 7 rfl (fun K hK => ?_)
    rw [if_pos (by rfl)]; have hsz := z26 (stN [yk tag] ([yk tag].length / 64)) b' [yk tag].length hT.len; change (yt [yk tag] b').size = 73 at hsz; refine z3b (g := g5) (o := 0) (vs := yt [yk tag] b') rfl rfl rfl hBv (by rw [hsz]; show 0 + 73 ≤ z2d.size; rw [HZZ.out]; decide) (by rw [hsz]; kernel_rfl) (z3i _ _ _) ?_
    refine hK _ _ ?_; clear hK K; try simp only [nrm]
    refine WpT.done (by kernel_rfl) ?_ _
    have hf := Blk.all hBv (yt [yk tag] b') (by rw [hsz]; exact HZZ.out.symm); go_wp2; go_meet; case rel => exact ⟨g5, b', rfl, by omega, hT, z0x (by assumption) hg5 0 _, hf⟩
  ·rw [if_pos (by rfl)]; refine zbk rfl rfl (zak _ rfl _) ?_; intro w3 g3 hg3 hrd hb3; clear hg3; have hS3 : Below wa.heap.size wa w3 := yb (by assumption) hb3; (try replace hBv := hBv.below hb3)
   refine hK _ _ (by assumption) ?_; clear hK K; try simp only [nrm]
   refine WpT.fork3 (i := 0) (j := 4) (k := 6) rfl rfl rfl (by kernel_rfl) (fun K hK => ?_) (fun K hK => ?_) (fun K hK => ?_)
   ·go_simp; refine (z6w _).mono ?_; rintro e w1 ⟨rfl, hb1⟩; have hS1 : Below wa.heap.size wa w1 := yb (by assumption) hb1; (try replace hrd := hrd.below hb1); (try replace hBv := hBv.below hb1)
    refine hK _ _ (by assumption) ?_; clear hK K; try simp only [nrm]
    refine WpT.fork (i := 4) (j := 6) rfl rfl (by kernel_rfl) (fun K hK => ?_) (fun K hK => ?_)
    ·rw [if_pos (by rfl)]; change Rd _ _ _ [Value.int .u8 (tag % 256)] at hrd; rw [HBT.out] at hrd; refine z0g rfl z06 z5i rfl hrd ?_
     refine hK _ _ (by assumption) ?_; clear hK K; try simp only [nrm]
     refine WpT.fork (i := 5) (j := 6) rfl rfl (by kernel_rfl) (fun K hK => ?_) (fun K hK => ?_)
     ·go_simp; refine (z3u [] (List.replicate 64 0) _ _ (z1z.nil _ (by simp)) (by show 0 + 1 ≤ _; omega) (by exact hga.below (by assumption))).mono ?_; rintro e w5 ⟨b', he, hT, hb5⟩; replace he : e = .returned (.agg (yt [yk tag] b')) := he; subst he; have hS5 : Below wa.heap.size wa w5 := yb (by assumption) hb5; (try replace hBv := hBv.below hb5)
      refine hK _ _ (by assumption) ?_; clear hK K; try simp only [nrm]
      refine WpT.on 6 rfl (fun K hK => ?_)
      rw [if_pos (by rfl)]; refine z5k rfl (z4i _) ?_; intro w6 g5 hg5 hBv hb6; replace hg5 : wa.heap.size ≤ g5 := (by rw [hg5]; exact Below.size (by assumption)); have hS6 : Below wa.heap.size wa w6 := yb (by assumption) hb6; (try replace hrd := hrd.below hb6)
      refine hK _ _ (by assumption) ?_; clear hK K; try simp only [nrm]
      refine WpT.ta 7 rfl (fun K hK => ?_)
      rw [if_pos (by rfl)]; have hsz := z26 (stN [yk tag] ([yk tag].length / 64)) b' [yk tag].length hT.len; change (yt [yk tag] b').size = 73 at hsz; refine z3b (g := g5) (o := 0) (vs := yt [yk tag] b') rfl rfl rfl hBv (by rw [hsz]; show 0 + 73 ≤ z2d.size; rw [HZZ.out]; decide) (by rw [hsz]; kernel_rfl) (z3i _ _ _) ?_
      refine hK _ _ ?_; clear hK K; try simp only [nrm]
      refine WpT.done (by kernel_rfl) ?_ _
      have hf := Blk.all hBv (yt [yk tag] b') (by rw [hsz]; exact HZZ.out.symm); go_wp2; go_meet; case rel => exact ⟨g5, b', rfl, by omega, hT, z0x (by assumption) hg5 0 _, hf⟩
     ·rw [if_pos (by rfl)]; refine z5k rfl (z4i _) ?_; intro w6 g5 hg5 hBv hb6; replace hg5 : wa.heap.size ≤ g5 := (by rw [hg5]; exact Below.size (by assumption)); have hS6 : Below wa.heap.size wa w6 := yb (by assumption) hb6; (try replace hrd := hrd.below hb6)
      refine hK _ _ (by assumption) ?_; clear hK K; try simp only [nrm]
      refine WpT.on 5 rfl (fun K hK => ?_)
      go_simp; refine (z3u [] (List.replicate 64 0) _ _ (z1z.nil _ (by simp)) (by show 0 + 1 ≤ _; omega) (by exact hga.below (by assumption))).mono ?_; rintro e w5 ⟨b', he, hT, hb5⟩; replace he : e = .returned (.agg (yt [yk tag] b')) := he; subst he; have hS5 : Below wa.heap.size wa w5 := yb (by assumption) hb5; (try replace hBv := hBv.below hb5)
      refine hK _ _ (by assumption) ?_; clear hK K; try simp only [nrm]
      refine WpT.ta 7 rfl (fun K hK => ?_)
      rw [if_pos (by rfl)]; have hsz := z26 (stN [yk tag] ([yk tag].length / 64)) b' [yk tag].length hT.len; change (yt [yk tag] b').size = 73 at hsz; refine z3b (g := g5) (o := 0) (vs := yt [yk tag] b') rfl rfl rfl hBv (by rw [hsz]; show 0 + 73 ≤ z2d.size; rw [HZZ.out]; decide) (by rw [hsz]; kernel_rfl) (z3i _ _ _) ?_
      refine hK _ _ ?_; clear hK K; try simp only [nrm]
      refine WpT.done (by kernel_rfl) ?_ _
      have hf := Blk.all hBv (yt [yk tag] b') (by rw [hsz]; exact HZZ.out.symm); go_wp2; go_meet; case rel => exact ⟨g5, b', rfl, by omega, hT, z0x (by assumption) hg5 0 _, hf⟩
    ·rw [if_pos (by rfl)]; refine z5k rfl (z4i _) ?_; intro w6 g5 hg5 hBv hb6; replace hg5 : wa.heap.size ≤ g5 := (by rw [hg5]; exact Below.size (by assumption)); have hS6 : Below wa.heap.size wa w6 := yb (by assumption) hb6; (try replace hrd := hrd.below hb6)
     refine hK _ _ (by assumption) ?_; clear hK K; try simp only [nrm]
     refine WpT.on 4 rfl (fun K hK => ?_)
     rw [if_pos (by rfl)]; change Rd _ _ _ [Value.int .u8 (tag % 256)] at hrd; rw [HBT.out] at hrd; refine z0g rfl z06 z5i rfl hrd ?_
     refine hK _ _ (by assumption) ?_; clear hK K; try simp only [nrm]
     refine WpT.on 5 rfl (fun K hK => ?_)
     go_simp; refine (z3u [] (List.replicate 64 0) _ _ (z1z.nil _ (by simp)) (by show 0 + 1 ≤ _; omega) (by exact hga.below (by assumption))).mono ?_; rintro e w5 ⟨b', he, hT, hb5⟩; replace he : e = .returned (.agg (yt [yk tag] b')) := he; subst he; have hS5 : Below wa.heap.size wa w5 := yb (by assumption) hb5; (try replace hBv := hBv.below hb5)
     refine hK _ _ (by assumption) ?_; clear hK K; try simp only [nrm]
     refine WpT.ta 7 rfl (fun K hK => ?_)
     rw [if_pos (by rfl)]; have hsz := z26 (stN [yk tag] ([yk tag].length / 64)) b' [yk tag].length hT.len; change (yt [yk tag] b').size = 73 at hsz; refine z3b (g := g5) (o := 0) (vs := yt [yk tag] b') rfl rfl rfl hBv (by rw [hsz]; show 0 + 73 ≤ z2d.size; rw [HZZ.out]; decide) (by rw [hsz]; kernel_rfl) (z3i _ _ _) ?_
     refine hK _ _ ?_; clear hK K; try simp only [nrm]
     refine WpT.done (by kernel_rfl) ?_ _
     have hf := Blk.all hBv (yt [yk tag] b') (by rw [hsz]; exact HZZ.out.symm); go_wp2; go_meet; case rel => exact ⟨g5, b', rfl, by omega, hT, z0x (by assumption) hg5 0 _, hf⟩
   ·rw [if_pos (by rfl)]; change Rd _ _ _ [Value.int .u8 (tag % 256)] at hrd; rw [HBT.out] at hrd; refine z0g rfl z06 z5i rfl hrd ?_
    refine hK _ _ (by assumption) ?_; clear hK K; try simp only [nrm]
    refine WpT.fork (i := 0) (j := 6) rfl rfl (by kernel_rfl) (fun K hK => ?_) (fun K hK => ?_)
    ·go_simp; refine (z6w _).mono ?_; rintro e w1 ⟨rfl, hb1⟩; have hS1 : Below wa.heap.size wa w1 := yb (by assumption) hb1; (try replace hrd := hrd.below hb1); (try replace hBv := hBv.below hb1)
     refine hK _ _ (by assumption) ?_; clear hK K; try simp only [nrm]
     refine WpT.fork (i := 5) (j := 6) rfl rfl (by kernel_rfl) (fun K hK => ?_) (fun K hK => ?_)
     ·go_simp; refine (z3u [] (List.replicate 64 0) _ _ (z1z.nil _ (by simp)) (by show 0 + 1 ≤ _; omega) (by exact hga.below (by assumption))).mono ?_; rintro e w5 ⟨b', he, hT, hb5⟩; replace he : e = .returned (.agg (yt [yk tag] b')) := he; subst he; have hS5 : Below wa.heap.size wa w5 := yb (by assumption) hb5; (try replace hBv := hBv.below hb5)
      refine hK _ _ (by assumption) ?_; clear hK K; try simp only [nrm]
      refine WpT.on 6 rfl (fun K hK => ?_)
      rw [if_pos (by rfl)]; refine z5k rfl (z4i _) ?_; intro w6 g5 hg5 hBv hb6; replace hg5 : wa.heap.size ≤ g5 := (by rw [hg5]; exact Below.size (by assumption)); have hS6 : Below wa.heap.size wa w6 := yb (by assumption) hb6; (try replace hrd := hrd.below hb6)
      refine hK _ _ (by assumption) ?_; clear hK K; try simp only [nrm]
      refine WpT.ta 7 rfl (fun K hK => ?_)
      rw [if_pos (by rfl)]; have hsz := z26 (stN [yk tag] ([yk tag].length / 64)) b' [yk tag].length hT.len; change (yt [yk tag] b').size = 73 at hsz; refine z3b (g := g5) (o := 0) (vs := yt [yk tag] b') rfl rfl rfl hBv (by rw [hsz]; show 0 + 73 ≤ z2d.size; rw [HZZ.out]; decide) (by rw [hsz]; kernel_rfl) (z3i _ _ _) ?_
      refine hK _ _ ?_; clear hK K; try simp only [nrm]
      refine WpT.done (by kernel_rfl) ?_ _
      have hf := Blk.all hBv (yt [yk tag] b') (by rw [hsz]; exact HZZ.out.symm); go_wp2; go_meet; case rel => exact ⟨g5, b', rfl, by omega, hT, z0x (by assumption) hg5 0 _, hf⟩
     ·rw [if_pos (by rfl)]; refine z5k rfl (z4i _) ?_; intro w6 g5 hg5 hBv hb6; replace hg5 : wa.heap.size ≤ g5 := (by rw [hg5]; exact Below.size (by assumption)); have hS6 : Below wa.heap.size wa w6 := yb (by assumption) hb6; (try replace hrd := hrd.below hb6)
      refine hK _ _ (by assumption) ?_; clear hK K; try simp only [nrm]
      refine WpT.on 5 rfl (fun K hK => ?_)
      go_simp; refine (z3u [] (List.replicate 64 0) _ _ (z1z.nil _ (by simp)) (by show 0 + 1 ≤ _; omega) (by exact hga.below (by assumption))).mono ?_; rintro e w5 ⟨b', he, hT, hb5⟩; replace he : e = .returned (.agg (yt [yk tag] b')) := he; subst he; have hS5 : Below wa.heap.size wa w5 := yb (by assumption) hb5; (try replace hBv := hBv.below hb5)
      refine hK _ _ (by assumption) ?_; clear hK K; try simp only [nrm]
      refine WpT.ta 7 rfl (fun K hK => ?_)
      rw [if_pos (by rfl)]; have hsz := z26 (stN [yk tag] ([yk tag].length / 64)) b' [yk tag].length hT.len; change (yt [yk tag] b').size = 73 at hsz; refine z3b (g := g5) (o := 0) (vs := yt [yk tag] b') rfl rfl rfl hBv (by rw [hsz]; show 0 + 73 ≤ z2d.size; rw [HZZ.out]; decide) (by rw [hsz]; kernel_rfl) (z3i _ _ _) ?_
      refine hK _ _ ?_; clear hK K; try simp only [nrm]
      refine WpT.done (by kernel_rfl) ?_ _
      have hf := Blk.all hBv (yt [yk tag] b') (by rw [hsz]; exact HZZ.out.symm); go_wp2; go_meet; case rel => exact ⟨g5, b', rfl, by omega, hT, z0x (by assumption) hg5 0 _, hf⟩
    ·rw [if_pos (by rfl)]; refine z5k rfl (z4i _) ?_; intro w6 g5 hg5 hBv hb6; replace hg5 : wa.heap.size ≤ g5 := (by rw [hg5]; exact Below.size (by assumption)); have hS6 : Below wa.heap.size wa w6 := yb (by assumption) hb6; (try replace hrd := hrd.below hb6)
     refine hK _ _ (by assumption) ?_; clear hK K; try simp only [nrm]
     refine WpT.on 0 rfl (fun K hK => ?_)
     go_simp; refine (z6w _).mono ?_; rintro e w1 ⟨rfl, hb1⟩; have hS1 : Below wa.heap.size wa w1 := yb (by assumption) hb1; (try replace hrd := hrd.below hb1); (try replace hBv := hBv.below hb1)
     refine hK _ _ (by assumption) ?_; clear hK K; try simp only [nrm]
     refine WpT.on 5 rfl (fun K hK => ?_)
     go_simp; refine (z3u [] (List.replicate 64 0) _ _ (z1z.nil _ (by simp)) (by show 0 + 1 ≤ _; omega) (by exact hga.below (by assumption))).mono ?_; rintro e w5 ⟨b', he, hT, hb5⟩; replace he : e = .returned (.agg (yt [yk tag] b')) := he; subst he; have hS5 : Below wa.heap.size wa w5 := yb (by assumption) hb5; (try replace hBv := hBv.below hb5)
     refine hK _ _ (by assumption) ?_; clear hK K; try simp only [nrm]
     refine WpT.ta 7 rfl (fun K hK => ?_)
     rw [if_pos (by rfl)]; have hsz := z26 (stN [yk tag] ([yk tag].length / 64)) b' [yk tag].length hT.len; change (yt [yk tag] b').size = 73 at hsz; refine z3b (g := g5) (o := 0) (vs := yt [yk tag] b') rfl rfl rfl hBv (by rw [hsz]; show 0 + 73 ≤ z2d.size; rw [HZZ.out]; decide) (by rw [hsz]; kernel_rfl) (z3i _ _ _) ?_
     refine hK _ _ ?_; clear hK K; try simp only [nrm]
     refine WpT.done (by kernel_rfl) ?_ _
     have hf := Blk.all hBv (yt [yk tag] b') (by rw [hsz]; exact HZZ.out.symm); go_wp2; go_meet; case rel => exact ⟨g5, b', rfl, by omega, hT, z0x (by assumption) hg5 0 _, hf⟩
   ·rw [if_pos (by rfl)]; refine z5k rfl (z4i _) ?_; intro w6 g5 hg5 hBv hb6; replace hg5 : wa.heap.size ≤ g5 := (by rw [hg5]; exact Below.size (by assumption)); have hS6 : Below wa.heap.size wa w6 := yb (by assumption) hb6; (try replace hrd := hrd.below hb6)
    refine hK _ _ (by assumption) ?_; clear hK K; try simp only [nrm]
    refine WpT.fork (i := 0) (j := 4) rfl rfl (by kernel_rfl) (fun K hK => ?_) (fun K hK => ?_)
    ·go_simp; refine (z6w _).mono ?_; rintro e w1 ⟨rfl, hb1⟩; have hS1 : Below wa.heap.size wa w1 := yb (by assumption) hb1; (try replace hrd := hrd.below hb1); (try replace hBv := hBv.below hb1)
     refine hK _ _ (by assumption) ?_; clear hK K; try simp only [nrm]
     refine WpT.on 4 rfl (fun K hK => ?_)
     rw [if_pos (by rfl)]; change Rd _ _ _ [Value.int .u8 (tag % 256)] at hrd; rw [HBT.out] at hrd; refine z0g rfl z06 z5i rfl hrd ?_
     refine hK _ _ (by assumption) ?_; clear hK K; try simp only [nrm]
     refine WpT.on 5 rfl (fun K hK => ?_)
     go_simp; refine (z3u [] (List.replicate 64 0) _ _ (z1z.nil _ (by simp)) (by show 0 + 1 ≤ _; omega) (by exact hga.below (by assumption))).mono ?_; rintro e w5 ⟨b', he, hT, hb5⟩; replace he : e = .returned (.agg (yt [yk tag] b')) := he; subst he; have hS5 : Below wa.heap.size wa w5 := yb (by assumption) hb5; (try replace hBv := hBv.below hb5)
     refine hK _ _ (by assumption) ?_; clear hK K; try simp only [nrm]
     refine WpT.ta 7 rfl (fun K hK => ?_)
     rw [if_pos (by rfl)]; have hsz := z26 (stN [yk tag] ([yk tag].length / 64)) b' [yk tag].length hT.len; change (yt [yk tag] b').size = 73 at hsz; refine z3b (g := g5) (o := 0) (vs := yt [yk tag] b') rfl rfl rfl hBv (by rw [hsz]; show 0 + 73 ≤ z2d.size; rw [HZZ.out]; decide) (by rw [hsz]; kernel_rfl) (z3i _ _ _) ?_
     refine hK _ _ ?_; clear hK K; try simp only [nrm]
     refine WpT.done (by kernel_rfl) ?_ _
     have hf := Blk.all hBv (yt [yk tag] b') (by rw [hsz]; exact HZZ.out.symm); go_wp2; go_meet; case rel => exact ⟨g5, b', rfl, by omega, hT, z0x (by assumption) hg5 0 _, hf⟩
    ·rw [if_pos (by rfl)]; change Rd _ _ _ [Value.int .u8 (tag % 256)] at hrd; rw [HBT.out] at hrd; refine z0g rfl z06 z5i rfl hrd ?_
     refine hK _ _ (by assumption) ?_; clear hK K; try simp only [nrm]
     refine WpT.on 0 rfl (fun K hK => ?_)
     go_simp; refine (z6w _).mono ?_; rintro e w1 ⟨rfl, hb1⟩; have hS1 : Below wa.heap.size wa w1 := yb (by assumption) hb1; (try replace hrd := hrd.below hb1); (try replace hBv := hBv.below hb1)
     refine hK _ _ (by assumption) ?_; clear hK K; try simp only [nrm]
     refine WpT.on 5 rfl (fun K hK => ?_)
     go_simp; refine (z3u [] (List.replicate 64 0) _ _ (z1z.nil _ (by simp)) (by show 0 + 1 ≤ _; omega) (by exact hga.below (by assumption))).mono ?_; rintro e w5 ⟨b', he, hT, hb5⟩; replace he : e = .returned (.agg (yt [yk tag] b')) := he; subst he; have hS5 : Below wa.heap.size wa w5 := yb (by assumption) hb5; (try replace hBv := hBv.below hb5)
     refine hK _ _ (by assumption) ?_; clear hK K; try simp only [nrm]
     refine WpT.ta 7 rfl (fun K hK => ?_)
     rw [if_pos (by rfl)]; have hsz := z26 (stN [yk tag] ([yk tag].length / 64)) b' [yk tag].length hT.len; change (yt [yk tag] b').size = 73 at hsz; refine z3b (g := g5) (o := 0) (vs := yt [yk tag] b') rfl rfl rfl hBv (by rw [hsz]; show 0 + 73 ≤ z2d.size; rw [HZZ.out]; decide) (by rw [hsz]; kernel_rfl) (z3i _ _ _) ?_
     refine hK _ _ ?_; clear hK K; try simp only [nrm]
     refine WpT.done (by kernel_rfl) ?_ _
     have hf := Blk.all hBv (yt [yk tag] b') (by rw [hsz]; exact HZZ.out.symm); go_wp2; go_meet; case rel => exact ⟨g5, b', rfl, by omega, hT, z0x (by assumption) hg5 0 _, hf⟩
  ·rw [if_pos (by rfl)]; refine z5k rfl (z4i _) ?_; intro w6 g5 hg5 hBv hb6; replace hg5 : wa.heap.size ≤ g5 := (by rw [hg5]; exact Below.size (by assumption)); have hS6 : Below wa.heap.size wa w6 := yb (by assumption) hb6; (try replace hrd := hrd.below hb6)
   refine hK _ _ (by assumption) ?_; clear hK K; try simp only [nrm]
   refine WpT.fork (i := 0) (j := 3) rfl rfl (by kernel_rfl) (fun K hK => ?_) (fun K hK => ?_)
   ·go_simp; refine (z6w _).mono ?_; rintro e w1 ⟨rfl, hb1⟩; have hS1 : Below wa.heap.size wa w1 := yb (by assumption) hb1; (try replace hrd := hrd.below hb1); (try replace hBv := hBv.below hb1)
    refine hK _ _ (by assumption) ?_; clear hK K; try simp only [nrm]
    refine WpT.on 3 rfl (fun K hK => ?_)
    rw [if_pos (by rfl)]; refine zbk rfl rfl (zak _ rfl _) ?_; intro w3 g3 hg3 hrd hb3; clear hg3; have hS3 : Below wa.heap.size wa w3 := yb (by assumption) hb3; (try replace hBv := hBv.below hb3)
    refine hK _ _ (by assumption) ?_; clear hK K; try simp only [nrm]
    refine WpT.on 4 rfl (fun K hK => ?_)
    rw [if_pos (by rfl)]; change Rd _ _ _ [Value.int .u8 (tag % 256)] at hrd; rw [HBT.out] at hrd; refine z0g rfl z06 z5i rfl hrd ?_
    refine hK _ _ (by assumption) ?_; clear hK K; try simp only [nrm]
    refine WpT.on 5 rfl (fun K hK => ?_)
    go_simp; refine (z3u [] (List.replicate 64 0) _ _ (z1z.nil _ (by simp)) (by show 0 + 1 ≤ _; omega) (by exact hga.below (by assumption))).mono ?_; rintro e w5 ⟨b', he, hT, hb5⟩; replace he : e = .returned (.agg (yt [yk tag] b')) := he; subst he; have hS5 : Below wa.heap.size wa w5 := yb (by assumption) hb5; (try replace hBv := hBv.below hb5)
    refine hK _ _ (by assumption) ?_; clear hK K; try simp only [nrm]
    refine WpT.ta 7 rfl (fun K hK => ?_)
    rw [if_pos (by rfl)]; have hsz := z26 (stN [yk tag] ([yk tag].length / 64)) b' [yk tag].length hT.len; change (yt [yk tag] b').size = 73 at hsz; refine z3b (g := g5) (o := 0) (vs := yt [yk tag] b') rfl rfl rfl hBv (by rw [hsz]; show 0 + 73 ≤ z2d.size; rw [HZZ.out]; decide) (by rw [hsz]; kernel_rfl) (z3i _ _ _) ?_
    refine hK _ _ ?_; clear hK K; try simp only [nrm]
    refine WpT.done (by kernel_rfl) ?_ _
    have hf := Blk.all hBv (yt [yk tag] b') (by rw [hsz]; exact HZZ.out.symm); go_wp2; go_meet; case rel => exact ⟨g5, b', rfl, by omega, hT, z0x (by assumption) hg5 0 _, hf⟩
   ·rw [if_pos (by rfl)]; refine zbk rfl rfl (zak _ rfl _) ?_; intro w3 g3 hg3 hrd hb3; clear hg3; have hS3 : Below wa.heap.size wa w3 := yb (by assumption) hb3; (try replace hBv := hBv.below hb3)
    refine hK _ _ (by assumption) ?_; clear hK K; try simp only [nrm]
    refine WpT.fork (i := 0) (j := 4) rfl rfl (by kernel_rfl) (fun K hK => ?_) (fun K hK => ?_)
    ·go_simp; refine (z6w _).mono ?_; rintro e w1 ⟨rfl, hb1⟩; have hS1 : Below wa.heap.size wa w1 := yb (by assumption) hb1; (try replace hrd := hrd.below hb1); (try replace hBv := hBv.below hb1)
     refine hK _ _ (by assumption) ?_; clear hK K; try simp only [nrm]
     refine WpT.on 4 rfl (fun K hK => ?_)
     rw [if_pos (by rfl)]; change Rd _ _ _ [Value.int .u8 (tag % 256)] at hrd; rw [HBT.out] at hrd; refine z0g rfl z06 z5i rfl hrd ?_
     refine hK _ _ (by assumption) ?_; clear hK K; try simp only [nrm]
     refine WpT.on 5 rfl (fun K hK => ?_)
     go_simp; refine (z3u [] (List.replicate 64 0) _ _ (z1z.nil _ (by simp)) (by show 0 + 1 ≤ _; omega) (by exact hga.below (by assumption))).mono ?_; rintro e w5 ⟨b', he, hT, hb5⟩; replace he : e = .returned (.agg (yt [yk tag] b')) := he; subst he; have hS5 : Below wa.heap.size wa w5 := yb (by assumption) hb5; (try replace hBv := hBv.below hb5)
     refine hK _ _ (by assumption) ?_; clear hK K; try simp only [nrm]
     refine WpT.ta 7 rfl (fun K hK => ?_)
     rw [if_pos (by rfl)]; have hsz := z26 (stN [yk tag] ([yk tag].length / 64)) b' [yk tag].length hT.len; change (yt [yk tag] b').size = 73 at hsz; refine z3b (g := g5) (o := 0) (vs := yt [yk tag] b') rfl rfl rfl hBv (by rw [hsz]; show 0 + 73 ≤ z2d.size; rw [HZZ.out]; decide) (by rw [hsz]; kernel_rfl) (z3i _ _ _) ?_
     refine hK _ _ ?_; clear hK K; try simp only [nrm]
     refine WpT.done (by kernel_rfl) ?_ _
     have hf := Blk.all hBv (yt [yk tag] b') (by rw [hsz]; exact HZZ.out.symm); go_wp2; go_meet; case rel => exact ⟨g5, b', rfl, by omega, hT, z0x (by assumption) hg5 0 _, hf⟩
    ·rw [if_pos (by rfl)]; change Rd _ _ _ [Value.int .u8 (tag % 256)] at hrd; rw [HBT.out] at hrd; refine z0g rfl z06 z5i rfl hrd ?_
     refine hK _ _ (by assumption) ?_; clear hK K; try simp only [nrm]
     refine WpT.on 0 rfl (fun K hK => ?_)
     go_simp; refine (z6w _).mono ?_; rintro e w1 ⟨rfl, hb1⟩; have hS1 : Below wa.heap.size wa w1 := yb (by assumption) hb1; (try replace hrd := hrd.below hb1); (try replace hBv := hBv.below hb1)
     refine hK _ _ (by assumption) ?_; clear hK K; try simp only [nrm]
     refine WpT.on 5 rfl (fun K hK => ?_)
     go_simp; refine (z3u [] (List.replicate 64 0) _ _ (z1z.nil _ (by simp)) (by show 0 + 1 ≤ _; omega) (by exact hga.below (by assumption))).mono ?_; rintro e w5 ⟨b', he, hT, hb5⟩; replace he : e = .returned (.agg (yt [yk tag] b')) := he; subst he; have hS5 : Below wa.heap.size wa w5 := yb (by assumption) hb5; (try replace hBv := hBv.below hb5)
     refine hK _ _ (by assumption) ?_; clear hK K; try simp only [nrm]
     refine WpT.ta 7 rfl (fun K hK => ?_)
     rw [if_pos (by rfl)]; have hsz := z26 (stN [yk tag] ([yk tag].length / 64)) b' [yk tag].length hT.len; change (yt [yk tag] b').size = 73 at hsz; refine z3b (g := g5) (o := 0) (vs := yt [yk tag] b') rfl rfl rfl hBv (by rw [hsz]; show 0 + 73 ≤ z2d.size; rw [HZZ.out]; decide) (by rw [hsz]; kernel_rfl) (z3i _ _ _) ?_
     refine hK _ _ ?_; clear hK K; try simp only [nrm]
     refine WpT.done (by kernel_rfl) ?_ _
     have hf := Blk.all hBv (yt [yk tag] b') (by rw [hsz]; exact HZZ.out.symm); go_wp2; go_meet; case rel => exact ⟨g5, b', rfl, by omega, hT, z0x (by assumption) hg5 0 _, hf⟩
 case rest =>
  obtain ⟨b5, b0, rfl, hb5, hT0, hb0, hB0⟩ := hcut
  replace ba := ba.trans (hb0.mono ba.size)
  replace hR := hR.below hb0
  replace hra := hra.below hb0
  replace hga := hga.below hb0
  clear hb0 hlt0 hz
  go_wp2_with fail
  go_loopw [7, 17] (fun _ i wr => ∃ (k : Nat) (b' : List UInt8), k ≤ n ∧ i = .int .i64 k ∧ z1z (z07 tag (l.take k)) b' ∧ Below w.heap.size w wr ∧ Blk wr w.heap.size 25 z0p ∧ Blk wr b5 191 (yt (z07 tag (l.take k)) b')) (fun _ i _ => n - (intOf i).toNat)
  case atStart => exact ⟨0, b0, Nat.zero_le _, rfl, hT0, ba, hR, hB0⟩
  case round =>
   clear ba hra hga hR hB0 hT0
   obtain ⟨k, b', hk, rfl, hT, hb, hR, hB⟩ := hrel
   have hra := hr.below hb
   have hga := hg.below hb
   have hil := zau tag (l.take k) 65536 (fun s hs' => hs s (List.mem_of_mem_take hs'))
   have hil2 : (z07 tag (l.take k)).length ≤ 268500000 := by
    have h1 : (l.take k).length ≤ k := by simp [List.length_take]; omega
    have h2 : (l.take k).length * (10 + 65536) ≤ 4096 * (10 + 65536) := Nat.mul_le_mul_right _ (by omega)
    omega
   clear hil
   by_cases hlt : k < n
   ·obtain ⟨ad, rfl, hc⟩ := hra.str hlt HL.out
    have hss : (l[k]'(by have := HL.out; omega)).size ≤ 65536 := hs _ (List.getElem_mem _)
    have HT := ya (show z07 tag (l.take (k + 1)) = z07 tag (l.take k) ++ z1q (l[k]'(by have := HL.out; omega)).data.toList by
     rw [List.take_succ_eq_append_getElem (by have := HL.out; omega), zij])
    have hel := zf1 (l[k]'(by have := HL.out; omega))
    have hsz := z26 (stN (z07 tag (l.take k)) ((z07 tag (l.take k)).length / 64)) b' (z07 tag (l.take k)).length hT.len
    change (yt (z07 tag (l.take k)) b').size = 73 at hsz
    generalize l[k]'(by have := HL.out; omega) = s at *
    generalize z07 tag (l.take k) = m at *
    have HSZ := ya hsz
    clear hsz
    go_wp2_with fail
    have hS0 : Below wr.heap.size wr wr.drew := (Below.refl _ wr).drew
    refine yz 5 (by kernel_rfl) ?_
    refine WpT.tl 0 rfl (z86 rfl rfl rfl (by kernel_rfl) (by rw [HSZ.out]; kernel_rfl) hB) ((Below.refl _ _).drew) ?_
    simp only [nrm]
    refine WpT.tk 1 ((Below.refl _ _).drew) ?_
    simp only [nrm]
    refine WpT.on 2 rfl (fun K hK => ?_)
    go_simp; refine (zm9 s _ (by omega)).mono ?_; rintro e w2 ⟨v2, rfl, hown2, hb2⟩; have hS2 : Below wr.heap.size wr w2 := yb hS0 hb2; obtain ⟨A2, n2, c2, rfl, hn2, _, _, hr2⟩ := hown2.formN
    refine hK _ _ hS2 ?_; clear hK K; try simp only [nrm]
    refine WpT.on 3 rfl (fun K hK => ?_)
    rw [if_pos (by rfl)]; refine z0g rfl z06 z5i rfl hr2 ?_
    refine hK _ _ hS2 ?_; clear hK K; try simp only [nrm]
    refine WpT.on 4 rfl (fun K hK => ?_)
    go_simp; refine (z3u m b' _ _ hT (by show m.length + (z1q s.data.toList).toArray.size ≤ _; simp; omega) (by exact hga.below hS2)).mono ?_; rintro e w4 ⟨b4, he, hT4, hb4⟩; replace he : e = .returned (.agg (yt (m ++ z1q s.data.toList) b4)) := he; replace hT4 : z1z (m ++ z1q s.data.toList) b4 := hT4; subst he; have hS4 : Below wr.heap.size wr w4 := yb hS2 hb4
    refine hK _ _ hS4 ?_; clear hK K; try simp only [nrm]
    refine WpT.ta 5 rfl (fun K hK => ?_)
    rw [if_pos (by rfl)]; have hsz := z26 (stN (m ++ z1q s.data.toList) ((m ++ z1q s.data.toList).length / 64)) b4 (m ++ z1q s.data.toList).length hT4.len; change (yt (m ++ z1q s.data.toList) b4).size = 73 at hsz; refine z3b (g := b5) (o := 0) (vs := yt (m ++ z1q s.data.toList) b4) rfl rfl rfl (hB.below hS4) (by rw [hsz, HSZ.out]; decide) (by rw [hsz]; kernel_rfl) (z3i _ _ _) ?_
    refine hK _ _ ?_; clear hK K; try simp only [nrm]
    refine WpT.done (by kernel_rfl) ?_ _
    have hf := (hB.below hS4).all (yt (m ++ z1q s.data.toList) b4) (by rw [hsz, HSZ.out])
    have hbf := z0x (hb.trans (hS4.mono hb.size)) (g := b5) (by omega) 0 (yt (m ++ z1q s.data.toList) b4).toList
    have hRf := (hR.below hS4).farRow (g := b5) (by omega) 0 (yt (m ++ z1q s.data.toList) b4).toList
    clear hR hB hra hga hb2 hb4 hS0 hS2 hS4 hc hr2
    generalize w4.setCells b5 0 (yt (m ++ z1q s.data.toList) b4).toList = wf at *
    go_wp2_with fail
    exact ⟨⟨k + 1, b4, by omega, by go_num, by rw [HT.out]; exact hT4, hbf, hRf, by rw [HT.out]; exact hf⟩, by simp [intOf]; omega⟩
   ·obtain rfl : k = n := by omega
    have hik : l.take k = l := List.take_of_length_le (by rw [HL.out]; omega)
    rw [hik] at hT hB hil2
    clear hik hra
    have HDD := HD
    have hln := HLN.out
    generalize z07 tag l = m at *
    have hsz := z26 (stN m (m.length / 64)) b' m.length hT.len
    change (yt m b').size = 73 at hsz
    have hS32 : (bv S).toArray.size = 32 := by simp [hln]
    have hS16 : (bv (S.take 16)).toArray.size = 16 := by simp [hln]
    have hone : (bv S).toArray.all (·.oneCell') = true := by simp [bv, Value.oneCell']
    have hone16 : (bv (S.take 16)).toArray.all (·.oneCell') = true := z6v _
    have hcut16 : (bv S).toArray.extract 0 16 = (bv (S.take 16)).toArray := by simp [bv]
    have hR0 := z9z [] (by simp)
    have h160 : z0p.size = 16 := by simp [z0p]
    go_upto_region 7 with (fail)
    refine wp_region_lit ?_
    refine z1u rfl rfl rfl hB (by kernel_rfl) (by rw [hsz]; kernel_rfl) ?_
    go_step
    go_step
    refine (HDD.out b' _ hT hga).mono ?_
    rintro e w5 ⟨rfl, hb5'⟩
    dsimp only
    go_step
    refine z5j rfl rfl (zaa _) ?_
    have hb6 : Below w.heap.size w (w5.alloc (.cells (z0t []) 195)) := (hb.trans (hb5'.mono hb.size)).alloc (by have := hb.size; have := hb5'.size; omega) _
    have hR6 : Blk (w5.alloc (.cells (z0t []) 195)) w.heap.size 25 z0p := (hR.below hb5').alloc _
    have hO6 : Blk (w5.alloc (.cells (z0t []) 195)) w5.heap.size 195 (z0t []) := Blk.new _ _ _
    have hg8 : w.heap.size < w5.heap.size := by have := hR.lt; have := hb5'.size; omega
    change wpList _ _ _ _ _ (w5.alloc (.cells (z0t []) 195))
    generalize w5.alloc (.cells (z0t []) 195) = w6 at *
    generalize w5.heap.size = g8 at *
    refine z2l (g := g8) (o := 0) (vs := (bv S).toArray) rfl rfl rfl rfl hO6 (by rw [hS32, hR0]; decide) (by rw [hS32]; kernel_rfl) hone ?_
    refine wpList_nil ?_
    have hO7 := hO6.all (bv S).toArray (by rw [hS32, hR0])
    have hb7 := z0x hb6 (g := g8) (by omega) 0 (bv S).toArray.toList
    have hR7 := hR6.farRow (g := g8) (by omega) 0 (bv S).toArray.toList
    generalize w6.setCells g8 0 (bv S).toArray.toList = w7 at *
    clear hO6 hb6 hR6 hB hR hb hga hsz hT hb5' hr HDD HD
    have hAA := fun (W : World) (ad : Addr) => zfn (P := Tryz.prog) (t := 25) (e := 5) (n := 16) (by kernel_rfl) (some ad) 16 32 (by omega) W
    have HS32 := ya hS32
    have HS16 := ya hS16
    have HC16 := ya hcut16
    have H16 := ya h160
    clear hS32 hS16 hcut16 h160 hone hR0 hln
    simp only [Act.put]
    go_upto_region 8 with (fail)
    refine wp_region_lit ?_
    iterate 6 go_step
    refine zx0 rfl rfl (off := 0) (n := 16) rfl hO7 (by rw [HS32.out]; decide) (by kernel_rfl) (by kernel_rfl) (congrArg Value.agg HC16.out) ?_
    refine z2l (g := w.heap.size) (o := 0) rfl rfl rfl rfl hR7 (by rw [HS16.out, H16.out]; decide) (by rw [HS16.out]; kernel_rfl) hone16 ?_
    refine wpList_nil ?_
    have hR8 := hR7.all (bv (S.take 16)).toArray (by rw [HS16.out, H16.out])
    have hb8 := z0x hb7 (g := w.heap.size) (Nat.le_refl _) 0 (bv (S.take 16)).toArray.toList
    generalize w7.setCells w.heap.size 0 (bv (S.take 16)).toArray.toList = w9 at *
    clear hO7 hR7 hb7 hAA hone16
    simp only [Act.put]
    go_wp2
    refine z0s rfl rfl rfl hR8 (by kernel_rfl) (by rw [HS16.out]; kernel_rfl) ⟨rfl, hb8⟩
theorem zss (A : Option Addr) (n c : Nat) (l : List UInt8) (w : World) (hn : n ≤ 1073741824) (hr : Rd w A n (bv l)) :
  Calls Tryz.prog 170 #[.slice A n c] w fun e w' => ∃ v, e = .returned v ∧ Own w' w.heap.size 5 v (bv (l ++ pad l.length)) ∧ Below w.heap.size w w' := by
 have HL := ya (show l.length = n by have := hr.len; simpa using this)
 go_enter Tryz.func170, Tryz.ntmps170
 go_upto_region 1 with (fail)
 refine wp_region_lit ?_
 iterate 6 go_step
 refine z27 rfl rfl z2p rfl (Own.lit w w.heap.size 5 [] (Nat.le_refl _) (by simp [maxLen])) rfl (hr.below ((Below.refl _ _).alloc (Nat.le_refl _) _)) (z9n _) (by simp; omega) (by simp) ?_
 intro v1 w1 o1 _ hb1 _
 rw [List.nil_append] at o1
 replace hb1 := ((Below.refl w.heap.size w).alloc (Nat.le_refl _) _).trans hb1
 simp only [Act.put]
 go_upto_region 2 with (fail)
 refine wp_region_lit ?_
 iterate 6 go_step
 refine z27 rfl rfl z2p rfl (o1.alloc _) rfl (Rd.new1 _ _ _) (z3r rfl) (by rw [z0r, HL.out]; omega) (by have := hb1.size; simp; omega) ?_
 intro v2 w2 o2 _ hb2 _
 replace hb1 := (hb1.alloc hb1.size _).trans hb2
 clear hb2 o1
 simp only [Act.put]
 go_wp2_with fail
 go_loopw [3] (fun v wr => ∃ i : Nat, i ≤ z4r n ∧ Own wr w.heap.size 5 v (bv (l ++ z6e i)) ∧ Below w.heap.size w wr) (fun v _ => n + 65 - slLen v)
 case atStart => exact ⟨0, Nat.zero_le _, by rw [z2n]; exact o2, hb1⟩
 case round =>
  clear hb1 o2
  obtain ⟨i, hi, hown, hb⟩ := hrel
  have hz := hb.size
  obtain ⟨A3, n3, c3, rfl, hn3, hnc, hcm, hr3⟩ := hown.formN
  have hn1 : n3 = n + (i + 1) := by rw [hn3.out, z0r, List.length_append, HL.out, z7v]
  have hzl := zab n
  by_cases hzi : i = z4r n
  ·have hne : (((n3 : Nat) : Int) % 64 != 56) = false := by
    have := zmq n
    simp; omega
   have hnb : n3 ≤ n + 64 := by omega
   rw [hzi] at hown
   clear hr3 hn3 hnc hcm hi hzi hzl hn1
   go_wp2_with fail
   clear hne
   obtain ⟨wo, rfl⟩ : ∃ wo : World, wo = wr := ⟨_, rfl⟩
   go_loopw [3, 5] (fun v i wr => ∃ j : Nat, j ≤ 8 ∧ i = .int .i64 j ∧ Own wr w.heap.size 5 v (bv (l ++ (z6e (z4r n) ++ z5t n j))) ∧ Below w.heap.size w wr) (fun _ i _ => 8 - (intOf i).toNat)
   case atStart => exact ⟨0, Nat.zero_le _, rfl, by rw [show z5t n 0 = [] from rfl, List.append_nil]; exact hown, hb⟩
   case round =>
    clear hown hb hnb hz
    obtain ⟨j, hj, rfl, hown, hb⟩ := hrel
    have hz := hb.size
    obtain ⟨A4, n4, c4, rfl, hn4, hnc4, hcm4, hr4⟩ := hown.formN
    by_cases hlt : j < 8
    ·have hLB := ya (ziy n j)
     go_wp2_with (at_builtin; refine z27 rfl rfl z2p rfl (hown.alloc _) rfl (Rd.new1 _ _ _) (z3r rfl) (by rw [z0r, List.length_append, List.length_append, HL.out, z7v, zav]; have := zab n; omega) (by simp; omega) ?_; intro v' w' hown' hg' hb' _)
     refine ⟨⟨j + 1, by omega, by go_num, ?_, (hb.alloc hz _).trans hb'⟩, by simp [intOf]; omega⟩
     rw [ziz, ← List.append_assoc, ← List.append_assoc, z2n, show bv [z9f n j] = [.int .u8 (8 * (n : Int) / 2 ^ (56 - 8 * j) % 256)] by simp [bv, hLB.out], List.append_assoc l]
     exact hown'
    ·obtain rfl : j = 8 := by omega
     rw [← zju] at hown
     go_wp2
     go_ret
     rw [HL.out]
     exact ⟨_, rfl, hown, hb⟩
  ·have hne : (((n3 : Nat) : Int) % 64 != 56) = true := by
    have := zmr n i (by omega)
    simp; omega
   have hnb : n3 ≤ n + 64 := by omega
   have HN := ya hn1
   clear hn1
   go_wp2_with (at_builtin; refine z27 rfl rfl z2p rfl (hown.alloc _) rfl (Rd.new1 _ _ _) (z3r rfl) (by rw [z0r, List.length_append, HL.out, z7v]; omega) (by simp; omega) ?_; intro v' w' hown' hg' hb' _)
   have hl := hown'.slLen
   refine ⟨⟨i + 1, by omega, ?_, (hb.alloc hz _).trans hb'⟩, ?_⟩
   ·rw [zjt, ← List.append_assoc, z2n]; exact hown'
   ·rw [hl]
    show n + 65 - _ < n + 65 - n3
    simp only [List.length_append, z0r, z7v, List.length_cons, List.length_nil]
    have := HN.out
    have := HL.out
    omega
structure z1t (w : World) (g : Nat) (l : List UInt8) : Prop where
 row : ∃ cur, Blk w g 5 cur ∧ l.length ≤ cur.size ∧ cur.toList.take l.length = bv l
theorem z1t.cell {w : World} {g : Nat} {l : List UInt8} (h : z1t w g l) (i : Nat) (hi : i < l.length) : w.cell? ⟨g, i, none⟩ = some (.int .u8 (l[i].toNat : Nat)) := by
 obtain ⟨cur, hB, hs, ht⟩ := h.row
 rw [hB.cell]
 have h2 : (cur.toList.take l.length)[i]? = (bv l)[i]? := by rw [ht]
 rw [List.getElem?_take, if_pos hi] at h2
 rw [← Array.getElem?_toList, h2]
 simp [bv, hi]
theorem z1t.free {w : World} {g : Nat} {l : List UInt8} (h : z1t w g l) (i : Nat) : w.frozen? ⟨g, i, none⟩ = false := by
 obtain ⟨cur, hB, _⟩ := h.row
 exact hB.free i
theorem z1t.set {w : World} {g : Nat} {l : List UInt8} (h : z1t w g l) (i : Nat) (x : UInt8) : z1t (w.setCell ⟨g, i, none⟩ (.int .u8 (x.toNat : Nat))) g (l.set i x) := by
 obtain ⟨cur, hB, hs, ht⟩ := h.row
 refine ⟨_, hB.set i _, by simpa using hs, ?_⟩
 rw [Array.toList_setIfInBounds, List.length_set, List.take_set, ht]
 simp [bv, List.map_set]
theorem z1t.below {w w' : World} {g : Nat} {l : List UInt8} (h : z1t w g l) (hb : Below w.heap.size w w') : z1t w' g l := by
 obtain ⟨cur, hB, hs, ht⟩ := h.row
 exact ⟨cur, hB.below hb, hs, ht⟩
theorem z1t.rd {w : World} {g : Nat} {l : List UInt8} {n : Nat} (h : z1t w g l) (hn : l.length = n) : Rd w (some ⟨g, 0, none⟩) n (bv l) := by
 refine ⟨by rw [z0r, hn], fun k u hk => ⟨_, rfl, ?_⟩⟩
 have hlt : k < l.length := by have := (List.getElem?_eq_some_iff.1 hk).1; simpa using this
 have hadd : (⟨g, 0, none⟩ : Addr).add k = ⟨g, k, none⟩ := by unfold Addr.add; split <;> simp_all
 rw [hadd, h.cell k hlt, ← hk]
 simp [bv, hlt]
theorem Own.lies {w : World} {B : Nat} {v : Value} {l : List UInt8} (h : Own w B 5 v (bv l)) (hl : 0 < l.length) : ∃ g c, v = .slice (some ⟨g, 0, none⟩) l.length c ∧ B ≤ g ∧ l.length ≤ c ∧ c ≤ maxLen ∧ z1t w g l := by
 rcases h.2 with ⟨_, hn⟩ | ⟨g, cap, cur, hv, hg, hh, hc, hm, hs, ht⟩
 ·rw [z0r] at hn; omega
 ·rw [z0r] at hv hc ht
  refine ⟨g, cap, hv, hg, hc, hm, cur, hh, by omega, ?_⟩
  rw [Nat.mul_one] at ht
  exact ht
theorem z1t.farRow {w : World} {g : Nat} {l : List UInt8} (h : z1t w g l) {b : Nat} (hb : g ≠ b) (o : Nat) (vs : List Value) : z1t (w.setCells b o vs) g l := by
 obtain ⟨cur, hB, hs, ht⟩ := h.row
 exact ⟨cur, hB.farRow hb o vs, hs, ht⟩
theorem z1t.far {w : World} {g : Nat} {l : List UInt8} (h : z1t w g l) {p : Addr} (hb : g ≠ p.block) (u : Value) : z1t (w.setCell p u) g l := by
 obtain ⟨cur, hB, hs, ht⟩ := h.row
 exact ⟨cur, hB.far hb u, hs, ht⟩
theorem z1t.alloc {w : World} {g : Nat} {l : List UInt8} (h : z1t w g l) (o : Obj) : z1t (w.alloc o) g l := by
 obtain ⟨cur, hB, hs, ht⟩ := h.row
 exact ⟨cur, hB.alloc o, hs, ht⟩
theorem z1t.lt {w : World} {g : Nat} {l : List UInt8} (h : z1t w g l) : g < w.heap.size := by
 obtain ⟨cur, hB, _⟩ := h.row
 exact hB.lt
end
end Go.Proofs.YtcapckngikekpaaGreatDoor
