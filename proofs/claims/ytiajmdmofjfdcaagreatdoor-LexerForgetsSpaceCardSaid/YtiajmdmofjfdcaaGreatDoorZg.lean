/-
  The reserved words. Conditions: the library's table of spaces stands.
-/
import Derived.Test.YtiajmdmofjfdcaaGreatDoorZf
namespace Go.Proofs.YtiajmdmofjfdcaaGreatDoor
set_option linter.unusedSimpArgs false
set_option linter.unusedVariables false
open Go.RowKit Lexr
/-- The library's table of spaces. -/
def GTab (W : World) : Prop := ∀ c : Nat, c < 256 → W.cell? ⟨0, c, none⟩ = some (.int .u8 (if Lib.isSp (UInt8.ofNat c) then 1 else 0))
theorem GTab.below {W W' : World} (h : GTab W) (hb : Below W.heap.size W W') : GTab W' := fun c hc => cell_later hb (h c hc)
/-- Words of a string, in memory of their own. -/
theorem fields_any (s : ByteArray) (w : World) (hs : s.size < 4294967281) (hascii : ∀ (j : Nat) b, s.data.toList[j]? = some b → b.toNat < 128) (hg : GTab w) :
    Calls Tryz.prog 33 #[.string s] w fun e w' => e = .returned (.slice (some ⟨w.heap.size, 0, none⟩) (Lib.fields s.data.toList).length (Lib.fields s.data.toList).length) ∧ w' = w.alloc (.cells ((Lib.fields s.data.toList).map fun l => Value.string ⟨l.toArray⟩).toArray 9) :=
  Any.strings_Fields_core Tryz.lays157 (by kernel_rfl) s w hs hascii hg
def strsC (l : List (List UInt8)) : Array Value := (l.map fun y => Value.string ⟨y.toArray⟩).toArray
theorem words_fields : Lib.fields [97, 108, 108, 32, 97, 110, 100, 32, 104, 97, 115, 32, 105, 110, 32, 110, 111, 116, 32, 111, 114] = wordsL := by decide +kernel
theorem longs_fields : Lib.fields [61, 61, 32, 33, 61, 32, 60, 61, 32, 62, 61, 32, 46, 46] = longsL := by decide +kernel
theorem words_any (w : World) (hg : GTab w) : Calls Tryz.prog 16 #[] w fun e w' => e = .returned (.slice (some ⟨w.heap.size, 0, none⟩) 6 6) ∧ w' = w.alloc (.cells (strsC wordsL) 9) := by
  have HF := fields_any ⟨#[97, 108, 108, 32, 97, 110, 100, 32, 104, 97, 115, 32, 105, 110, 32, 110, 111, 116, 32, 111, 114]⟩ w (by decide) (fun j b h => by
    have hm : b ∈ [97, 108, 108, 32, 97, 110, 100, 32, 104, 97, 115, 32, 105, 110, 32, 110, 111, 116, 32, 111, 114] := List.mem_of_getElem? h
    have : ∀ b : UInt8, b ∈ ([97, 108, 108, 32, 97, 110, 100, 32, 104, 97, 115, 32, 105, 110, 32, 110, 111, 116, 32, 111, 114] : List UInt8) → b.toNat < 128 := by decide
    exact this b hm) hg
  rw [show ((⟨#[97, 108, 108, 32, 97, 110, 100, 32, 104, 97, 115, 32, 105, 110, 32, 110, 111, 116, 32, 111, 114]⟩ : ByteArray).data.toList) = [97, 108, 108, 32, 97, 110, 100, 32, 104, 97, 115, 32, 105, 110, 32, 110, 111, 116, 32, 111, 114] from rfl, words_fields] at HF
  have HFF := Lib.hid HF
  clear HF hg
  go_enter Tryz.func16, Tryz.ntmps16
  go_wp2_with fail
  refine HFF.out.mono ?_
  rintro e w1 ⟨rfl, rfl⟩
  go_wp2_with fail
  go_ret
  exact ⟨rfl, rfl⟩
theorem mem_strs (l : List (List UInt8)) (x : ByteArray) : x ∈ l.map (fun y => (⟨y.toArray⟩ : ByteArray)) ↔ x.data.toList ∈ l := by
  rw [List.mem_map]
  constructor
  · rintro ⟨y, hy, rfl⟩; simpa using hy
  · intro h; exact ⟨_, h, by cases x; simp⟩
theorem contains_any (zs : List (List UInt8)) (g : Nat) (x : ByteArray) (w : World) (hb : Blk w g 9 (strsC zs)) (hz : zs.length ≤ 1000) :
    Calls Tryz.prog 34 #[.slice (some ⟨g, 0, none⟩) zs.length zs.length, .string x] w (BoIs (decide (x.data.toList ∈ zs)) w) := by
  have hl : (zs.map (fun y => (⟨y.toArray⟩ : ByteArray))).length = zs.length := List.length_map ..
  have h := Tryz.slices_Contains_string g 0 zs.length zs.length (zs.map (fun y => (⟨y.toArray⟩ : ByteArray))) x w (by omega) (by omega) (fun j hj => by
    rw [hl] at hj
    rw [Nat.zero_add, hb.cell j]
    unfold strsC
    simp [List.getElem?_eq_getElem hj, List.getD])
  rw [List.take_of_length_le (by omega)] at h
  have e : Lib.containsS (zs.map (fun y => (⟨y.toArray⟩ : ByteArray))) x = decide (x.data.toList ∈ zs) := by
    by_cases hm : x.data.toList ∈ zs
    · rw [(Lib.containsS_iff _ x).2 ((mem_strs zs x).2 hm), decide_eq_true hm]
    · rw [decide_eq_false hm]
      cases hc : Lib.containsS (zs.map (fun y => (⟨y.toArray⟩ : ByteArray))) x with
      | false => rfl
      | true => exact absurd ((mem_strs zs x).1 ((Lib.containsS_iff _ x).1 hc)) hm
  rw [e] at h
  exact h
def WoIs (b : Bool) (w : World) (e : Ending) (w' : World) : Prop := e = .returned (.bool b) ∧ Below w.heap.size w w'
theorem word_any (s : ByteArray) (w : World) (hg : GTab w) : Calls Tryz.prog 18 #[.string s] w (WoIs (decide (s.data.toList ∈ wordsL)) w) := by
  have HW := Lib.hid (words_any w hg)
  have HC : Hid (Calls Tryz.prog 34 #[.slice (some ⟨w.heap.size, 0, none⟩) 6 6, .string s] (w.alloc (.cells (strsC wordsL) 9)) (BoIs (decide (s.data.toList ∈ wordsL)) (w.alloc (.cells (strsC wordsL) 9)))) := Lib.hid (contains_any wordsL w.heap.size s _ (Blk.new _ _ _) (by decide))
  generalize decide (s.data.toList ∈ wordsL) = q at *
  obtain ⟨wa, hwa⟩ : ∃ wa, w.alloc (.cells (strsC wordsL) 9) = wa := ⟨_, rfl⟩
  have hb : Below w.heap.size w wa := by rw [← hwa]; exact (Below.refl _ _).alloc (Nat.le_refl _) _
  have HB := Lib.hid hb
  rw [hwa] at HW HC
  unfold BoIs at HC
  unfold WoIs
  clear hwa hg hb
  go_enter Tryz.func18, Tryz.ntmps18
  go_wp2_with fail
  refine HW.out.mono ?_
  rintro e w1 ⟨rfl, rfl⟩
  go_wp2_with fail
  refine HC.out.mono ?_
  rintro e w2 ⟨rfl, rfl⟩
  go_wp2_with fail
  go_ret
  exact ⟨rfl, HB.out⟩
end Go.Proofs.YtiajmdmofjfdcaaGreatDoor
