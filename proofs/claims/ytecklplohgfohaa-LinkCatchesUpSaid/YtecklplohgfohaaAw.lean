/-
  The laws' act, whatever happens; how far the rows of a line grow. Conditions: none.
-/
import Derived.Test.YtecklplohgfohaaAc0
import Derived.Test.YtecklplohgfohaaAc1
import Derived.Test.YtecklplohgfohaaAc2
import Derived.Test.YtecklplohgfohaaAc3
import Derived.Test.YtecklplohgfohaaAc4
import Derived.Test.YtecklplohgfohaaAc5
namespace Go.Proofs.Ytecklplohgfohaa
set_option linter.unusedSimpArgs false
set_option linter.unusedVariables false
open Go.RowKit Link
theorem act_any (w : Line) (q h s t d : Sl) (k x y : Nat) (W : World) (hL : LnAt W w q h s t d) (hU : LnUnder W.heap.size q h s t d) (hI : Link.Inv w k) (hk : k < 1000) (hls : s.n ≤ 100000) (hlt : t.n ≤ 100000) (hld : d.n ≤ 100000) (hx : x < 256) (hy : y < 256) :
    Calls Try.prog 28 #[.agg (lnC w.o w.i q h s t d false), .agg #[.int .u8 (x : Nat), .int .u8 (y : Nat)]] W (ActIs w (actL w (x, y)) q h s t d W) := by
  have h6 : x % 6 = 0 ∨ x % 6 = 1 ∨ x % 6 = 2 ∨ x % 6 = 3 ∨ x % 6 = 4 ∨ x % 6 = 5 := by omega
  rcases h6 with hr | hr | hr | hr | hr | hr
  · exact act_k0 w q h s t d k x y W hL hU hI hk hls hlt hld hx hy hr
  · exact act_k1 w q h s t d k x y W hL hU hI hk hls hlt hld hx hy hr
  · exact act_k2 w q h s t d k x y W hL hU hI hk hls hlt hld hx hy hr
  · exact act_k3 w q h s t d k x y W hL hU hI hk hls hlt hld hx hy hr
  · exact act_k4 w q h s t d k x y W hL hU hI hk hls hlt hld hx hy hr
  · exact act_k5 w q h s t d k x y W hL hU hI hk hls hlt hld hx hy hr
/-- The rows of a line after k acts. -/
structure Lens (w : Line) (k : Nat) : Prop where
  s : w.sent.length ≤ 20 * k
  t : w.told.length ≤ k
  d : w.dl.length ≤ 65 * k
theorem act_lens {w : Line} {k : Nat} {a : Nat × Nat} (h : Lens w k) (hI : Link.Inv w k) : Lens (actL w a) (k + 1) := by
  obtain ⟨h1, h2, h3⟩ := h
  have hvl := (validIn_facts hI.i.v).2.1
  unfold actL
  split
  · exact ⟨by simp only; omega, by simp only; omega, by simp only; omega⟩
  split
  · exact ⟨by simp only; omega, by simp only; omega, by simp only; omega⟩
  split
  · have hf := framesO_short w.o ((1 + a.2 % 20 : Nat) : Int)
    refine ⟨?_, by simp only; omega, by simp only; omega⟩
    simp only [List.length_append]
    omega
  split
  · split
    · have hr := recvI_lenA w.i (w.sent.getD (a.2 % w.sent.length) frz)
      refine ⟨by simp only; omega, ?_, ?_⟩
      · simp only [List.length_append, List.length_singleton]; omega
      · simp only [List.length_append]; omega
    · exact ⟨by omega, by omega, by omega⟩
  split
  · split
    · exact ⟨by simp only; omega, by simp only; omega, by simp only; omega⟩
    · exact ⟨by omega, by omega, by omega⟩
  · exact ⟨by simp only; omega, by simp only; omega, by simp only; omega⟩
theorem lens_lz : Lens lz 0 := ⟨by simp [lz], by simp [lz], by simp [lz]⟩
end Go.Proofs.Ytecklplohgfohaa
