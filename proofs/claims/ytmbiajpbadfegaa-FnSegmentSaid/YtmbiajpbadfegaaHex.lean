/-
  Hexadecimal figures: what Hex returns, and its law's walk.
-/
import Derived.Test.YtmbiajpbadfegaaWord
import Derived.Deep.RegionLaw
import Derived.Deep.RegionHeld3
import Derived.Deep.AppendLies
namespace Go.Proofs.Ytmbiajpbadfegaa
open Go.RowKit
set_option linter.unusedVariables false

/-- The figure of a half byte. -/
def hc (x : Int) : Int := if x < 10 then x + 48 else x + 87
def hx (s : ByteArray) : Nat → List Int
  | 0 => []
  | k + 1 => hx s k ++ [hc (byt s k / 16), hc (byt s k % 16)]
theorem hx_len (s : ByteArray) (k : Nat) : (hx s k).length = 2 * k := by induction k <;> simp [hx, *]; omega
theorem cell_two_lit (w : World) (t : TypeId) (x y : Value) (j : Nat) (u : Value) (h : [x, y][j]? = some u) : (w.alloc (.cells #[x, y] t)).cell? ((⟨w.heap.size, 0, none⟩ : Addr).add j) = some u := by
  have hadd : (⟨w.heap.size, 0, none⟩ : Addr).add j = ⟨w.heap.size, j, none⟩ := by unfold Addr.add; split <;> simp_all
  rw [hadd, cell_of_row _ _ j #[x, y] t (0, 0) (heap_alloc_new w _)]
  simpa using h
end Go.Proofs.Ytmbiajpbadfegaa
