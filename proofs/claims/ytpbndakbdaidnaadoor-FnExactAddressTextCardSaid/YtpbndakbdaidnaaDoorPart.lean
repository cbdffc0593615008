/-
  A text cut at a byte: what Parts returns: a row of the call's own that holds the parts.
-/
import Derived.Test.YtpbndakbdaidnaaDoorWord
namespace Go.Proofs.YtpbndakbdaidnaaDoor
open Go.RowKit
set_option linter.unusedVariables false

theorem info_str : (Tryd.prog.info? 9).map (fun i => (i.zero, i.size, i.bytes)) = some (some (.string ⟨#[]⟩), 1, 16) := by kernel_rfl
/-- The parts that are closed after k bytes, and where the next one begins. -/
def pt (s : ByteArray) (b : Int) : Nat → List ByteArray × Nat
  | 0 => ([], 0)
  | k + 1 => if byt s k = b then ((pt s b k).1 ++ [s.extract (pt s b k).2 k], k + 1) else pt s b k
def parts (s : ByteArray) (b : Int) : List ByteArray := (pt s b s.size).1 ++ [s.extract (pt s b s.size).2 s.size]
theorem pt_le (s : ByteArray) (b : Int) (k : Nat) : (pt s b k).2 ≤ k ∧ (pt s b k).1.length ≤ k := by
  induction k with
  | zero => simp [pt]
  | succ k ih => rw [pt]; split <;> (try simp) <;> omega
theorem cell_one_lit (w : World) (t : TypeId) (x : Value) (j : Nat) (u : Value) (h : [x][j]? = some u) : (w.alloc (.cells #[x] t)).cell? ((⟨w.heap.size, 0, none⟩ : Addr).add j) = some u := by
  have hadd : (⟨w.heap.size, 0, none⟩ : Addr).add j = ⟨w.heap.size, j, none⟩ := by unfold Addr.add; split <;> simp_all
  rw [hadd, cell_of_row _ _ j #[x] t (0, 0) (heap_alloc_new w _)]
  simpa using h
end Go.Proofs.YtpbndakbdaidnaaDoor
