/-
  What PseudoHead returns, and its law's walk.
-/
import Derived.Test.YtahffinjglmhhaaDoorWord
namespace Go.Proofs.YtahffinjglmhhaaDoor
open Go.RowKit
set_option linter.unusedVariables false

theorem strOfNums_len (xs : List Int) : (strOfNums xs).size = xs.length := strOfNums_size xs
theorem putWord_ok {n sz : Int} (h : rng sz 1 6 = true) (k : wordOk n (8 * sz) = true) : putWord n sz = strOfNums (beL sz.toNat n) := by rw [putWord, h, k]; rfl
theorem putWord_no {n sz : Int} (k : wordOk n (8 * sz) = false) : putWord n sz = ⟨#[]⟩ := by rw [putWord, k]; simp
theorem size_putWord_ok {n sz : Int} (h : rng sz 1 6 = true) (k : wordOk n (8 * sz) = true) : (putWord n sz).size = sz.toNat := by rw [putWord_ok h k, strOfNums_size, beL_len]
theorem size_putWord_le (n sz : Int) : (putWord n sz).size ≤ 6 := by
  cases h : rng sz 1 6
  · rw [putWord, h]; simp [ByteArray.size]
  · cases k : wordOk n (8 * sz)
    · rw [putWord_no k]; simp [ByteArray.size]
    · rw [size_putWord_ok h k]; obtain ⟨a, b⟩ := rng_true.1 h; omega
/-- The head for the sum. -/
def headOk (src dst len : Int) : Bool := wordOk src 32 && wordOk dst 32 && wordOk len 16
def pseudo (src dst len : Int) : ByteArray := if headOk src dst len then putWord src 4 ++ putWord dst 4 ++ ⟨#[0, 6]⟩ ++ putWord len 2 else ⟨#[]⟩
theorem toList_nil_iff (b : ByteArray) : b.toList = [] ↔ b.size = 0 := by
  rw [ByteArray.toList_eq]
  show b.data.toList = [] ↔ b.data.size = 0
  rw [← List.length_eq_zero_iff, Array.length_toList]
theorem pw_empty_iff (n sz : Int) (h : rng sz 1 6 = true) : (putWord n sz).toList = [] ↔ wordOk n (8 * sz) = false := by
  rw [toList_nil_iff]
  cases k : wordOk n (8 * sz)
  · rw [putWord_no k]; simp [ByteArray.size]
  · rw [size_putWord_ok h k]; obtain ⟨a, b⟩ := rng_true.1 h; simp; omega
end Go.Proofs.YtahffinjglmhhaaDoor
