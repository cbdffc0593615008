/-
  Decimal figures: what the reference's Digits returns of a number that is not negative.
-/
import Derived.Test.YtcapkadknabfiaaWord
import Derived.Lib.ItoaNum
import Derived.Lib.ItoaLen
namespace Go.Proofs.Ytcapkadknabfiaa
open Go.RowKit
set_option linter.unusedVariables false

/-- The figures of m that stand ahead. -/
def pre (m : Nat) : List UInt8 := if m = 0 then [] else Lib.decDigits m
theorem pre_step (m : Nat) (h : 0 < m) (L : List UInt8) : pre (m / 10) ++ (UInt8.ofNat (48 + m % 10) :: L) = pre m ++ L := by
  unfold pre
  rw [if_neg (show ¬ m = 0 by omega)]
  by_cases h10 : m < 10
  · rw [if_pos (by omega), Lib.decDigits, dif_pos h10, show m % 10 = m by omega]
    rfl
  · rw [if_neg (by omega)]
    rw [show Lib.decDigits m = Lib.decDigits (m / 10) ++ [UInt8.ofNat (48 + m % 10)] by rw [Lib.decDigits, dif_neg h10]]
    simp
theorem dec_len (N : Nat) (h : N ≤ 9223372036854775808) : (Lib.decDigits N).length ≤ 20 := by
  rw [Lib.decDigits_length]; exact Lib.nDigits_le20 N (by omega)
theorem cons_str (x : Int) (L : List UInt8) : strOfNums [x] ++ ⟨L.toArray⟩ = (⟨(UInt8.ofNat x.toNat :: L).toArray⟩ : ByteArray) := by
  have e : ∀ a b : ByteArray, a.data.toList = b.data.toList → a = b := fun a b h => by cases a; cases b; simp at h; simpa using h
  apply e
  have hd : ∀ x y : ByteArray, (x ++ y).data.toList = x.data.toList ++ y.data.toList := fun x y => by simp
  rw [hd, strOfNums_data]
  simp
end Go.Proofs.Ytcapkadknabfiaa
