/-
  The sum of a string's words: its definition over bytes, what WordSum, SumOf and SumRight return, and their laws' walks.
-/
import Derived.Test.YtahffinjglmhhaaDoorFold
namespace Go.Proofs.YtahffinjglmhhaaDoor
open Go.RowKit
set_option linter.unusedVariables false

/-- The byte at i, 0 where there is none. -/
def byt (s : ByteArray) (i : Nat) : Int := ((s.data.toList.getD i 0).toNat : Int)
theorem byt_bd (s : ByteArray) (i : Nat) : 0 ≤ byt s i ∧ byt s i ≤ 255 := by
  unfold byt
  have := UInt8.toNat_lt (s.data.toList.getD i 0)
  omega
theorem byt_at (s : ByteArray) (i : Nat) (h : i < s.size) : ((s[i].toNat : Nat) : Int) = byt s i := by
  unfold byt
  have h' : i < s.data.toList.length := by simpa using h
  rw [List.getD_eq_getElem?_getD, List.getElem?_eq_getElem h', Option.getD_some]
  rfl
/-- The sum of the words of the first k bytes. -/
def ws (s : ByteArray) : Nat → Int
  | 0 => 0
  | k + 1 => ws s k + (if k % 2 = 0 then 256 * byt s k else byt s k)
theorem ws_bd (s : ByteArray) (k : Nat) : 0 ≤ ws s k ∧ ws s k ≤ 65280 * k := by
  induction k with
  | zero => simp [ws]
  | succ k ih =>
    obtain ⟨a, b⟩ := byt_bd s k
    unfold ws
    split <;> omega
def wordSum (s : ByteArray) : Int := ws s s.size
theorem wordSum_bd (s : ByteArray) (h : s.size ≤ 140737488355328) : 0 ≤ wordSum s ∧ wordSum s ≤ 9187343239835811840 := by
  have := ws_bd s s.size
  unfold wordSum
  omega
def sumOf (s : ByteArray) : Int := 65535 - fold (wordSum s)
theorem sumOf_bd (s : ByteArray) : 0 ≤ sumOf s ∧ sumOf s ≤ 65535 := by unfold sumOf; have := fold_bd (wordSum s); omega

end Go.Proofs.YtahffinjglmhhaaDoor
