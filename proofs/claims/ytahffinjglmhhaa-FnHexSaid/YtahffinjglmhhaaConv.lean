/-
  What the laws' helpers on structs return: toX copies, eqX of two alike is true, szX takes a body's length off.
-/
import Derived.Test.YtahffinjglmhhaaNum
namespace Go.Proofs.Ytahffinjglmhhaa
open Go.RowKit
set_option linter.unusedVariables false

def sz1 (left : Int) (n : Nat) : Int := if left - n < 0 then -1 else left - n
theorem sz1_bd (n : Nat) (h : ¬ sz1 1048576 n < 0) : n ≤ 1048576 := by unfold sz1 at h; split at h <;> omega

/-! What an argument of each of these types is. -/
def IsFrame (v : Value) : Prop := ∃ (d s t : Int) (b : ByteArray), v = .agg #[.int .i64 d, .int .i64 s, .int .i64 t, .string b] ∧ I64 d ∧ I64 s ∧ I64 t ∧ b.size ≤ maxLen
def IsArp (v : Value) : Prop := ∃ (k sh si dh di : Int), v = .agg #[.int .i64 k, .int .i64 sh, .int .i64 si, .int .i64 dh, .int .i64 di] ∧ I64 k ∧ I64 sh ∧ I64 si ∧ I64 dh ∧ I64 di
def IsPacket (v : Value) : Prop := ∃ (s d t p i : Int) (b : ByteArray), v = .agg #[.int .i64 s, .int .i64 d, .int .i64 t, .int .i64 p, .int .i64 i, .string b] ∧ I64 s ∧ I64 d ∧ I64 t ∧ I64 p ∧ I64 i ∧ b.size ≤ maxLen
def IsOptions (v : Value) : Prop := ∃ (m s : Int) (k st : Bool) (y e : Int), v = .agg #[.int .i64 m, .int .i64 s, .bool k, .bool st, .int .i64 y, .int .i64 e] ∧ I64 m ∧ I64 s ∧ I64 y ∧ I64 e
def IsSegment (v : Value) : Prop := ∃ (f t q a l n m s : Int) (k st : Bool) (y e : Int) (b : ByteArray), v = .agg #[.int .i64 f, .int .i64 t, .int .i64 q, .int .i64 a, .int .i64 l, .int .i64 n, .int .i64 m, .int .i64 s, .bool k, .bool st, .int .i64 y, .int .i64 e, .string b] ∧ I64 f ∧ I64 t ∧ I64 q ∧ I64 a ∧ I64 l ∧ I64 n ∧ I64 m ∧ I64 s ∧ I64 y ∧ I64 e ∧ b.size ≤ maxLen
end Go.Proofs.Ytahffinjglmhhaa
