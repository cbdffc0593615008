/-
  What the laws' helpers on structs return: toX copies, eqX of two alike is true, szX takes a body's length off.
-/
import Derived.Test.YtpbndakbdaidnaaNum
namespace Go.Proofs.Ytpbndakbdaidnaa
open Go.RowKit
set_option linter.unusedVariables false

def sz1 (left : Int) (n : Nat) : Int := if left - n < 0 then -1 else left - n
theorem sz1_bd (n : Nat) (h : ¬ sz1 1048576 n < 0) : n ≤ 1048576 := by unfold sz1 at h; split at h <;> omega
theorem eqPacket_same (s d t p i : Int) (b : ByteArray) (w : World) :
    Calls Try.prog 21 #[.agg #[.int .i64 s, .int .i64 d, .int .i64 t, .int .i64 p, .int .i64 i, .string b], .agg #[.int .i64 s, .int .i64 d, .int .i64 t, .int .i64 p, .int .i64 i, .string b]] w fun e w' => e = .returned (.bool true) ∧ Below w.heap.size w w' := by
  go_enter Try.func21, Try.ntmps21
  go_wp2
  go_ret
  exact ⟨rfl, (by repeat (first | with_reducible exact Below.refl _ _ | with_reducible assumption | with_reducible refine Below.al ?_ _ | with_reducible refine Below.drew ?_ | with_reducible refine Below.seq ?_ (by assumption) | (with_reducible refine Below.setCell ?_ ?_ _); rotate_left; focus (first | exact Nat.le_refl _ | (simp; done) | (simp; omega))))⟩
theorem toOptions_at (m s : Int) (k st : Bool) (v e0 : Int) (w : World) :
    Calls Try.prog 49 #[.agg #[.int .i64 m, .int .i64 s, .bool k, .bool st, .int .i64 v, .int .i64 e0]] w fun e w' => e = .returned (.agg #[.int .i64 m, .int .i64 s, .bool k, .bool st, .int .i64 v, .int .i64 e0]) ∧ ∃ o1 o2 o3, ((w.alloc o1).alloc o2).alloc o3 = w' := by
  go_enter Try.func49, Try.ntmps49
  go_wp2
  simp [bodyPost, results, Try.results49, go_sem]
  exact ⟨_, _, _, rfl⟩
theorem toOptions_any (m s : Int) (k st : Bool) (v e0 : Int) (w : World) :
    Calls Try.prog 49 #[.agg #[.int .i64 m, .int .i64 s, .bool k, .bool st, .int .i64 v, .int .i64 e0]] w fun e w' => e = .returned (.agg #[.int .i64 m, .int .i64 s, .bool k, .bool st, .int .i64 v, .int .i64 e0]) ∧ Below w.heap.size w w' := by
  go_enter Try.func49, Try.ntmps49
  go_wp2
  simp [bodyPost, results, Try.results49, go_sem]
  exact (by repeat (first | with_reducible exact Below.refl _ _ | with_reducible assumption | with_reducible refine Below.al ?_ _ | with_reducible refine Below.drew ?_ | with_reducible refine Below.seq ?_ (by assumption) | (with_reducible refine Below.setCell ?_ ?_ _); rotate_left; focus (first | exact Nat.le_refl _ | (simp; done) | (simp; omega))))
theorem eqOptions_same (m s : Int) (k st : Bool) (v e0 : Int) (w : World) :
    Calls Try.prog 16 #[.agg #[.int .i64 m, .int .i64 s, .bool k, .bool st, .int .i64 v, .int .i64 e0], .agg #[.int .i64 m, .int .i64 s, .bool k, .bool st, .int .i64 v, .int .i64 e0]] w fun e w' => e = .returned (.bool true) ∧ Below w.heap.size w w' := by
  go_enter Try.func16, Try.ntmps16
  go_wp2
  go_ret
  exact ⟨rfl, (by repeat (first | with_reducible exact Below.refl _ _ | with_reducible assumption | with_reducible refine Below.al ?_ _ | with_reducible refine Below.drew ?_ | with_reducible refine Below.seq ?_ (by assumption) | (with_reducible refine Below.setCell ?_ ?_ _); rotate_left; focus (first | exact Nat.le_refl _ | (simp; done) | (simp; omega))))⟩
theorem toSegment_any (f t q a l n m s : Int) (k st : Bool) (v e0 : Int) (b : ByteArray) (w : World) :
    Calls Try.prog 24 #[.agg #[.int .i64 f, .int .i64 t, .int .i64 q, .int .i64 a, .int .i64 l, .int .i64 n, .int .i64 m, .int .i64 s, .bool k, .bool st, .int .i64 v, .int .i64 e0, .string b]] w fun e w' => e = .returned (.agg #[.int .i64 f, .int .i64 t, .int .i64 q, .int .i64 a, .int .i64 l, .int .i64 n, .int .i64 m, .int .i64 s, .bool k, .bool st, .int .i64 v, .int .i64 e0, .string b]) ∧ Below w.heap.size w w' := by
  go_enter Try.func24, Try.ntmps24
  go_wp2_with (go_at_call 49; refine (toOptions_at _ _ _ _ _ _ _).mono ?_; rintro e w1 ⟨rfl, o1, o2, o3, rfl⟩)
  simp [bodyPost, results, Try.results24, go_sem]
  exact (by repeat (first | with_reducible exact Below.refl _ _ | with_reducible assumption | with_reducible refine Below.al ?_ _ | with_reducible refine Below.drew ?_ | with_reducible refine Below.seq ?_ (by assumption) | (with_reducible refine Below.setCell ?_ ?_ _); rotate_left; focus (first | exact Nat.le_refl _ | (simp; done) | (simp; omega))))
theorem eqSegment_same (f t q a l n m s : Int) (k st : Bool) (v e0 : Int) (b : ByteArray) (w : World) :
    Calls Try.prog 28 #[.agg #[.int .i64 f, .int .i64 t, .int .i64 q, .int .i64 a, .int .i64 l, .int .i64 n, .int .i64 m, .int .i64 s, .bool k, .bool st, .int .i64 v, .int .i64 e0, .string b], .agg #[.int .i64 f, .int .i64 t, .int .i64 q, .int .i64 a, .int .i64 l, .int .i64 n, .int .i64 m, .int .i64 s, .bool k, .bool st, .int .i64 v, .int .i64 e0, .string b]] w fun e w' => e = .returned (.bool true) ∧ Below w.heap.size w w' := by
  go_enter Try.func28, Try.ntmps28
  go_wp2_with ((go_at_call 16; refine (eqOptions_same _ _ _ _ _ _ _).mono ?_; rintro e w1 ⟨rfl, hb1⟩; obtain ⟨hc, hf⟩ := bcell hb1; have hz0 : w.heap.size < w1.heap.size := (by have := hb1.size; (try simp at this); omega); have hz1 : w.heap.size + 1 < w1.heap.size := (by have := hb1.size; (try simp at this); omega)))
  go_ret
  exact ⟨rfl, (by repeat (first | with_reducible exact Below.refl _ _ | with_reducible assumption | with_reducible refine Below.al ?_ _ | with_reducible refine Below.drew ?_ | with_reducible refine Below.seq ?_ (by assumption) | (with_reducible refine Below.setCell ?_ ?_ _); rotate_left; focus (first | exact Nat.le_refl _ | (simp; done) | (simp; omega))))⟩
theorem szSegment_any (f t q a l n m s : Int) (k st : Bool) (v e0 : Int) (b : ByteArray) (left : Int) (w : World) (h0 : 0 ≤ left) (h1 : left ≤ 1048576) (hb : b.size ≤ maxLen) :
    Calls Try.prog 22 #[.agg #[.int .i64 f, .int .i64 t, .int .i64 q, .int .i64 a, .int .i64 l, .int .i64 n, .int .i64 m, .int .i64 s, .bool k, .bool st, .int .i64 v, .int .i64 e0, .string b], .int .i64 left] w fun e w' => e = .returned (.int .i64 (sz1 left b.size)) ∧ Below w.heap.size w w' := by
  unfold maxLen at hb
  by_cases h : left - b.size < 0
  · have e : sz1 left b.size = -1 := if_pos h
    rw [e]
    clear e
    go_enter Try.func22, Try.ntmps22
    go_wp2
    go_ret
    exact ⟨rfl, (by repeat (first | with_reducible exact Below.refl _ _ | with_reducible assumption | with_reducible refine Below.al ?_ _ | with_reducible refine Below.drew ?_ | with_reducible refine Below.seq ?_ (by assumption) | (with_reducible refine Below.setCell ?_ ?_ _); rotate_left; focus (first | exact Nat.le_refl _ | (simp; done) | (simp; omega))))⟩
  · have e : sz1 left b.size = left - b.size := if_neg h
    rw [e]
    clear e
    go_enter Try.func22, Try.ntmps22
    go_wp2
    go_ret
    exact ⟨rfl, (by repeat (first | with_reducible exact Below.refl _ _ | with_reducible assumption | with_reducible refine Below.al ?_ _ | with_reducible refine Below.drew ?_ | with_reducible refine Below.seq ?_ (by assumption) | (with_reducible refine Below.setCell ?_ ?_ _); rotate_left; focus (first | exact Nat.le_refl _ | (simp; done) | (simp; omega))))⟩

/-! What an argument of each of these types is. -/
def IsFrame (v : Value) : Prop := ∃ (d s t : Int) (b : ByteArray), v = .agg #[.int .i64 d, .int .i64 s, .int .i64 t, .string b] ∧ I64 d ∧ I64 s ∧ I64 t ∧ b.size ≤ maxLen
def IsArp (v : Value) : Prop := ∃ (k sh si dh di : Int), v = .agg #[.int .i64 k, .int .i64 sh, .int .i64 si, .int .i64 dh, .int .i64 di] ∧ I64 k ∧ I64 sh ∧ I64 si ∧ I64 dh ∧ I64 di
def IsPacket (v : Value) : Prop := ∃ (s d t p i : Int) (b : ByteArray), v = .agg #[.int .i64 s, .int .i64 d, .int .i64 t, .int .i64 p, .int .i64 i, .string b] ∧ I64 s ∧ I64 d ∧ I64 t ∧ I64 p ∧ I64 i ∧ b.size ≤ maxLen
def IsOptions (v : Value) : Prop := ∃ (m s : Int) (k st : Bool) (y e : Int), v = .agg #[.int .i64 m, .int .i64 s, .bool k, .bool st, .int .i64 y, .int .i64 e] ∧ I64 m ∧ I64 s ∧ I64 y ∧ I64 e
def IsSegment (v : Value) : Prop := ∃ (f t q a l n m s : Int) (k st : Bool) (y e : Int) (b : ByteArray), v = .agg #[.int .i64 f, .int .i64 t, .int .i64 q, .int .i64 a, .int .i64 l, .int .i64 n, .int .i64 m, .int .i64 s, .bool k, .bool st, .int .i64 y, .int .i64 e, .string b] ∧ I64 f ∧ I64 t ∧ I64 q ∧ I64 a ∧ I64 l ∧ I64 n ∧ I64 m ∧ I64 s ∧ I64 y ∧ I64 e ∧ b.size ≤ maxLen
end Go.Proofs.Ytpbndakbdaidnaa
