/-
  The walks of the laws over words, sums and the head for the sum: each law returns true; what was in memory stays.
-/
import Derived.Test.YtgiaihidbcfpdaaWord
namespace Go.Proofs.Ytgiaihidbcfpdaa
open Go.RowKit
set_option linter.unusedVariables false

theorem fnExactPutWord_walk (a0 a1 : Int) (w0 : (Lit.int .i64 a0).wf = true) (w1 : (Lit.int .i64 a1).wf = true) (w : World) :
    Calls Try.prog 9 #[.int .i64 a0, .int .i64 a1] w fun e w' => e = .returned (.bool true) ∧ Below w.heap.size w w' := by
  clear w0 w1
  go_enter Try.func9, Try.ntmps9
  go_wp2_with (first | (go_at_call 37; refine (spec_PutWord _ _ _).mono ?_; rintro e w1 ⟨rfl, hb1⟩) | (go_at_call 38; refine (impl_PutWord _ _ _).mono ?_; rintro e w1 ⟨rfl, hb1⟩))
  go_ret
  exact ⟨rfl, (by repeat (first | exact Below.refl _ _ | assumption | refine Below.al ?_ _ | refine Below.drew ?_ | refine Below.seq ?_ (by assumption) | refine Below.setCell ?_ (by first | exact Nat.le_refl _ | (simp; done) | (simp; omega)) _))⟩
theorem fnExactGetWord_walk (a0 : ByteArray) (a1 a2 : Int) (w0 : a0.size ≤ maxLen) (w1 : (Lit.int .i64 a1).wf = true) (w2 : (Lit.int .i64 a2).wf = true) (w : World) :
    Calls Try.prog 6 #[.string a0, .int .i64 a1, .int .i64 a2] w fun e w' => e = .returned (.bool true) ∧ Below w.heap.size w w' := by
  clear w0 w1 w2
  by_cases h : 1048576 < a0.size
  · go_enter Try.func6, Try.ntmps6
    go_wp2
    go_ret
    exact ⟨rfl, Below.refl _ _⟩
  · have hs : a0.size ≤ 140737488355328 := by omega
    go_enter Try.func6, Try.ntmps6
    go_wp2_with (first | (go_at_call 28; refine (spec_GetWord _ _ _ _ hs).mono ?_; rintro e w1 ⟨rfl, rfl⟩) | (go_at_call 29; refine (impl_GetWord _ _ _ _ hs).mono ?_; rintro e w1 ⟨rfl, rfl⟩))
    go_ret
    exact ⟨rfl, Below.refl _ _⟩
theorem fnExactWordSum_walk (a0 : ByteArray) (w0 : a0.size ≤ maxLen) (w : World) :
    Calls Try.prog 3 #[.string a0] w fun e w' => e = .returned (.bool true) ∧ Below w.heap.size w w' := by
  clear w0
  by_cases h : 1048576 < a0.size
  · go_enter Try.func3, Try.ntmps3
    go_wp2
    go_ret
    exact ⟨rfl, Below.refl _ _⟩
  · have hs : a0.size ≤ 140737488355328 := by omega
    go_enter Try.func3, Try.ntmps3
    go_wp2_with (first | (go_at_call 20; refine (spec_WordSum _ _ hs).mono ?_; rintro e w1 ⟨rfl, rfl⟩) | (go_at_call 21; refine (impl_WordSum _ _ hs).mono ?_; rintro e w1 ⟨rfl, rfl⟩))
    go_ret
    exact ⟨rfl, Below.refl _ _⟩
theorem fnExactSumOf_walk (a0 : ByteArray) (w0 : a0.size ≤ maxLen) (w : World) :
    Calls Try.prog 14 #[.string a0] w fun e w' => e = .returned (.bool true) ∧ Below w.heap.size w w' := by
  clear w0
  by_cases h : 1048576 < a0.size
  · go_enter Try.func14, Try.ntmps14
    go_wp2
    go_ret
    exact ⟨rfl, Below.refl _ _⟩
  · have hs : a0.size ≤ 140737488355328 := by omega
    go_enter Try.func14, Try.ntmps14
    go_wp2_with (first | (go_at_call 52; refine (spec_SumOf _ _ hs).mono ?_; rintro e w1 ⟨rfl, rfl⟩) | (go_at_call 53; refine (impl_SumOf _ _ hs).mono ?_; rintro e w1 ⟨rfl, rfl⟩))
    go_ret
    exact ⟨rfl, Below.refl _ _⟩
theorem fnExactSumRight_walk (a0 : ByteArray) (w0 : a0.size ≤ maxLen) (w : World) :
    Calls Try.prog 16 #[.string a0] w fun e w' => e = .returned (.bool true) ∧ Below w.heap.size w w' := by
  clear w0
  by_cases h : 1048576 < a0.size
  · go_enter Try.func16, Try.ntmps16
    go_wp2
    go_ret
    exact ⟨rfl, Below.refl _ _⟩
  · have hs : a0.size ≤ 140737488355328 := by omega
    go_enter Try.func16, Try.ntmps16
    go_wp2_with (first | (go_at_call 56; refine (spec_SumRight _ _ hs).mono ?_; rintro e w1 ⟨rfl, rfl⟩) | (go_at_call 57; refine (impl_SumRight _ _ hs).mono ?_; rintro e w1 ⟨rfl, rfl⟩))
    go_ret
    exact ⟨rfl, Below.refl _ _⟩
end Go.Proofs.Ytgiaihidbcfpdaa
