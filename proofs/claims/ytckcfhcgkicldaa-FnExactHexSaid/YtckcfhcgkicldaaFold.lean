/-
  Folded's value in closed form, what both Folded return, and its laws' walks.
-/
import Derived.Test.YtckcfhcgkicldaaNum
namespace Go.Proofs.Ytckcfhcgkicldaa
open Go.RowKit
set_option linter.unusedVariables false

/-- What Folded returns. -/
def fold (n : Int) : Int := if n ≤ 0 then 0 else (n - 1) % 65535 + 1
theorem fold_small (n : Int) (h0 : 0 ≤ n) (h1 : n ≤ 65535) : fold n = n := by unfold fold; split <;> omega
theorem fold_step (n : Int) (h0 : 65536 ≤ n) : fold (n / 65536 + n % 65536) = fold n := by unfold fold; rw [if_neg (by omega), if_neg (by omega)]; omega
theorem fold_neg (n : Int) (h : n < 0) : fold n = 0 := by unfold fold; rw [if_pos (by omega)]
theorem fold_bd (n : Int) : 0 ≤ fold n ∧ fold n ≤ 65535 := by unfold fold; split <;> omega

theorem spec_Folded (n : Int) (w : World) (h1 : n ≤ 9223372036854775807) :
    Calls Try.prog 40 #[.int .i64 n] w fun e w' => e = .returned (.int .i64 (fold n)) ∧ w = w' := by
  by_cases hn : n < 0
  · rw [fold_neg n hn]
    go_enter Try.func40, Try.ntmps40
    go_wp2
    go_ret
    exact ⟨rfl, rfl⟩
  · go_enter Try.func40, Try.ntmps40
    go_wp2
    go_loop [0] (fun v => ∃ m : Int, 0 ≤ m ∧ m ≤ n ∧ Hid (fold m = fold n) ∧ v = .int .i64 m) (fun v => (intOf v).toNat)
    case atStart => exact ⟨n, by omega, by omega, hide rfl, rfl⟩
    case round =>
      obtain ⟨m, hm0, hm1, HF, rfl⟩ := hrel
      by_cases hlt : 65535 < m
      · go_wp2
        go_round
        case rel => exact ⟨m / 65536 + m % 65536, by omega, by omega, hide ((fold_step m (by omega)).trans HF.out), rfl⟩
        case measure => simp [intOf]; omega
      · go_wp2
        go_ret
        exact ⟨ret_int ((fold_small m hm0 (by omega)).symm.trans HF.out), rfl⟩
theorem impl_Folded (n : Int) (w : World) (h1 : n ≤ 9223372036854775807) :
    Calls Try.prog 41 #[.int .i64 n] w fun e w' => e = .returned (.int .i64 (fold n)) ∧ w = w' := by
  by_cases hn : n < 0
  · rw [fold_neg n hn]
    go_enter Try.func41, Try.ntmps41
    go_wp2
    go_ret
    exact ⟨rfl, rfl⟩
  · go_enter Try.func41, Try.ntmps41
    go_wp2
    go_loop [0] (fun v => ∃ m : Int, 0 ≤ m ∧ m ≤ n ∧ Hid (fold m = fold n) ∧ v = .int .i64 m) (fun v => (intOf v).toNat)
    case atStart => exact ⟨n, by omega, by omega, hide rfl, rfl⟩
    case round =>
      obtain ⟨m, hm0, hm1, HF, rfl⟩ := hrel
      by_cases hlt : 65536 ≤ m
      · go_wp2
        go_round
        case rel => exact ⟨m / 65536 + m % 65536, by omega, by omega, hide ((fold_step m (by omega)).trans HF.out), rfl⟩
        case measure => simp [intOf]; omega
      · go_wp2
        go_ret
        exact ⟨ret_int ((fold_small m hm0 (by omega)).symm.trans HF.out), rfl⟩
theorem fnExactFolded_walk (a0 : Int) (w0 : (Lit.int .i64 a0).wf = true) (w : World) :
    Calls Try.prog 13 #[.int .i64 a0] w fun e w' => e = .returned (.bool true) ∧ Below w.heap.size w w' := by
  obtain ⟨_, h1⟩ := I64.of_wf w0
  clear w0
  go_enter Try.func13, Try.ntmps13
  go_wp2_with (first | (go_at_call 40; refine (spec_Folded _ _ h1).mono ?_; rintro e w1 ⟨rfl, rfl⟩) | (go_at_call 41; refine (impl_Folded _ _ h1).mono ?_; rintro e w1 ⟨rfl, rfl⟩))
  go_ret
  exact ⟨rfl, Below.refl _ _⟩
end Go.Proofs.Ytckcfhcgkicldaa
