/-
  Folded's value in closed form, what both Folded return, and its laws' walks.
-/
import Derived.Test.YtahffinjglmhhaaNum
namespace Go.Proofs.Ytahffinjglmhhaa
open Go.RowKit
set_option linter.unusedVariables false

/-- What Folded returns. -/
def fold (n : Int) : Int := if n ≤ 0 then 0 else (n - 1) % 65535 + 1
theorem fold_small (n : Int) (h0 : 0 ≤ n) (h1 : n ≤ 65535) : fold n = n := by unfold fold; split <;> omega
theorem fold_step (n : Int) (h0 : 65536 ≤ n) : fold (n / 65536 + n % 65536) = fold n := by unfold fold; rw [if_neg (by omega), if_neg (by omega)]; omega
theorem fold_neg (n : Int) (h : n < 0) : fold n = 0 := by unfold fold; rw [if_pos (by omega)]
theorem fold_bd (n : Int) : 0 ≤ fold n ∧ fold n ≤ 65535 := by unfold fold; split <;> omega

theorem spec_Folded (n : Int) (w : World) (h1 : n ≤ 9223372036854775807) :
    Calls Try.prog 107 #[.int .i64 n] w fun e w' => e = .returned (.int .i64 (fold n)) ∧ w = w' := by
  by_cases hn : n < 0
  · rw [fold_neg n hn]
    go_enter Try.func107, Try.ntmps107
    go_wp2
    go_ret
    exact ⟨rfl, rfl⟩
  · go_enter Try.func107, Try.ntmps107
    go_wp2
    go_loop [0] (fun v => ∃ m : Int, 0 ≤ m ∧ m ≤ n ∧ Hid (fold m = fold n) ∧ v = .int .i64 m) (fun v => (intOf v).toNat)
    case atStart => exact ⟨n, by omega, by omega, hide rfl, rfl⟩
    case round =>
      obtain ⟨m, hm0, hm1, HF, rfl⟩ := hrel
      by_cases hlt : 65535 < m
      · go_wp2
        go_round
        case rel => exact ⟨m / 65536 + m % 65536, by omega, by omega, hide ((fold_step m (by omega)).trans HF.out), rfl⟩
        case measure => simp [intOf]; omega
      · go_wp2
        go_ret
        exact ⟨ret_int ((fold_small m hm0 (by omega)).symm.trans HF.out), rfl⟩
theorem impl_Folded (n : Int) (w : World) (h1 : n ≤ 9223372036854775807) :
    Calls Try.prog 105 #[.int .i64 n] w fun e w' => e = .returned (.int .i64 (fold n)) ∧ w = w' := by
  by_cases hn : n < 0
  · rw [fold_neg n hn]
    go_enter Try.func105, Try.ntmps105
    go_wp2
    go_ret
    exact ⟨rfl, rfl⟩
  · go_enter Try.func105, Try.ntmps105
    go_wp2
    go_loop [0] (fun v => ∃ m : Int, 0 ≤ m ∧ m ≤ n ∧ Hid (fold m = fold n) ∧ v = .int .i64 m) (fun v => (intOf v).toNat)
    case atStart => exact ⟨n, by omega, by omega, hide rfl, rfl⟩
    case round =>
      obtain ⟨m, hm0, hm1, HF, rfl⟩ := hrel
      by_cases hlt : 65536 ≤ m
      · go_wp2
        go_round
        case rel => exact ⟨m / 65536 + m % 65536, by omega, by omega, hide ((fold_step m (by omega)).trans HF.out), rfl⟩
        case measure => simp [intOf]; omega
      · go_wp2
        go_ret
        exact ⟨ret_int ((fold_small m hm0 (by omega)).symm.trans HF.out), rfl⟩
end Go.Proofs.Ytahffinjglmhhaa
