/-
  Folded's value in closed form, what both Folded return, and its laws' walks.
-/
import Derived.Test.YtahffinjglmhhaaDoorNum
namespace Go.Proofs.YtahffinjglmhhaaDoor
open Go.RowKit
set_option linter.unusedVariables false

/-- What Folded returns. -/
def fold (n : Int) : Int := if n ≤ 0 then 0 else (n - 1) % 65535 + 1
theorem fold_small (n : Int) (h0 : 0 ≤ n) (h1 : n ≤ 65535) : fold n = n := by unfold fold; split <;> omega
theorem fold_step (n : Int) (h0 : 65536 ≤ n) : fold (n / 65536 + n % 65536) = fold n := by unfold fold; rw [if_neg (by omega), if_neg (by omega)]; omega
theorem fold_neg (n : Int) (h : n < 0) : fold n = 0 := by unfold fold; rw [if_pos (by omega)]
theorem fold_bd (n : Int) : 0 ≤ fold n ∧ fold n ≤ 65535 := by unfold fold; split <;> omega

end Go.Proofs.YtahffinjglmhhaaDoor
