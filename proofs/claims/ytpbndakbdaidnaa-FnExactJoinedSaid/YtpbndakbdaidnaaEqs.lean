/-
  Rows of strings compared.
-/
import Derived.Test.YtpbndakbdaidnaaStrs
import Derived.BigQuiet
namespace Go.Proofs.Ytpbndakbdaidnaa
open Go.RowKit
set_option linter.unusedVariables false

theorem eqStringS_same (L : List ByteArray) (b1 b2 g1 c1 g2 c2 n : Nat) (w : World) (hl : L.length = n) (hn : n ≤ 1048577)
    (h1 : w.ownsRow b1 9 1 (.slice (some ⟨g1, 0, none⟩) n c1) n (L.map Value.string)) (h2 : w.ownsRow b2 9 1 (.slice (some ⟨g2, 0, none⟩) n c2) n (L.map Value.string)) :
    Calls Try.prog 13 #[.slice (some ⟨g1, 0, none⟩) n c1, .slice (some ⟨g2, 0, none⟩) n c2] w fun e w' => e = .returned (.bool true) ∧ Below w.heap.size w w' := by
  have Hl := hide hl
  have H1 := hide h1
  have H2 := hide h2
  clear hl h1 h2
  go_enter Try.func13, Try.ntmps13
  go_wp2
  go_loopw [5] (fun i wr => ∃ k : Nat, k ≤ n ∧ i = .int .i64 k ∧ Hid (wr.ownsRow b1 9 1 (.slice (some ⟨g1, 0, none⟩) n c1) n (L.map Value.string)) ∧ Hid (wr.ownsRow b2 9 1 (.slice (some ⟨g2, 0, none⟩) n c2) n (L.map Value.string)) ∧ Below w.heap.size w wr) (fun i _ => n - (intOf i).toNat)
  case atStart => exact ⟨0, by omega, rfl, H1, H2, Below.refl _ _⟩
  case round =>
    obtain ⟨k, hk, rfl, r1, r2, hb⟩ := hrel
    by_cases hlt : k < n
    · have hk2 : k < L.length := by rw [Hl.out]; exact hlt
      have x1 : wr.cell? ⟨g1, k, none⟩ = some (.string L[k]) := by rw [r1.out.cellAt k (by omega)]; simp [hk2]
      have x2 : wr.cell? ⟨g2, k, none⟩ = some (.string L[k]) := by rw [r2.out.cellAt k (by omega)]; simp [hk2]
      obtain ⟨u, Hu⟩ : ∃ u, Hid (u = L[k]) := ⟨_, hide rfl⟩
      rw [← Hu.out] at x1 x2
      go_wp2
      go_region
      all_goals
        go_wp2
        go_roundw
        case rel => exact ⟨k + 1, by omega, by go_num, r1, r2, (by repeat (first | with_reducible exact Below.refl _ _ | with_reducible assumption | with_reducible refine Below.al ?_ _ | with_reducible refine Below.drew ?_ | with_reducible refine Below.seq ?_ (by assumption) | (with_reducible refine Below.setCell ?_ ?_ _); rotate_left; focus (first | exact Nat.le_refl _ | (simp; done) | (simp; omega))))⟩
        case measure => simp [intOf]; omega
    · go_wp2
      go_ret
      exact ⟨rfl, hb⟩
end Go.Proofs.Ytpbndakbdaidnaa
