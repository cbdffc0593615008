/-
  When ranges of sequence numbers meet: what Overlaps returns, and its law's walk; SipStart and its law's walk.
-/
import Derived.Test.YtcapkadknabfiaaNum
namespace Go.Proofs.Ytcapkadknabfiaa
open Go.RowKit
set_option linter.unusedVariables false

/-- What Overlaps returns. -/
def ov (x n f s : Int) : Bool := decide (1 ≤ n ∧ 1 ≤ s ∧ ((x - f) % 4294967296 < s ∨ (f - x) % 4294967296 < min n 65536))
theorem inWin_iff {x f n : Int} : inWin x f n = true ↔ 0 < n ∧ (x - f) % 4294967296 < n := by simp [inWin]
theorem inWin_no {x f n : Int} : inWin x f n = false ↔ ¬(0 < n ∧ (x - f) % 4294967296 < n) := by simp [inWin]
theorem ov_iff {x n f s : Int} : ov x n f s = true ↔ (1 ≤ n ∧ 1 ≤ s ∧ ((x - f) % 4294967296 < s ∨ (f - x) % 4294967296 < min n 65536)) := by simp [ov]
theorem ov_no {x n f s : Int} : ov x n f s = false ↔ ¬(1 ≤ n ∧ 1 ≤ s ∧ ((x - f) % 4294967296 < s ∨ (f - x) % 4294967296 < min n 65536)) := by simp only [ov, decide_eq_false_iff_not]
theorem r32_shift (x k f : Int) : (r32 (x + k) - f) % 4294967296 = (x + k - f) % 4294967296 := by unfold r32; omega
theorem ov_hit (x n f s : Int) (k : Nat) (h1 : (k : Int) < n) (h2 : (k : Int) < 65536) (h : inWin (r32 (x + k)) f s = true) : ov x n f s = true := by
  rw [inWin_iff, r32_shift] at h
  rw [ov_iff]
  omega
theorem ov_end (x n f s : Int) (h : ∀ j : Nat, (j : Int) < n → (j : Int) < 65536 → inWin (r32 (x + j)) f s = false) : ov x n f s = false := by
  rw [ov_no]
  rintro ⟨h1, h2, h3 | h3⟩
  · have := h 0 (by omega) (by omega)
    rw [inWin_no, r32_shift] at this
    omega
  · have := h ((f - x) % 4294967296).toNat (by omega) (by omega)
    rw [inWin_no, r32_shift] at this
    omega
theorem spec_Overlaps (x n f s : Int) (w : World) (hn : n ≤ 9223372036854775807) :
    Calls Try.prog 74 #[.int .i64 x, .int .i64 n, .int .i64 f, .int .i64 s] w fun e w' => e = .returned (.bool (ov x n f s)) ∧ w = w' := by
  go_enter Try.func74, Try.ntmps74
  go_wp2
  go_loop [9] (fun i => ∃ k : Nat, (k : Int) ≤ 65536 ∧ i = .int .i64 k ∧ Hid (∀ j : Nat, j < k → inWin (r32 (x + j)) f s = false)) (fun i => (65536 - intOf i).toNat)
  case atStart => exact ⟨0, by omega, rfl, hide (fun j h => by omega)⟩
  case round =>
    obtain ⟨k, hk, rfl, HJ⟩ := hrel
    by_cases h1 : (k : Int) < n
    · by_cases h2 : (k : Int) < 65536
      · by_cases hin : inWin (r32 (x + k)) f s = true
        · have Hv := hide (ov_hit x n f s k h1 h2 hin)
          have Hin := hide hin
          clear hin
          go_wp2_with (first | (go_at_call 54; refine (spec_SeqAdd _ _ _).mono ?_; rintro e w1 ⟨rfl, rfl⟩) | (go_at_call 76; refine (spec_InWindow _ _ _ _).mono ?_; rintro e w1 ⟨rfl, rfl⟩; rw [Hin.out]))
          go_ret
          exact ⟨by rw [Hv.out]; rfl, rfl⟩
        · have Hin := hide (show inWin (r32 (x + k)) f s = false by simpa using hin)
          clear hin
          go_wp2_with (first | (go_at_call 54; refine (spec_SeqAdd _ _ _).mono ?_; rintro e w1 ⟨rfl, rfl⟩) | (go_at_call 76; refine (spec_InWindow _ _ _ _).mono ?_; rintro e w1 ⟨rfl, rfl⟩; rw [Hin.out]))
          go_round
          case rel => exact ⟨k + 1, by omega, by go_num, hide (fun j h => by
            rcases Nat.lt_or_ge j k with h3 | h3
            · exact HJ.out j h3
            · rw [show j = k by omega]; exact Hin.out)⟩
          case measure => simp [intOf]; omega
      · have Hv := hide (ov_end x n f s (fun j _ h => HJ.out j (by omega)))
        go_wp2
        go_ret
        exact ⟨by rw [Hv.out]; rfl, rfl⟩
    · have Hv := hide (ov_end x n f s (fun j h _ => HJ.out j (by omega)))
      go_wp2
      go_ret
      exact ⟨by rw [Hv.out]; rfl, rfl⟩
theorem impl_Overlaps (x n f s : Int) (w : World) :
    Calls Try.prog 73 #[.int .i64 x, .int .i64 n, .int .i64 f, .int .i64 s] w fun e w' => e = .returned (.bool (ov x n f s)) ∧ w = w' := by
  obtain ⟨m, hm⟩ : ∃ m, m = min n 65536 := ⟨_, rfl⟩
  have hm1 : m ≤ 65536 := by omega
  have Hm := hide hm
  by_cases h1 : 1 ≤ n
  · have hm2 : 1 ≤ m := by omega
    by_cases h2 : 1 ≤ s
    · by_cases hin : inWin x f s = true
      · have Hv := hide (show ov x n f s = true by
          rw [inWin_iff] at hin
          rw [ov_iff]
          omega)
        have Hin := hide hin
        clear hin hm
        go_enter Try.func73, Try.ntmps73
        go_wp2_with (first | (go_at_call 75; refine (impl_InWindow _ _ _ _).mono ?_; rintro e w1 ⟨rfl, rfl⟩; rw [Hin.out]))
        all_goals (go_ret; exact ⟨by rw [Hv.out]; rfl, rfl⟩)
      · have Hv := hide (show ov x n f s = decide (r32 (f - x) < m) by
          rw [inWin_iff] at hin
          unfold ov r32
          rw [decide_eq_decide]
          omega)
        have Hin := hide (show inWin x f s = false by simpa using hin)
        clear hin hm
        go_enter Try.func73, Try.ntmps73
        go_wp2_with (first | (go_at_call 75; refine (impl_InWindow _ _ _ _).mono ?_; rintro e w1 ⟨rfl, rfl⟩; rw [Hin.out]) | (go_at_call 106; refine (impl_ahead _ _ _).mono ?_; rintro e w1 ⟨rfl, rfl⟩))
        all_goals (go_ret; exact ⟨ret_bool (by rw [Hv.out, decide_eq_decide]; have := Hm.out; omega), rfl⟩)
    · have Hv := hide (show ov x n f s = false by rw [ov_no]; omega)
      clear hm
      go_enter Try.func73, Try.ntmps73
      go_wp2
      all_goals (go_ret; exact ⟨by rw [Hv.out]; rfl, rfl⟩)
  · have Hv := hide (show ov x n f s = false by rw [ov_no]; omega)
    clear hm
    go_enter Try.func73, Try.ntmps73
    go_wp2
    all_goals (go_ret; exact ⟨by rw [Hv.out]; rfl, rfl⟩)
end Go.Proofs.Ytcapkadknabfiaa
