/-
  When ranges of sequence numbers meet: what Overlaps returns, and its law's walk; SipStart and its law's walk.
-/
import Derived.Test.YtgiaihidbcfpdaaNum
import Derived.Test.YtgiaihidbcfpdaaConv
namespace Go.Proofs.Ytgiaihidbcfpdaa
open Go.RowKit
set_option linter.unusedVariables false

/-- What Overlaps returns. -/
def ov (x n f s : Int) : Bool := decide (1 ≤ n ∧ 1 ≤ s ∧ ((x - f) % 4294967296 < s ∨ (f - x) % 4294967296 < min n 65536))
theorem inWin_iff {x f n : Int} : inWin x f n = true ↔ 0 < n ∧ (x - f) % 4294967296 < n := by simp [inWin]
theorem inWin_no {x f n : Int} : inWin x f n = false ↔ ¬(0 < n ∧ (x - f) % 4294967296 < n) := by simp [inWin]
theorem ov_iff {x n f s : Int} : ov x n f s = true ↔ (1 ≤ n ∧ 1 ≤ s ∧ ((x - f) % 4294967296 < s ∨ (f - x) % 4294967296 < min n 65536)) := by simp [ov]
theorem ov_no {x n f s : Int} : ov x n f s = false ↔ ¬(1 ≤ n ∧ 1 ≤ s ∧ ((x - f) % 4294967296 < s ∨ (f - x) % 4294967296 < min n 65536)) := by simp only [ov, decide_eq_false_iff_not]
theorem r32_shift (x k f : Int) : (r32 (x + k) - f) % 4294967296 = (x + k - f) % 4294967296 := by unfold r32; omega
theorem ov_hit (x n f s : Int) (k : Nat) (h1 : (k : Int) < n) (h2 : (k : Int) < 65536) (h : inWin (r32 (x + k)) f s = true) : ov x n f s = true := by
  rw [inWin_iff, r32_shift] at h
  rw [ov_iff]
  omega
theorem ov_end (x n f s : Int) (h : ∀ j : Nat, (j : Int) < n → (j : Int) < 65536 → inWin (r32 (x + j)) f s = false) : ov x n f s = false := by
  rw [ov_no]
  rintro ⟨h1, h2, h3 | h3⟩
  · have := h 0 (by omega) (by omega)
    rw [inWin_no, r32_shift] at this
    omega
  · have := h ((f - x) % 4294967296).toNat (by omega) (by omega)
    rw [inWin_no, r32_shift] at this
    omega
theorem spec_Overlaps (x n f s : Int) (w : World) (hn : n ≤ 9223372036854775807) :
    Calls Try.prog 46 #[.int .i64 x, .int .i64 n, .int .i64 f, .int .i64 s] w fun e w' => e = .returned (.bool (ov x n f s)) ∧ w = w' := by
  go_enter Try.func46, Try.ntmps46
  go_wp2
  go_loop [9] (fun i => ∃ k : Nat, (k : Int) ≤ 65536 ∧ i = .int .i64 k ∧ Hid (∀ j : Nat, j < k → inWin (r32 (x + j)) f s = false)) (fun i => (65536 - intOf i).toNat)
  case atStart => exact ⟨0, by omega, rfl, hide (fun j h => by omega)⟩
  case round =>
    obtain ⟨k, hk, rfl, HJ⟩ := hrel
    by_cases h1 : (k : Int) < n
    · by_cases h2 : (k : Int) < 65536
      · by_cases hin : inWin (r32 (x + k)) f s = true
        · have Hv := hide (ov_hit x n f s k h1 h2 hin)
          have Hin := hide hin
          clear hin
          go_wp2_with (first | (go_at_call 69; refine (spec_SeqAdd _ _ _).mono ?_; rintro e w1 ⟨rfl, rfl⟩) | (go_at_call 68; refine (spec_InWindow _ _ _ _).mono ?_; rintro e w1 ⟨rfl, rfl⟩; rw [Hin.out]))
          go_ret
          exact ⟨by rw [Hv.out]; rfl, rfl⟩
        · have Hin := hide (show inWin (r32 (x + k)) f s = false by simpa using hin)
          clear hin
          go_wp2_with (first | (go_at_call 69; refine (spec_SeqAdd _ _ _).mono ?_; rintro e w1 ⟨rfl, rfl⟩) | (go_at_call 68; refine (spec_InWindow _ _ _ _).mono ?_; rintro e w1 ⟨rfl, rfl⟩; rw [Hin.out]))
          go_round
          case rel => exact ⟨k + 1, by omega, by go_num, hide (fun j h => by
            rcases Nat.lt_or_ge j k with h3 | h3
            · exact HJ.out j h3
            · rw [show j = k by omega]; exact Hin.out)⟩
          case measure => simp [intOf]; omega
      · have Hv := hide (ov_end x n f s (fun j _ h => HJ.out j (by omega)))
        go_wp2
        go_ret
        exact ⟨by rw [Hv.out]; rfl, rfl⟩
    · have Hv := hide (ov_end x n f s (fun j h _ => HJ.out j (by omega)))
      go_wp2
      go_ret
      exact ⟨by rw [Hv.out]; rfl, rfl⟩
theorem impl_Overlaps (x n f s : Int) (w : World) :
    Calls Try.prog 47 #[.int .i64 x, .int .i64 n, .int .i64 f, .int .i64 s] w fun e w' => e = .returned (.bool (ov x n f s)) ∧ w = w' := by
  obtain ⟨m, hm⟩ : ∃ m, m = min n 65536 := ⟨_, rfl⟩
  have hm1 : m ≤ 65536 := by omega
  have Hm := hide hm
  by_cases h1 : 1 ≤ n
  · have hm2 : 1 ≤ m := by omega
    by_cases h2 : 1 ≤ s
    · by_cases hin : inWin x f s = true
      · have Hv := hide (show ov x n f s = true by
          rw [inWin_iff] at hin
          rw [ov_iff]
          omega)
        have Hin := hide hin
        clear hin hm
        go_enter Try.func47, Try.ntmps47
        go_wp2_with (first | (go_at_call 70; refine (impl_InWindow _ _ _ _).mono ?_; rintro e w1 ⟨rfl, rfl⟩; rw [Hin.out]))
        all_goals (go_ret; exact ⟨by rw [Hv.out]; rfl, rfl⟩)
      · have Hv := hide (show ov x n f s = decide (r32 (f - x) < m) by
          rw [inWin_iff] at hin
          unfold ov r32
          rw [decide_eq_decide]
          omega)
        have Hin := hide (show inWin x f s = false by simpa using hin)
        clear hin hm
        go_enter Try.func47, Try.ntmps47
        go_wp2_with (first | (go_at_call 70; refine (impl_InWindow _ _ _ _).mono ?_; rintro e w1 ⟨rfl, rfl⟩; rw [Hin.out]) | (go_at_call 71; refine (impl_ahead _ _ _).mono ?_; rintro e w1 ⟨rfl, rfl⟩))
        all_goals (go_ret; exact ⟨ret_bool (by rw [Hv.out, decide_eq_decide]; have := Hm.out; omega), rfl⟩)
    · have Hv := hide (show ov x n f s = false by rw [ov_no]; omega)
      clear hm
      go_enter Try.func47, Try.ntmps47
      go_wp2
      all_goals (go_ret; exact ⟨by rw [Hv.out]; rfl, rfl⟩)
  · have Hv := hide (show ov x n f s = false by rw [ov_no]; omega)
    clear hm
    go_enter Try.func47, Try.ntmps47
    go_wp2
    all_goals (go_ret; exact ⟨by rw [Hv.out]; rfl, rfl⟩)
theorem fnExactOverlaps_walk (a0 a1 a2 a3 : Int) (w0 : (Lit.int .i64 a0).wf = true) (w1 : (Lit.int .i64 a1).wf = true) (w2 : (Lit.int .i64 a2).wf = true) (w3 : (Lit.int .i64 a3).wf = true) (w : World) :
    Calls Try.prog 12 #[.int .i64 a0, .int .i64 a1, .int .i64 a2, .int .i64 a3] w fun e w' => e = .returned (.bool true) ∧ Below w.heap.size w w' := by
  obtain ⟨_, hn⟩ := I64.of_wf w1
  clear w0 w1 w2 w3
  go_enter Try.func12, Try.ntmps12
  go_wp2_with (first | (go_at_call 46; refine (spec_Overlaps _ _ _ _ _ hn).mono ?_; rintro e w1 ⟨rfl, rfl⟩) | (go_at_call 47; refine (impl_Overlaps _ _ _ _ _).mono ?_; rintro e w1 ⟨rfl, rfl⟩))
  go_ret
  exact ⟨rfl, Below.refl _ _⟩
theorem spec_SipStart (k l : Int) (w : World) :
    Calls Try.prog 22 #[.int .u64 k, .int .u64 l] w fun e w' => e = .returned (.agg #[.int .u64 (bits .xor .u64 k 8317987319222330741), .int .u64 (bits .xor .u64 l 7237128888997146477), .int .u64 (bits .xor .u64 k 7816392313619706465), .int .u64 (bits .xor .u64 l 8387220255154660723)]) ∧ Below w.heap.size w w' := by
  go_enter Try.func22, Try.ntmps22
  go_wp2
  simp [bodyPost, results, Try.results22, go_sem]
  exact (by repeat (first | exact Below.refl _ _ | assumption | refine Below.al ?_ _ | refine Below.drew ?_ | refine Below.seq ?_ (by assumption) | refine Below.setCell ?_ (by first | exact Nat.le_refl _ | (simp; done) | (simp; omega)) _))
theorem impl_SipStart (k l : Int) (w : World) :
    Calls Try.prog 23 #[.int .u64 k, .int .u64 l] w fun e w' => e = .returned (.agg #[.int .u64 (bits .xor .u64 k 8317987319222330741), .int .u64 (bits .xor .u64 l 7237128888997146477), .int .u64 (bits .xor .u64 k 7816392313619706465), .int .u64 (bits .xor .u64 l 8387220255154660723)]) ∧ Below w.heap.size w w' := by
  go_enter Try.func23, Try.ntmps23
  go_wp2
  simp [bodyPost, results, Try.results23, go_sem]
  exact (by repeat (first | exact Below.refl _ _ | assumption | refine Below.al ?_ _ | refine Below.drew ?_ | refine Below.seq ?_ (by assumption) | refine Below.setCell ?_ (by first | exact Nat.le_refl _ | (simp; done) | (simp; omega)) _))
theorem fnExactSipStart_walk (a0 a1 : Int) (w0 : (Lit.int .u64 a0).wf = true) (w1 : (Lit.int .u64 a1).wf = true) (w : World) :
    Calls Try.prog 4 #[.int .u64 a0, .int .u64 a1] w fun e w' => e = .returned (.bool true) ∧ Below w.heap.size w w' := by
  clear w0 w1
  go_enter Try.func4, Try.ntmps4
  (go_wp2_with fail; refine (spec_SipStart _ _ _).mono ?_; rintro e w1 ⟨rfl, hb1⟩; obtain ⟨hc1, hf1⟩ := bcell hb1; try have hz1_0 : w.heap.size < w1.heap.size := (by have := hb1.size; (try simp only [World.size_alloc] at this); omega); try have hz1_x : w.heap.size + 1 < w1.heap.size := (by have := hb1.size; (try simp only [World.size_alloc] at this); omega))
  (go_wp2_with fail; refine (impl_SipStart _ _ _).mono ?_; rintro e w2 ⟨rfl, hb2⟩; obtain ⟨hc2, hf2⟩ := bcell hb2; try have hz2_1 : w1.heap.size < w2.heap.size := (by have := hb2.size; (try simp only [World.size_alloc] at this); omega); try have hz2_0 : w.heap.size < w2.heap.size := (by have := hb2.size; (try simp only [World.size_alloc] at this); omega); try have hz2_x : w.heap.size + 1 < w2.heap.size := (by have := hb2.size; (try simp only [World.size_alloc] at this); omega))
  (go_wp2_with fail; refine (eqSip_same _ _ _ _ _).mono ?_; rintro e w3 ⟨rfl, hb3⟩; obtain ⟨hc3, hf3⟩ := bcell hb3; try have hz3_2 : w2.heap.size < w3.heap.size := (by have := hb3.size; (try simp only [World.size_alloc] at this); omega); try have hz3_1 : w1.heap.size < w3.heap.size := (by have := hb3.size; (try simp only [World.size_alloc] at this); omega); try have hz3_0 : w.heap.size < w3.heap.size := (by have := hb3.size; (try simp only [World.size_alloc] at this); omega); try have hz3_x : w.heap.size + 1 < w3.heap.size := (by have := hb3.size; (try simp only [World.size_alloc] at this); omega))
  go_wp2
  go_ret
  exact ⟨rfl, (by repeat (first | exact Below.refl _ _ | assumption | refine Below.al ?_ _ | refine Below.drew ?_ | refine Below.seq ?_ (by assumption) | refine Below.setCell ?_ (by first | exact Nat.le_refl _ | (simp; done) | (simp; omega)) _))⟩
end Go.Proofs.Ytgiaihidbcfpdaa
