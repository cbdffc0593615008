/-
  What the functions over plain numbers return (no memory is touched): ranges, words, sequence numbers.
-/
import Derived.Test.YtcapkadknabfiaaBits
namespace Go.Proofs.Ytcapkadknabfiaa
open Go.RowKit

/-- n fits b bits, as WordOk says it. -/
def wordOk (n b : Int) : Bool := rng b 1 62 && rng n 0 (2 ^ b.toNat - 1)
theorem pow_bd (b : Int) (h2 : b ≤ 62) : (0 : Int) < 2 ^ b.toNat ∧ (2 : Int) ^ b.toNat ≤ 4611686018427387904 := by
  have h : b.toNat ≤ 62 := by omega
  constructor
  · exact Int.pow_pos (by decide)
  · have := Nat.pow_le_pow_right (n := 2) (by decide) h
    have e : ((2 ^ b.toNat : Nat) : Int) = (2 : Int) ^ b.toNat := by simp
    rw [← e]; omega
theorem pow_wrap (b : Int) (h2 : b ≤ 62) : wrap64 (wrap64 (2 ^ b.toNat) - 1) = 2 ^ b.toNat - 1 := by
  obtain ⟨p, q⟩ := pow_bd b h2
  have e : wrap64 (2 ^ b.toNat) = 2 ^ b.toNat := IntWalk.wrap64_in _ ⟨by omega, by omega⟩
  rw [e]
  exact IntWalk.wrap64_in _ ⟨by omega, by omega⟩
theorem l1In_any (x lo hi : Int) (w : World) :
    Calls Try.prog 99 #[.int .i64 x, .int .i64 lo, .int .i64 hi] w fun e w' => e = .returned (.bool (rng x lo hi)) ∧ w = w' := by
  by_cases h1 : lo ≤ x <;> by_cases h2 : x ≤ hi
  all_goals
    have h : rng x lo hi = decide (lo ≤ x ∧ x ≤ hi) := rfl
    simp only [h1, h2, and_self, and_true, and_false, decide_true, decide_false] at h
    rw [h]
    clear h
    go_enter Try.func99, Try.ntmps99
    go_wp2
    go_ret
    exact ⟨rfl, rfl⟩
theorem within_any (x lo hi : Int) (w : World) :
    Calls Try.prog 98 #[.int .i64 x, .int .i64 lo, .int .i64 hi] w fun e w' => e = .returned (.bool (rng x lo hi)) ∧ w = w' := by
  by_cases h1 : lo ≤ x <;> by_cases h2 : x ≤ hi
  all_goals
    have h : rng x lo hi = decide (lo ≤ x ∧ x ≤ hi) := rfl
    simp only [h1, h2, and_self, and_true, and_false, decide_true, decide_false] at h
    rw [h]
    clear h
    go_enter Try.func98, Try.ntmps98
    go_wp2
    go_ret
    exact ⟨rfl, rfl⟩
theorem spec_WordOk (n b : Int) (w : World) :
    Calls Try.prog 87 #[.int .i64 n, .int .i64 b] w fun e w' => e = .returned (.bool (wordOk n b)) ∧ w = w' := by
  by_cases hb : rng b 1 62 = true
  · obtain ⟨h1, h2⟩ := rng_true.1 hb
    have fin : wordOk n b = rng n 0 (wrap64 (wrap64 (2 ^ b.toNat) - 1)) := by rw [wordOk, hb, pow_wrap b h2, Bool.true_and]
    have Hf := hide fin
    have Hr := hide hb
    clear hb fin
    go_enter Try.func87, Try.ntmps87
    go_wp2_with (go_at_call 99; refine (l1In_any _ _ _ _).mono ?_; rintro e w' ⟨rfl, rfl⟩; try rw [Hr.out])
    go_ret
    exact ⟨by rw [Hf.out]; rfl, rfl⟩
  · have hb' : rng b 1 62 = false := by simpa using hb
    have fin : wordOk n b = false := by rw [wordOk, hb', Bool.false_and]
    have Hr := hide hb'
    rw [fin]
    clear hb fin hb'
    go_enter Try.func87, Try.ntmps87
    go_wp2_with (go_at_call 99; refine (l1In_any _ _ _ _).mono ?_; rintro e w' ⟨rfl, rfl⟩; try rw [Hr.out])
    go_ret
    exact ⟨rfl, rfl⟩
theorem impl_WordOk (n b : Int) (w : World) :
    Calls Try.prog 62 #[.int .i64 n, .int .i64 b] w fun e w' => e = .returned (.bool (wordOk n b)) ∧ w = w' := by
  by_cases hb : rng b 1 62 = true
  · obtain ⟨h1, h2⟩ := rng_true.1 hb
    have fin : wordOk n b = rng n 0 (wrap64 (wrap64 (2 ^ b.toNat) - 1)) := by rw [wordOk, hb, pow_wrap b h2, Bool.true_and]
    have Hf := hide fin
    have Hr := hide hb
    clear hb fin
    go_enter Try.func62, Try.ntmps62
    go_wp2_with (go_at_call 98; refine (within_any _ _ _ _).mono ?_; rintro e w' ⟨rfl, rfl⟩; try rw [Hr.out])
    go_ret
    exact ⟨by rw [Hf.out]; rfl, rfl⟩
  · have hb' : rng b 1 62 = false := by simpa using hb
    have fin : wordOk n b = false := by rw [wordOk, hb', Bool.false_and]
    have Hr := hide hb'
    rw [fin]
    clear hb fin hb'
    go_enter Try.func62, Try.ntmps62
    go_wp2_with (go_at_call 98; refine (within_any _ _ _ _).mono ?_; rintro e w' ⟨rfl, rfl⟩; try rw [Hr.out])
    go_ret
    exact ⟨rfl, rfl⟩

/-! Sequence numbers. -/
def r32 (x : Int) : Int := x % 4294967296
def sdiff (a b : Int) : Int := if 2147483647 < (a - b) % 4294967296 then (a - b) % 4294967296 - 4294967296 else (a - b) % 4294967296
def inWin (x f n : Int) : Bool := decide (0 < n ∧ (x - f) % 4294967296 < n)
theorem r32_bd (x : Int) : 0 ≤ r32 x ∧ r32 x ≤ 4294967295 := by unfold r32; omega
theorem tmod_r (x : Int) (h : 0 ≤ x.tmod 4294967296) : x.tmod 4294967296 = r32 x := by
  unfold r32
  have e := Int.tmod_eq_emod (a := x) (b := 4294967296)
  have b := Int.emod_nonneg x (b := 4294967296) (by decide)
  have b' := Int.emod_lt_of_pos x (b := 4294967296) (by decide)
  rw [e] at h ⊢
  split at h <;> split <;> omega
theorem tmod_n (x : Int) (h : x.tmod 4294967296 < 0) : wrap64 (x.tmod 4294967296 + 4294967296) = r32 x := by
  unfold r32
  have e := Int.tmod_eq_emod (a := x) (b := 4294967296)
  have b := Int.emod_nonneg x (b := 4294967296) (by decide)
  have b' := Int.emod_lt_of_pos x (b := 4294967296) (by decide)
  rw [e] at h ⊢
  split at h
  · omega
  · rename_i hn
    rw [if_neg hn, IntWalk.wrap64_in _ ⟨by omega, by omega⟩]
    omega
theorem l4Rest_any (x : Int) (w : World) :
    Calls Try.prog 102 #[.int .i64 x] w fun e w' => e = .returned (.int .i64 (r32 x)) ∧ w = w' := by
  go_enter Try.func102, Try.ntmps102
  go_wp2
  all_goals go_ret
  · exact ⟨ret_int (tmod_n x (by assumption)), rfl⟩
  · exact ⟨ret_int (tmod_r x (by assumption)), rfl⟩
theorem spec_SeqAdd (a n : Int) (w : World) :
    Calls Try.prog 54 #[.int .i64 a, .int .i64 n] w fun e w' => e = .returned (.int .i64 (r32 (a + n))) ∧ w = w' := by
  obtain ⟨a0, a1⟩ := r32_bd a
  obtain ⟨n0, n1⟩ := r32_bd n
  go_enter Try.func54, Try.ntmps54
  go_wp2_with (go_at_call 102; refine (l4Rest_any _ _).mono ?_; rintro e w' ⟨rfl, rfl⟩)
  go_ret
  exact ⟨ret_int (by unfold r32; omega), rfl⟩
theorem impl_SeqAdd (a n : Int) (w : World) :
    Calls Try.prog 53 #[.int .i64 a, .int .i64 n] w fun e w' => e = .returned (.int .i64 (r32 (a + n))) ∧ w = w' := by
  go_enter Try.func53, Try.ntmps53
  go_wp2
  go_ret
  exact ⟨ret_int ((and_m32 _).trans (wrap64_m32 _)), rfl⟩
theorem impl_ahead (a n : Int) (w : World) :
    Calls Try.prog 106 #[.int .i64 a, .int .i64 n] w fun e w' => e = .returned (.int .i64 (r32 (a - n))) ∧ w = w' := by
  go_enter Try.func106, Try.ntmps106
  go_wp2
  go_ret
  exact ⟨ret_int ((and_m32 _).trans (wrap64_m32 _)), rfl⟩
theorem r32_sub (a n : Int) : r32 (r32 a - r32 n) = (a - n) % 4294967296 := by unfold r32; omega
theorem spec_SeqDiff (a n : Int) (w : World) :
    Calls Try.prog 108 #[.int .i64 a, .int .i64 n] w fun e w' => e = .returned (.int .i64 (sdiff a n)) ∧ w = w' := by
  obtain ⟨a0, a1⟩ := r32_bd a
  obtain ⟨n0, n1⟩ := r32_bd n
  obtain ⟨d0, d1⟩ := r32_bd (r32 a - r32 n)
  go_enter Try.func108, Try.ntmps108
  go_wp2_with (go_at_call 102; refine (l4Rest_any _ _).mono ?_; rintro e w' ⟨rfl, rfl⟩)
  all_goals go_ret
  · have h : 2147483647 < r32 (r32 a - r32 n) := by assumption
    exact ⟨ret_int (by rw [sdiff, ← r32_sub, if_pos h]), rfl⟩
  · have h : r32 (r32 a - r32 n) ≤ 2147483647 := by assumption
    exact ⟨ret_int (by rw [sdiff, ← r32_sub, if_neg (by omega)]), rfl⟩
theorem wrap32_sdiff (a n : Int) : wrap64 (wrap32 ((a - n) % 4294967296)) = sdiff a n := by
  obtain ⟨h1, h2⟩ := wrap32_range ((a - n) % 4294967296)
  rw [IntWalk.wrap64_in _ ⟨by omega, by omega⟩]
  unfold wrap32 sdiff
  split <;> omega
theorem impl_SeqDiff (a n : Int) (w : World) :
    Calls Try.prog 55 #[.int .i64 a, .int .i64 n] w fun e w' => e = .returned (.int .i64 (sdiff a n)) ∧ w = w' := by
  go_enter Try.func55, Try.ntmps55
  go_wp2
  go_ret
  exact ⟨ret_int (wrap32_sdiff a n), rfl⟩
theorem spec_SeqBelow (a n : Int) (w : World) :
    Calls Try.prog 79 #[.int .i64 a, .int .i64 n] w fun e w' => e = .returned (.bool (decide (sdiff a n < 0))) ∧ w = w' := by
  go_enter Try.func79, Try.ntmps79
  go_wp2_with (go_at_call 108; refine (spec_SeqDiff _ _ _).mono ?_; rintro e w' ⟨rfl, rfl⟩)
  go_ret
  exact ⟨rfl, rfl⟩
theorem impl_SeqBelow (a n : Int) (w : World) :
    Calls Try.prog 78 #[.int .i64 a, .int .i64 n] w fun e w' => e = .returned (.bool (decide (sdiff a n < 0))) ∧ w = w' := by
  go_enter Try.func78, Try.ntmps78
  go_wp2_with (go_at_call 55; refine (impl_SeqDiff _ _ _).mono ?_; rintro e w' ⟨rfl, rfl⟩)
  go_ret
  exact ⟨rfl, rfl⟩
theorem impl_SeqUpTo (a n : Int) (w : World) :
    Calls Try.prog 80 #[.int .i64 a, .int .i64 n] w fun e w' => e = .returned (.bool (decide (sdiff a n ≤ 0))) ∧ w = w' := by
  go_enter Try.func80, Try.ntmps80
  go_wp2_with (go_at_call 55; refine (impl_SeqDiff _ _ _).mono ?_; rintro e w' ⟨rfl, rfl⟩)
  go_ret
  exact ⟨rfl, rfl⟩
theorem spec_InWindow (x f n : Int) (w : World) :
    Calls Try.prog 76 #[.int .i64 x, .int .i64 f, .int .i64 n] w fun e w' => e = .returned (.bool (inWin x f n)) ∧ w = w' := by
  obtain ⟨a0, a1⟩ := r32_bd x
  obtain ⟨n0, n1⟩ := r32_bd f
  by_cases hn : 0 < n
  · go_enter Try.func76, Try.ntmps76
    go_wp2_with (go_at_call 102; refine (l4Rest_any _ _).mono ?_; rintro e w' ⟨rfl, rfl⟩)
    go_ret
    exact ⟨ret_bool (by rw [inWin, ← r32_sub]; simp [hn]), rfl⟩
  · go_enter Try.func76, Try.ntmps76
    go_wp2
    go_ret
    exact ⟨ret_bool (by simp [inWin]; omega), rfl⟩
theorem impl_InWindow (x f n : Int) (w : World) :
    Calls Try.prog 75 #[.int .i64 x, .int .i64 f, .int .i64 n] w fun e w' => e = .returned (.bool (inWin x f n)) ∧ w = w' := by
  obtain ⟨d0, d1⟩ := r32_bd (x - f)
  by_cases h1 : 4294967295 < n
  · go_enter Try.func75, Try.ntmps75
    go_wp2
    go_ret
    exact ⟨ret_bool (by unfold r32 at d0 d1; simp [inWin]; omega), rfl⟩
  by_cases hn : 1 ≤ n
  · go_enter Try.func75, Try.ntmps75
    go_wp2_with (go_at_call 106; refine (impl_ahead _ _ _).mono ?_; rintro e w' ⟨rfl, rfl⟩)
    go_ret
    exact ⟨ret_bool (by rw [inWin]; show decide (r32 (x - f) < n) = decide (0 < n ∧ r32 (x - f) < n); simp; omega), rfl⟩
  · go_enter Try.func75, Try.ntmps75
    go_wp2
    go_ret
    exact ⟨ret_bool (by simp [inWin]; omega), rfl⟩
end Go.Proofs.Ytcapkadknabfiaa
