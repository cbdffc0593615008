/-
  What the functions over plain numbers return (no memory is touched): ranges, words, sequence numbers.
-/
import Derived.Test.YtahffinjglmhhaaBits
namespace Go.Proofs.Ytahffinjglmhhaa
open Go.RowKit

/-- n fits b bits, as WordOk says it. -/
def wordOk (n b : Int) : Bool := rng b 1 62 && rng n 0 (2 ^ b.toNat - 1)
theorem pow_bd (b : Int) (h2 : b ≤ 62) : (0 : Int) < 2 ^ b.toNat ∧ (2 : Int) ^ b.toNat ≤ 4611686018427387904 := by
  have h : b.toNat ≤ 62 := by omega
  constructor
  · exact Int.pow_pos (by decide)
  · have := Nat.pow_le_pow_right (n := 2) (by decide) h
    have e : ((2 ^ b.toNat : Nat) : Int) = (2 : Int) ^ b.toNat := by simp
    rw [← e]; omega
theorem pow_wrap (b : Int) (h2 : b ≤ 62) : wrap64 (wrap64 (2 ^ b.toNat) - 1) = 2 ^ b.toNat - 1 := by
  obtain ⟨p, q⟩ := pow_bd b h2
  have e : wrap64 (2 ^ b.toNat) = 2 ^ b.toNat := IntWalk.wrap64_in _ ⟨by omega, by omega⟩
  rw [e]
  exact IntWalk.wrap64_in _ ⟨by omega, by omega⟩
theorem l1In_any (x lo hi : Int) (w : World) :
    Calls Try.prog 63 #[.int .i64 x, .int .i64 lo, .int .i64 hi] w fun e w' => e = .returned (.bool (rng x lo hi)) ∧ w = w' := by
  by_cases h1 : lo ≤ x <;> by_cases h2 : x ≤ hi
  all_goals
    have h : rng x lo hi = decide (lo ≤ x ∧ x ≤ hi) := rfl
    simp only [h1, h2, and_self, and_true, and_false, decide_true, decide_false] at h
    rw [h]
    clear h
    go_enter Try.func63, Try.ntmps63
    go_wp2
    go_ret
    exact ⟨rfl, rfl⟩
theorem within_any (x lo hi : Int) (w : World) :
    Calls Try.prog 65 #[.int .i64 x, .int .i64 lo, .int .i64 hi] w fun e w' => e = .returned (.bool (rng x lo hi)) ∧ w = w' := by
  by_cases h1 : lo ≤ x <;> by_cases h2 : x ≤ hi
  all_goals
    have h : rng x lo hi = decide (lo ≤ x ∧ x ≤ hi) := rfl
    simp only [h1, h2, and_self, and_true, and_false, decide_true, decide_false] at h
    rw [h]
    clear h
    go_enter Try.func65, Try.ntmps65
    go_wp2
    go_ret
    exact ⟨rfl, rfl⟩
theorem spec_WordOk (n b : Int) (w : World) :
    Calls Try.prog 64 #[.int .i64 n, .int .i64 b] w fun e w' => e = .returned (.bool (wordOk n b)) ∧ w = w' := by
  by_cases hb : rng b 1 62 = true
  · obtain ⟨h1, h2⟩ := rng_true.1 hb
    have fin : wordOk n b = rng n 0 (wrap64 (wrap64 (2 ^ b.toNat) - 1)) := by rw [wordOk, hb, pow_wrap b h2, Bool.true_and]
    have Hf := hide fin
    have Hr := hide hb
    clear hb fin
    go_enter Try.func64, Try.ntmps64
    go_wp2_with (go_at_call 63; refine (l1In_any _ _ _ _).mono ?_; rintro e w' ⟨rfl, rfl⟩; try rw [Hr.out])
    go_ret
    exact ⟨by rw [Hf.out]; rfl, rfl⟩
  · have hb' : rng b 1 62 = false := by simpa using hb
    have fin : wordOk n b = false := by rw [wordOk, hb', Bool.false_and]
    have Hr := hide hb'
    rw [fin]
    clear hb fin hb'
    go_enter Try.func64, Try.ntmps64
    go_wp2_with (go_at_call 63; refine (l1In_any _ _ _ _).mono ?_; rintro e w' ⟨rfl, rfl⟩; try rw [Hr.out])
    go_ret
    exact ⟨rfl, rfl⟩
theorem impl_WordOk (n b : Int) (w : World) :
    Calls Try.prog 66 #[.int .i64 n, .int .i64 b] w fun e w' => e = .returned (.bool (wordOk n b)) ∧ w = w' := by
  by_cases hb : rng b 1 62 = true
  · obtain ⟨h1, h2⟩ := rng_true.1 hb
    have fin : wordOk n b = rng n 0 (wrap64 (wrap64 (2 ^ b.toNat) - 1)) := by rw [wordOk, hb, pow_wrap b h2, Bool.true_and]
    have Hf := hide fin
    have Hr := hide hb
    clear hb fin
    go_enter Try.func66, Try.ntmps66
    go_wp2_with (go_at_call 65; refine (within_any _ _ _ _).mono ?_; rintro e w' ⟨rfl, rfl⟩; try rw [Hr.out])
    go_ret
    exact ⟨by rw [Hf.out]; rfl, rfl⟩
  · have hb' : rng b 1 62 = false := by simpa using hb
    have fin : wordOk n b = false := by rw [wordOk, hb', Bool.false_and]
    have Hr := hide hb'
    rw [fin]
    clear hb fin hb'
    go_enter Try.func66, Try.ntmps66
    go_wp2_with (go_at_call 65; refine (within_any _ _ _ _).mono ?_; rintro e w' ⟨rfl, rfl⟩; try rw [Hr.out])
    go_ret
    exact ⟨rfl, rfl⟩

/-! Sequence numbers. -/
def r32 (x : Int) : Int := x % 4294967296
def sdiff (a b : Int) : Int := if 2147483647 < (a - b) % 4294967296 then (a - b) % 4294967296 - 4294967296 else (a - b) % 4294967296
def inWin (x f n : Int) : Bool := decide (0 < n ∧ (x - f) % 4294967296 < n)
theorem r32_bd (x : Int) : 0 ≤ r32 x ∧ r32 x ≤ 4294967295 := by unfold r32; omega
theorem tmod_r (x : Int) (h : 0 ≤ x.tmod 4294967296) : x.tmod 4294967296 = r32 x := by
  unfold r32
  have e := Int.tmod_eq_emod (a := x) (b := 4294967296)
  have b := Int.emod_nonneg x (b := 4294967296) (by decide)
  have b' := Int.emod_lt_of_pos x (b := 4294967296) (by decide)
  rw [e] at h ⊢
  split at h <;> split <;> omega
theorem tmod_n (x : Int) (h : x.tmod 4294967296 < 0) : wrap64 (x.tmod 4294967296 + 4294967296) = r32 x := by
  unfold r32
  have e := Int.tmod_eq_emod (a := x) (b := 4294967296)
  have b := Int.emod_nonneg x (b := 4294967296) (by decide)
  have b' := Int.emod_lt_of_pos x (b := 4294967296) (by decide)
  rw [e] at h ⊢
  split at h
  · omega
  · rename_i hn
    rw [if_neg hn, IntWalk.wrap64_in _ ⟨by omega, by omega⟩]
    omega
theorem r32_sub (a n : Int) : r32 (r32 a - r32 n) = (a - n) % 4294967296 := by unfold r32; omega
theorem wrap32_sdiff (a n : Int) : wrap64 (wrap32 ((a - n) % 4294967296)) = sdiff a n := by
  obtain ⟨h1, h2⟩ := wrap32_range ((a - n) % 4294967296)
  rw [IntWalk.wrap64_in _ ⟨by omega, by omega⟩]
  unfold wrap32 sdiff
  split <;> omega
end Go.Proofs.Ytahffinjglmhhaa
