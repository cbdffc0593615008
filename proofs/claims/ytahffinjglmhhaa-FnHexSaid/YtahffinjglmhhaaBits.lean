/-
  Plain lemmas on the bit operations of 'int' (64 bits): masks, joins, shifts.
-/
import Derived.Test.YtahffinjglmhhaaBase
import Derived.Laws.BitsAllLaws
namespace Go.Proofs.Ytahffinjglmhhaa
open Go.RowKit

theorem ofInt64 (x : Int) : (BitVec.ofInt 64 x).toNat = (x % 18446744073709551616).toNat := by
  rw [BitVec.toNat_ofInt]; rfl
theorem and_mask (x : Int) (k : Nat) (hk : k ≤ 62) : bits .and .i64 x (((2 ^ k - 1 : Nat)) : Int) = x % ((2 ^ k : Nat) : Int) := by
  have hk2 : 2 ^ k ≤ 2 ^ 62 := Nat.pow_le_pow_right (by decide) hk
  have hk0 : 0 < 2 ^ k := Nat.pow_pos (by decide)
  show IntKind.i64.wrap ((BitVec.ofInt 64 x &&& BitVec.ofInt 64 (((2 ^ k - 1 : Nat)) : Int)).toNat : Int) = _
  rw [BitVec.toNat_and, ofInt64, ofInt64]
  have e : ((((2 ^ k - 1 : Nat)) : Int) % 18446744073709551616).toNat = 2 ^ k - 1 := by
    generalize 2 ^ k = m at *
    omega
  rw [e, Nat.and_two_pow_sub_one_eq_mod]
  have h : (((x % 18446744073709551616).toNat % 2 ^ k : Nat) : Int) = x % ((2 ^ k : Nat) : Int) := by
    have hd : (((2 ^ k : Nat)) : Int) ∣ 18446744073709551616 := by
      refine ⟨((2 ^ (64 - k) : Nat) : Int), ?_⟩
      rw [← Int.natCast_mul, ← Nat.pow_add, show k + (64 - k) = 64 from by omega]
      rfl
    rw [Int.natCast_emod, Int.toNat_of_nonneg (Int.emod_nonneg _ (by decide))]
    exact Int.emod_emod_of_dvd x hd
  rw [h]
  have h1 := Int.emod_nonneg x (b := ((2 ^ k : Nat) : Int)) (by omega)
  have h2 := Int.emod_lt_of_pos x (b := ((2 ^ k : Nat) : Int)) (by omega)
  exact IntWalk.i64_in _ ⟨by omega, by omega⟩
theorem and_m32 (x : Int) : bits .and .i64 x 4294967295 = x % 4294967296 := and_mask x 32 (by decide)
theorem and_m8 (x : Int) : bits .and .i64 x 255 = x % 256 := and_mask x 8 (by decide)
theorem and_m6 (x : Int) : bits .and .i64 x 63 = x % 64 := and_mask x 6 (by decide)
theorem and_m30 (x : Int) : bits .and .i64 x 1073741823 = x % 1073741824 := and_mask x 30 (by decide)
theorem wrap64_emod (x : Int) : ∃ q : Int, wrap64 x = x + 18446744073709551616 * q := by
  unfold wrap64
  exact ⟨-((x + 9223372036854775808) / 18446744073709551616), by omega⟩
theorem wrap64_m32 (x : Int) : wrap64 x % 4294967296 = x % 4294967296 := by obtain ⟨q, h⟩ := wrap64_emod x; omega
theorem wrap32_range (x : Int) : -2147483648 ≤ wrap32 x ∧ wrap32 x ≤ 2147483647 := by unfold wrap32; omega
theorem wrap64_range (x : Int) : -9223372036854775808 ≤ wrap64 x ∧ wrap64 x ≤ 9223372036854775807 := by unfold wrap64; omega
theorem or_byte (x b : Int) (h0 : 0 ≤ x) (h1 : x ≤ 1125899906842624) (b0 : 0 ≤ b) (b1 : b ≤ 255) : bits .or .i64 (x * 256) b = x * 256 + b := by
  show IntKind.i64.wrap ((BitVec.ofInt 64 (x * 256) ||| BitVec.ofInt 64 b).toNat : Int) = _
  rw [BitVec.toNat_or, ofInt64, ofInt64]
  have e1 : (x * 256 % 18446744073709551616).toNat = x.toNat * 256 := by omega
  have e2 : (b % 18446744073709551616).toNat = b.toNat := by omega
  rw [e1, e2, nat_join 8 _ _ (by omega) (by omega)]
  have e3 : ((x.toNat * 256 + b.toNat : Nat) : Int) = x * 256 + b := by omega
  rw [e3]
  exact IntWalk.i64_in _ ⟨by omega, by omega⟩
end Go.Proofs.Ytahffinjglmhhaa
