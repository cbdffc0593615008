/-
  Plain laws of words: a word read from bytes writes these bytes again, and a word written is read back.
-/
import Derived.Test.YtahffinjglmhhaaHead
import Derived.Lib.Strings
namespace Go.Proofs.Ytahffinjglmhhaa
open Go.RowKit

theorem ba_ext {a b : ByteArray} (h : a.data.toList = b.data.toList) : a = b := by
  cases a; cases b; simp at h; simpa using h
theorem beL_snoc (k : Nat) (n : Int) : beL (k + 1) n = beL k (n / 256) ++ [n % 256] := by
  induction k with
  | zero => simp [beL]
  | succ k ih =>
    rw [beL, ih, beL]
    have : n / 256 ^ (k + 1) = n / 256 / 256 ^ k := by
      rw [Int.pow_succ, Int.mul_comm, Int.ediv_ediv_of_nonneg (by decide)]
    rw [this]
    rfl
/-- The k bytes from a on. -/
def bl (s : ByteArray) (a k : Nat) : List Int := (List.range k).map fun i => byt s (a + i)
theorem beL_gw (s : ByteArray) (a k : Nat) : beL k (gw s a k) = bl s a k := by
  induction k with
  | zero => rfl
  | succ k ih =>
    obtain ⟨b0, b1⟩ := byt_bd s (a + k)
    rw [beL_snoc, gw, show (gw s a k * 256 + byt s (a + k)) / 256 = gw s a k by omega, show (gw s a k * 256 + byt s (a + k)) % 256 = byt s (a + k) by omega, ih]
    simp [bl, List.range_succ]
theorem bl_str (s : ByteArray) (a k : Nat) (h : a + k ≤ s.size) : strOfNums (bl s a k) = s.extract a (a + k) := by
  apply ba_ext
  rw [strOfNums_data, Lib.extract_data, bl, List.map_map]
  have hl : s.data.toList.length = s.size := (Lib.size_eq s).symm
  apply List.ext_getElem?
  intro i
  by_cases hi : i < k
  · rw [List.getElem?_map, List.getElem?_range hi, List.getElem?_take, if_pos (by omega), List.getElem?_drop, List.getElem?_eq_getElem (by omega)]
    simp only [Option.map_some, Function.comp]
    congr 1
    unfold byt
    rw [List.getD_eq_getElem?_getD, List.getElem?_eq_getElem (by omega), Option.getD_some]
    simp
  · rw [List.getElem?_eq_none (by simp; omega), List.getElem?_eq_none (by simp; omega)]
theorem gw_ok (s : ByteArray) (a k : Nat) (h1 : 1 ≤ k) (h6 : k ≤ 6) : wordOk (gw s a k) (8 * (k : Int)) = true := by
  obtain ⟨g0, g1⟩ := gw_bd s a k
  rw [wordOk, Bool.and_eq_true, rng_true, rng_true]
  have e : (8 * (k : Int)).toNat = 8 * k := by omega
  have e2 : ((2 : Int) ^ (8 * k)) = 256 ^ k := by rw [Int.pow_mul]; rfl
  rw [e, e2]
  omega
theorem putWord_gw (s : ByteArray) (a k : Nat) (h1 : 1 ≤ k) (h6 : k ≤ 6) (h : a + k ≤ s.size) : putWord (gw s a k) k = s.extract a (a + k) := by
  rw [putWord_ok (by rw [rng_true]; omega) (gw_ok s a k h1 h6), Int.toNat_natCast, beL_gw, bl_str s a k h]
theorem app_data (x y : ByteArray) : (x ++ y).data.toList = x.data.toList ++ y.data.toList := by simp
theorem extract_app (s : ByteArray) (a b c : Nat) (h1 : a ≤ b) (h2 : b ≤ c) (_h3 : c ≤ s.size) : s.extract a b ++ s.extract b c = s.extract a c := by
  apply ba_ext
  rw [app_data, Lib.extract_data, Lib.extract_data, Lib.extract_data]
  have e : c - a = (b - a) + (c - b) := by omega
  rw [e, List.take_add, List.drop_drop, show a + (b - a) = b by omega]
theorem extract_all (s : ByteArray) : s.extract 0 s.size = s := by
  apply ba_ext
  rw [Lib.extract_data, List.drop_zero, Nat.sub_zero]
  exact List.take_of_length_le (by rw [Lib.size_eq s]; exact Nat.le_refl _)
theorem getV_in (s : ByteArray) (a k : Nat) (h1 : 1 ≤ k) (h6 : k ≤ 6) (h : a + k ≤ s.size) : getV s a k = gw s a k := by
  have : getOk s a k = true := by rw [getOk, Bool.and_eq_true, rng_true, rng_true]; omega
  rw [getV, if_pos this]; rfl
end Go.Proofs.Ytahffinjglmhhaa
