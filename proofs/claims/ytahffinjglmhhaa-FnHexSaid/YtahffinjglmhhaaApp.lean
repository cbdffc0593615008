/-
  Plain laws of texts put together: bytes, words and sums of what was appended; a word put and read; a byte turned.
-/
import Derived.Test.YtahffinjglmhhaaPure
namespace Go.Proofs.Ytahffinjglmhhaa
open Go.RowKit
set_option linter.unusedVariables false

theorem byt_app_lt (a b : ByteArray) (i : Nat) (h : i < a.size) : byt (a ++ b) i = byt a i := by
  have h' : i < a.data.toList.length := by rw [← Lib.size_eq]; exact h
  unfold byt
  rw [app_data, List.getD_eq_getElem?_getD, List.getElem?_append_left h', List.getD_eq_getElem?_getD]
theorem byt_app_ge (a b : ByteArray) (i : Nat) : byt (a ++ b) (a.size + i) = byt b i := by
  unfold byt
  have h' : a.data.toList.length = a.size := (Lib.size_eq a).symm
  rw [app_data, List.getD_eq_getElem?_getD, List.getElem?_append_right (by omega), List.getD_eq_getElem?_getD, h', show a.size + i - a.size = i by omega]
theorem ws_app_lt (a b : ByteArray) (k : Nat) (h : k ≤ a.size) : ws (a ++ b) k = ws a k := by
  induction k with
  | zero => rfl
  | succ k ih => rw [ws, ws, ih (by omega), byt_app_lt a b k (by omega)]
theorem ws_app_ge (a b : ByteArray) (he : a.size % 2 = 0) (k : Nat) : ws (a ++ b) (a.size + k) = wordSum a + ws b k := by
  induction k with
  | zero => rw [Nat.add_zero, ws_app_lt a b a.size (Nat.le_refl _)]; simp [ws, wordSum]
  | succ k ih =>
    rw [show a.size + (k + 1) = (a.size + k) + 1 by omega, ws, ih, byt_app_ge, ws, show (a.size + k) % 2 = k % 2 by omega]
    omega
/-- The sum of two texts, the first of an even length. -/
theorem wordSum_app (a b : ByteArray) (he : a.size % 2 = 0) : wordSum (a ++ b) = wordSum a + wordSum b := by
  show ws (a ++ b) (a ++ b).size = _
  rw [ByteArray.size_append, ws_app_ge a b he]
  rfl
theorem wordSum_zero2 : wordSum ⟨#[0, 0]⟩ = 0 := by decide
theorem size_pw (n sz : Int) (h : rng sz 1 6 = true) (k : wordOk n (8 * sz) = true) : (putWord n sz).size = sz.toNat := size_putWord_ok h k
theorem wordOk_small {n b : Int} (h : rng b 1 62 = true) (h0 : 0 ≤ n) (h1 : n ≤ 2 ^ b.toNat - 1) : wordOk n b = true := by rw [wordOk, h, Bool.true_and, rng_true]; exact ⟨h0, h1⟩

theorem gw_app_lt (a b : ByteArray) (o k : Nat) (h : o + k ≤ a.size) : gw (a ++ b) o k = gw a o k := by
  induction k with
  | zero => rfl
  | succ k ih => rw [gw, gw, ih (by omega), byt_app_lt a b (o + k) (by omega)]
theorem gw_app_ge (a b : ByteArray) (o k : Nat) : gw (a ++ b) (a.size + o) k = gw b o k := by
  induction k with
  | zero => rfl
  | succ k ih => rw [gw, gw, ih, show a.size + o + k = a.size + (o + k) by omega, byt_app_ge]
theorem beL_get (k : Nat) (n : Int) : ∀ j, j < k → (beL k n)[j]? = some (n / 256 ^ (k - 1 - j) % 256) := by
  induction k with
  | zero => intro j h; omega
  | succ k ih =>
    intro j h
    cases j with
    | zero => rw [beL]; simp
    | succ j =>
      rw [beL, List.getElem?_cons_succ, ih j (by omega), show k + 1 - 1 - (j + 1) = k - 1 - j by omega]
theorem byt_str (xs : List Int) (j : Nat) (x : Int) (h : xs[j]? = some x) (h0 : 0 ≤ x) (h1 : x ≤ 255) : byt (strOfNums xs) j = x := by
  unfold byt
  rw [strOfNums_data, List.getD_eq_getElem?_getD, List.getElem?_map, h, Option.map_some, Option.getD_some]
  simp
  omega
theorem byt_put (k : Nat) (n : Int) (j : Nat) (h : j < k) : byt (strOfNums (beL k n)) j = n / 256 ^ (k - 1 - j) % 256 :=
  byt_str _ _ _ (beL_get k n j h) (Int.emod_nonneg _ (by decide)) (by have := Int.emod_lt_of_pos (n / 256 ^ (k - 1 - j)) (b := 256) (by decide); omega)
theorem gw_put (k : Nat) (n : Int) (h0 : 0 ≤ n) (h1 : n < 256 ^ k) : ∀ j, j ≤ k → gw (strOfNums (beL k n)) 0 j = n / 256 ^ (k - j) := by
  intro j
  induction j with
  | zero => intro _; rw [gw, Nat.sub_zero, Int.ediv_eq_zero_of_lt h0 h1]
  | succ j ih =>
    intro h
    have e : n / 256 ^ (k - j) = n / 256 ^ (k - 1 - j) / 256 := by
      rw [Int.ediv_ediv_of_nonneg (Int.pow_nonneg (by decide)), ← Int.pow_succ, show (k - 1 - j).succ = k - j by omega]
    rw [gw, ih (by omega), Nat.zero_add, byt_put k n j (by omega), e, show k - (j + 1) = k - 1 - j by omega]
    omega
theorem wordOk_lt {n : Int} {k : Nat} (h : wordOk n (8 * (k : Int)) = true) : 0 ≤ n ∧ n < 256 ^ k := by
  rw [wordOk, Bool.and_eq_true, rng_true, rng_true] at h
  obtain ⟨_, c, d⟩ := h
  have e : (8 * (k : Int)).toNat = 8 * k := by omega
  have e2 : ((2 : Int) ^ (8 * k)) = 256 ^ k := by rw [Int.pow_mul]; rfl
  rw [e, e2] at d
  omega
theorem putWord_str {n : Int} {k : Nat} (h1 : 1 ≤ k) (h6 : k ≤ 6) (h : wordOk n (8 * (k : Int)) = true) : putWord n k = strOfNums (beL k n) := by
  rw [putWord_ok (by rw [rng_true]; omega) h, Int.toNat_natCast]
theorem size_word {n : Int} {k : Nat} (h1 : 1 ≤ k) (h6 : k ≤ 6) (h : wordOk n (8 * (k : Int)) = true) : (putWord n k).size = k := by
  rw [putWord_str h1 h6 h, strOfNums_size, beL_len]
theorem gw_word {n : Int} {k : Nat} (h1 : 1 ≤ k) (h6 : k ≤ 6) (h : wordOk n (8 * (k : Int)) = true) : gw (putWord n k) 0 k = n := by
  obtain ⟨a, b⟩ := wordOk_lt h
  rw [putWord_str h1 h6 h, gw_put k n a b k (Nat.le_refl _), Nat.sub_self, Int.pow_zero, Int.ediv_one]
/-- A word that stands in the midst of a text is read back. -/
theorem gw_mid {S x y : ByteArray} {n : Int} {a k : Nat} (hS : S = x ++ (putWord n k ++ y)) (hx : x.size = a) (h1 : 1 ≤ k) (h6 : k ≤ 6) (h : wordOk n (8 * (k : Int)) = true) : gw S a k = n := by
  have e := size_word h1 h6 h
  rw [hS, ← hx, ← Nat.add_zero x.size, gw_app_ge, gw_app_lt _ _ _ _ (by omega), gw_word h1 h6 h]
theorem getV_mid {S x y : ByteArray} {n : Int} {a k : Nat} (hS : S = x ++ (putWord n k ++ y)) (hx : x.size = a) (h1 : 1 ≤ k) (h6 : k ≤ 6) (h : wordOk n (8 * (k : Int)) = true) : getV S a k = n := by
  have e := size_word h1 h6 h
  rw [getV_in S a k h1 h6 (by rw [hS, ByteArray.size_append, ByteArray.size_append]; omega), gw_mid hS hx h1 h6 h]
theorem byt_mid {S x y : ByteArray} {a : Nat} (hS : S = x ++ y) (hx : x.size = a) (j : Nat) : byt S (a + j) = byt y j := by
  rw [hS, ← hx, byt_app_ge]
theorem byt_gw (s : ByteArray) (a : Nat) : gw s a 1 = byt s a := by rw [gw, gw]; simp
theorem gw2 (s : ByteArray) (a : Nat) : gw s a 2 = byt s a * 256 + byt s (a + 1) := by rw [gw, byt_gw]
theorem tail_of {S x b : ByteArray} {a : Nat} (hS : S = x ++ b) (hx : x.size = a) : S.extract a S.size = b := by
  rw [hS]
  exact ByteArray.extract_append_eq_right hx.symm (by rw [ByteArray.size_append])
theorem mid_of {S x b y : ByteArray} {a c : Nat} (hS : S = x ++ (b ++ y)) (hx : x.size = a) (hc : x.size + b.size = c) : S.extract a c = b := by
  subst hx hc hS
  have h := ByteArray.extract_append_size_add (a := x) (b := b ++ y) (i := 0) (j := b.size)
  rw [Nat.add_zero] at h
  rw [h, ByteArray.extract_append_eq_left rfl]

/-! A sum that is right. -/
theorem sumOf_zero (s : ByteArray) : sumOf s = 0 ↔ 0 < wordSum s ∧ wordSum s % 65535 = 0 := by
  unfold sumOf fold
  split <;> omega
theorem ws_two (a b : ByteArray) : wordSum (a ++ b) = wordSum (a ++ b) := rfl
theorem wordSum_put2 (n : Int) (h0 : 0 ≤ n) (h1 : n ≤ 65535) : wordSum (putWord n 2) = n := by
  have hok : wordOk n (8 * ((2 : Nat) : Int)) = true := wordOk_small (by decide) h0 (show n ≤ (2 : Int) ^ 16 - 1 by omega)
  have e := size_word (n := n) (k := 2) (by decide) (by decide) hok
  have g := gw_word (n := n) (k := 2) (by decide) (by decide) hok
  rw [gw2] at g
  have g' : byt (putWord n 2) 0 * 256 + byt (putWord n 2) 1 = n := g
  have e' : (putWord n 2).size = 2 := e
  rw [wordSum, e', ws, ws, ws]
  simp
  omega
theorem wordSum_nn (s : ByteArray) : 0 ≤ wordSum s := (ws_bd s s.size).1
/-- Bytes with their sum sum up. -/
theorem sum_up (x y : ByteArray) (hx : x.size % 2 = 0) : sumOf (x ++ putWord (65535 - fold (wordSum x + wordSum y)) 2 ++ y) = 0 := by
  have f := fold_bd (wordSum x + wordSum y)
  have hok : wordOk (65535 - fold (wordSum x + wordSum y)) (8 * ((2 : Nat) : Int)) = true := wordOk_small (by decide) (by omega) (show _ ≤ (2 : Int) ^ 16 - 1 by omega)
  have e : (putWord (65535 - fold (wordSum x + wordSum y)) 2).size = 2 := size_word (k := 2) (by decide) (by decide) hok
  have n1 := wordSum_nn x
  have n2 := wordSum_nn y
  rw [sumOf_zero, wordSum_app _ _ (by rw [ByteArray.size_append, e]; omega), wordSum_app _ _ hx, wordSum_put2 _ (by omega) (by omega)]
  unfold fold
  split <;> omega

/-! A byte turned. -/
def nums (s : ByteArray) : List Int := s.data.toList.map fun b => (b.toNat : Int)
def setB (s : ByteArray) (i : Nat) (v : Int) : ByteArray := strOfNums ((nums s).set i v)
theorem nums_len (s : ByteArray) : (nums s).length = s.size := by rw [nums, List.length_map, Lib.size_eq]
theorem nums_get (s : ByteArray) (i : Nat) (h : i < s.size) : (nums s)[i]? = some (byt s i) := by
  have h' : i < s.data.toList.length := by rw [← Lib.size_eq]; exact h
  rw [nums, List.getElem?_map, List.getElem?_eq_getElem h', Option.map_some, byt, List.getD_eq_getElem?_getD, List.getElem?_eq_getElem h', Option.getD_some]
theorem size_setB (s : ByteArray) (i : Nat) (v : Int) : (setB s i v).size = s.size := by rw [setB, strOfNums_size, List.length_set, nums_len]
theorem byt_out (s : ByteArray) (i : Nat) (h : s.size ≤ i) : byt s i = 0 := by
  unfold byt
  rw [List.getD_eq_getElem?_getD, List.getElem?_eq_none (by rw [← Lib.size_eq]; exact h)]
  rfl
theorem byt_setB (s : ByteArray) (i : Nat) (v : Int) (hi : i < s.size) (h0 : 0 ≤ v) (h1 : v ≤ 255) (j : Nat) : byt (setB s i v) j = if j = i then v else byt s j := by
  by_cases hj : j < s.size
  · obtain ⟨b0, b1⟩ := byt_bd s j
    split
    · rename_i e
      subst e
      exact byt_str _ _ _ (by rw [List.getElem?_set_self (by rw [nums_len]; exact hj)]) h0 h1
    · rename_i e
      exact byt_str _ _ _ (by rw [List.getElem?_set_ne (by omega), nums_get s j hj]) b0 b1
  · rw [if_neg (by omega), byt_out _ _ (by rw [size_setB]; omega), byt_out _ _ (by omega)]
theorem ws_setB (s : ByteArray) (i : Nat) (v : Int) (hi : i < s.size) (h0 : 0 ≤ v) (h1 : v ≤ 255) (k : Nat) :
    ws (setB s i v) k = ws s k + if i < k then (if i % 2 = 0 then 256 * (v - byt s i) else v - byt s i) else 0 := by
  induction k with
  | zero => simp [ws]
  | succ k ih =>
    rw [ws, ws, ih, byt_setB s i v hi h0 h1]
    by_cases e : k = i
    · subst e
      simp only [if_true, Nat.lt_irrefl, if_false, Nat.lt_succ_self]
      split <;> omega
    · by_cases h : i < k
      · simp only [e, if_false, h, if_true, show i < k + 1 by omega]
        omega
      · simp only [e, if_false, h, show ¬ i < k + 1 by omega]
        omega
theorem wordSum_setB (s : ByteArray) (i : Nat) (v : Int) (hi : i < s.size) (h0 : 0 ≤ v) (h1 : v ≤ 255) : wordSum (setB s i v) = wordSum s + if i % 2 = 0 then 256 * (v - byt s i) else v - byt s i := by
  rw [wordSum, size_setB, ws_setB s i v hi h0 h1, if_pos hi]
  rfl
/-- With one byte turned the sum is right no longer. -/
theorem turned_bad (s : ByteArray) (i : Nat) (v : Int) (hi : i < s.size) (h0 : 0 ≤ v) (h1 : v ≤ 255) (hne : v ≠ byt s i) (h : sumOf s = 0) : sumOf (setB s i v) ≠ 0 := by
  intro e
  obtain ⟨b0, b1⟩ := byt_bd s i
  rw [sumOf_zero] at e h
  rw [wordSum_setB s i v hi h0 h1] at e
  split at e <;> omega
theorem nat_xor_ne (x y : Nat) (h : y ≠ 0) : x ^^^ y ≠ x := by
  intro e
  have : x ^^^ (x ^^^ y) = y := by rw [← Nat.xor_assoc, Nat.xor_self, Nat.zero_xor]
  rw [e, Nat.xor_self] at this
  exact h this.symm
theorem xor_u8 (x y : Int) (h0 : 0 ≤ x) (h1 : x ≤ 255) (h2 : 1 ≤ y) (h3 : y ≤ 255) : 0 ≤ bits .xor .u8 x y ∧ bits .xor .u8 x y ≤ 255 ∧ bits .xor .u8 x y ≠ x := by
  rw [u8_xor x y h0 (by omega) (by omega) (by omega)]
  have a := Nat.xor_lt_two_pow (n := 8) (x := x.toNat) (y := y.toNat) (by omega) (by omega)
  have b := nat_xor_ne x.toNat y.toNat (by omega)
  omega
end Go.Proofs.Ytahffinjglmhhaa
