/-
  What PseudoHead returns, and its law's walk.
-/
import Derived.Test.YtahffinjglmhhaaWord
namespace Go.Proofs.Ytahffinjglmhhaa
open Go.RowKit
set_option linter.unusedVariables false

theorem strOfNums_len (xs : List Int) : (strOfNums xs).size = xs.length := strOfNums_size xs
theorem putWord_ok {n sz : Int} (h : rng sz 1 6 = true) (k : wordOk n (8 * sz) = true) : putWord n sz = strOfNums (beL sz.toNat n) := by rw [putWord, h, k]; rfl
theorem putWord_no {n sz : Int} (k : wordOk n (8 * sz) = false) : putWord n sz = ⟨#[]⟩ := by rw [putWord, k]; simp
theorem size_putWord_ok {n sz : Int} (h : rng sz 1 6 = true) (k : wordOk n (8 * sz) = true) : (putWord n sz).size = sz.toNat := by rw [putWord_ok h k, strOfNums_size, beL_len]
theorem size_putWord_le (n sz : Int) : (putWord n sz).size ≤ 6 := by
  cases h : rng sz 1 6
  · rw [putWord, h]; simp [ByteArray.size]
  · cases k : wordOk n (8 * sz)
    · rw [putWord_no k]; simp [ByteArray.size]
    · rw [size_putWord_ok h k]; obtain ⟨a, b⟩ := rng_true.1 h; omega
/-- The head for the sum. -/
def headOk (src dst len : Int) : Bool := wordOk src 32 && wordOk dst 32 && wordOk len 16
def pseudo (src dst len : Int) : ByteArray := if headOk src dst len then putWord src 4 ++ putWord dst 4 ++ ⟨#[0, 6]⟩ ++ putWord len 2 else ⟨#[]⟩
theorem impl_PseudoHead (s d l : Int) (w : World) :
    Calls Try.prog 94 #[.int .i64 s, .int .i64 d, .int .i64 l] w fun e w' => e = .returned (.string (pseudo s d l)) ∧ Below w.heap.size w w' := by
  cases h1 : wordOk s 32
  · have e : pseudo s d l = ⟨#[]⟩ := by rw [pseudo, headOk, h1]; rfl
    rw [e]
    have H1 := hide h1
    clear h1 e
    go_enter Try.func94, Try.ntmps94
    go_wp2_with (go_at_call 66; refine (impl_WordOk _ _ _).mono ?_; rintro e w1 ⟨rfl, rfl⟩; rw [H1.out])
    go_ret
    exact ⟨rfl, Below.refl _ _⟩
  cases h2 : wordOk d 32
  · have e : pseudo s d l = ⟨#[]⟩ := by rw [pseudo, headOk, h1, h2]; rfl
    rw [e]
    have H1 := hide h1
    have H2 := hide h2
    clear h1 h2 e
    go_enter Try.func94, Try.ntmps94
    go_wp2_with (go_at_call 66; refine (impl_WordOk _ _ _).mono ?_; rintro e w1 ⟨rfl, rfl⟩; first | rw [H1.out] | rw [H2.out])
    go_ret
    exact ⟨rfl, Below.refl _ _⟩
  cases h3 : wordOk l 16
  · have e : pseudo s d l = ⟨#[]⟩ := by rw [pseudo, headOk, h1, h2, h3]; rfl
    rw [e]
    have H1 := hide h1
    have H2 := hide h2
    have H3 := hide h3
    clear h1 h2 h3 e
    go_enter Try.func94, Try.ntmps94
    go_wp2_with (go_at_call 66; refine (impl_WordOk _ _ _).mono ?_; rintro e w1 ⟨rfl, rfl⟩; first | rw [H1.out] | rw [H2.out] | rw [H3.out])
    go_ret
    exact ⟨rfl, Below.refl _ _⟩
  · have e : pseudo s d l = putWord s 4 ++ putWord d 4 ++ ⟨#[0, 6]⟩ ++ putWord l 2 := by rw [pseudo, headOk, h1, h2, h3]; rfl
    rw [e]
    have H1 := hide h1
    have H2 := hide h2
    have H3 := hide h3
    have z1 := size_putWord_le s 4
    have z2 := size_putWord_le d 4
    have z3 := size_putWord_le l 2
    clear h1 h2 h3 e
    go_enter Try.func94, Try.ntmps94
    go_wp2_with (first | (go_at_call 66; refine (impl_WordOk _ _ _).mono ?_; rintro e w1 ⟨rfl, rfl⟩; first | rw [H1.out] | rw [H2.out] | rw [H3.out]) | (go_at_call 62; refine (impl_PutWord _ _ _).mono ?_; rintro e w1 ⟨rfl, hb1⟩))
    go_ret
    exact ⟨rfl, (by repeat (first | with_reducible exact Below.refl _ _ | with_reducible assumption | with_reducible refine Below.al ?_ _ | with_reducible refine Below.drew ?_ | with_reducible refine Below.seq ?_ (by assumption) | (with_reducible refine Below.setCell ?_ ?_ _); rotate_left; focus (first | exact Nat.le_refl _ | (simp; done) | (simp; omega))))⟩
theorem toList_nil_iff (b : ByteArray) : b.toList = [] ↔ b.size = 0 := by
  rw [ByteArray.toList_eq]
  show b.data.toList = [] ↔ b.data.size = 0
  rw [← List.length_eq_zero_iff, Array.length_toList]
theorem pw_empty_iff (n sz : Int) (h : rng sz 1 6 = true) : (putWord n sz).toList = [] ↔ wordOk n (8 * sz) = false := by
  rw [toList_nil_iff]
  cases k : wordOk n (8 * sz)
  · rw [putWord_no k]; simp [ByteArray.size]
  · rw [size_putWord_ok h k]; obtain ⟨a, b⟩ := rng_true.1 h; simp; omega
theorem spec_PseudoHead (s d l : Int) (w : World) :
    Calls Try.prog 93 #[.int .i64 s, .int .i64 d, .int .i64 l] w fun e w' => e = .returned (.string (pseudo s d l)) ∧ Below w.heap.size w w' := by
  have z1 := size_putWord_le s 4
  have z2 := size_putWord_le d 4
  have z3 := size_putWord_le l 2
  have i1 := hide (pw_empty_iff s 4 (by decide))
  have i2 := hide (pw_empty_iff d 4 (by decide))
  have i3 := hide (pw_empty_iff l 2 (by decide))
  go_enter Try.func93, Try.ntmps93
  go_wp2_with ((go_at_call 75; refine (spec_PutWord _ _ _).mono ?_; rintro e w1 ⟨rfl, hb1⟩))
  · have h : (putWord s 4).toList = [] := by assumption
    go_ret
    exact ⟨ret_str (by rw [pseudo, headOk, show wordOk s 32 = false from i1.out.1 h]; rfl), (by repeat (first | with_reducible exact Below.refl _ _ | with_reducible assumption | with_reducible refine Below.al ?_ _ | with_reducible refine Below.drew ?_ | with_reducible refine Below.seq ?_ (by assumption) | (with_reducible refine Below.setCell ?_ ?_ _); rotate_left; focus (first | exact Nat.le_refl _ | (simp; done) | (simp; omega))))⟩
  · have h : (putWord d 4).toList = [] := by assumption
    go_ret
    exact ⟨ret_str (by rw [pseudo, headOk, show wordOk d 32 = false from i2.out.1 h]; simp), (by repeat (first | with_reducible exact Below.refl _ _ | with_reducible assumption | with_reducible refine Below.al ?_ _ | with_reducible refine Below.drew ?_ | with_reducible refine Below.seq ?_ (by assumption) | (with_reducible refine Below.setCell ?_ ?_ _); rotate_left; focus (first | exact Nat.le_refl _ | (simp; done) | (simp; omega))))⟩
  · have h1 : ¬(putWord s 4).toList = [] := by assumption
    have h2 : ¬(putWord d 4).toList = [] := by assumption
    have h3 : ((putWord s 4).toList.isEmpty = true ∨ (putWord d 4).toList.isEmpty = true) ∨ (putWord l 2).toList.isEmpty = true := by assumption
    simp only [List.isEmpty_iff, h1, h2, false_or, or_self] at h3
    go_ret
    exact ⟨ret_str (by rw [pseudo, headOk, show wordOk l 16 = false from i3.out.1 h3]; simp), (by repeat (first | with_reducible exact Below.refl _ _ | with_reducible assumption | with_reducible refine Below.al ?_ _ | with_reducible refine Below.drew ?_ | with_reducible refine Below.seq ?_ (by assumption) | (with_reducible refine Below.setCell ?_ ?_ _); rotate_left; focus (first | exact Nat.le_refl _ | (simp; done) | (simp; omega))))⟩
  · have h1 : ¬(putWord s 4).toList = [] := by assumption
    have h2 : ¬(putWord d 4).toList = [] := by assumption
    have h3 : ((putWord s 4).toList.isEmpty = false ∧ (putWord d 4).toList.isEmpty = false) ∧ (putWord l 2).toList.isEmpty = false := by assumption
    have h4 : ¬(putWord l 2).toList = [] := by intro h; rw [h] at h3; simp at h3
    have e : pseudo s d l = putWord s 4 ++ putWord d 4 ++ ⟨#[0, 6]⟩ ++ putWord l 2 := by
      have e1 : wordOk s 32 = true := by cases k : wordOk s 32 with | false => exact absurd (i1.out.2 k) h1 | true => rfl
      have e2 : wordOk d 32 = true := by cases k : wordOk d 32 with | false => exact absurd (i2.out.2 k) h2 | true => rfl
      have e3 : wordOk l 16 = true := by cases k : wordOk l 16 with | false => exact absurd (i3.out.2 k) h4 | true => rfl
      rw [pseudo, headOk, e1, e2, e3]; rfl
    go_ret
    exact ⟨ret_str e.symm, (by repeat (first | with_reducible exact Below.refl _ _ | with_reducible assumption | with_reducible refine Below.al ?_ _ | with_reducible refine Below.drew ?_ | with_reducible refine Below.seq ?_ (by assumption) | (with_reducible refine Below.setCell ?_ ?_ _); rotate_left; focus (first | exact Nat.le_refl _ | (simp; done) | (simp; omega))))⟩
end Go.Proofs.Ytahffinjglmhhaa
