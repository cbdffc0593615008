/-
  Addresses: what the program's AddressText returns; the law of AddressText.
-/
import Derived.Test.YtahffinjglmhhaaDoorAdw
import Derived.Test.YtahffinjglmhhaaDoorCd
import Derived.Test.YtahffinjglmhhaaDoorBits
namespace Go.Proofs.YtahffinjglmhhaaDoor
open Go.RowKit
set_option linter.unusedVariables false
theorem itoa_dec (x : Int) (h : 0 ≤ x) : (⟨(Lib.itoa x).toArray⟩ : ByteArray) = dec x.toNat := by
  rw [Lib.itoa, if_neg (by omega), dec]
theorem addr_no (n : Int) (h : wordOk n 32 = false) : addrText n = ⟨#[]⟩ := by
  rw [addrText, putWord_no (show wordOk n (8 * 4) = false from h)]
  rfl
theorem addr_four (n : Int) (h : wordOk n 32 = true) : 0 ≤ n ∧ n < 4294967296 ∧ addrText n = joined [dec (n / 16777216).toNat, dec (n / 65536 % 256).toNat, dec (n / 256 % 256).toNat, dec (n % 256).toNat] ⟨#[46]⟩ := by
  have hb : 0 ≤ n ∧ n < 4294967296 := by
    rw [wordOk, Bool.and_eq_true, rng_true, rng_true] at h
    have e : (2 : Int) ^ (32 : Int).toNat = 4294967296 := by decide
    omega
  obtain ⟨h4, e0, e1, e2, e3⟩ := word4_of (n / 16777216) (n / 65536 % 256) (n / 256 % 256) (n % 256) (by omega) (by omega) (by omega) (by omega) n (by omega)
  refine ⟨hb.1, hb.2, ?_⟩
  rw [addrText, h4]
  show joined [dec (word4 n 0).toNat, dec (word4 n 1).toNat, dec (word4 n 2).toNat, dec (word4 n 3).toNat] _ = _
  rw [e0, e1, e2, e3]
theorem txts_four (w : World) (t : TypeId) (a b c d : ByteArray) : Txts (w.alloc (.cells #[.string a, .string b, .string c, .string d] t)) (.slice (some ⟨w.heap.size, 0, none⟩) 4 4) [a, b, c, d] :=
  Txts.of_row (B := w.heap.size) (World.ownsRow_lit (base := w.heap.size) (size := 1) (e := t) w #[.string a, .string b, .string c, .string d] 4 (Nat.le_refl _) (by decide) (by rfl))
set_option maxHeartbeats 2000000 in
theorem impl_AddressText (n : Int) (w : World) (hn : I64 n) (ht : Tab w) :
    Calls Tryd.prog 12 #[.int .i64 n] w fun e w' => e = .returned (.string (addrText n)) ∧ Below w.heap.size w w' := by
  by_cases h : wordOk n 32 = true
  · obtain ⟨h0, h1, ha⟩ := addr_four n h
    have z0 := dec_size (n / 16777216) (by omega) (by omega)
    have z1 := dec_size (n / 65536 % 256) (by omega) (by omega)
    have z2 := dec_size (n / 256 % 256) (by omega) (by omega)
    have z3 := dec_size (n % 256) (by omega) (by omega)
    obtain ⟨da, E0⟩ : ∃ x, Hid (x = dec (n / 16777216).toNat) := ⟨_, hide rfl⟩
    obtain ⟨db, E1⟩ : ∃ x, Hid (x = dec (n / 65536 % 256).toNat) := ⟨_, hide rfl⟩
    obtain ⟨dc, E2⟩ : ∃ x, Hid (x = dec (n / 256 % 256).toNat) := ⟨_, hide rfl⟩
    obtain ⟨dd, E3⟩ : ∃ x, Hid (x = dec (n % 256).toNat) := ⟨_, hide rfl⟩
    rw [← E0.out] at z0
    rw [← E1.out] at z1
    rw [← E2.out] at z2
    rw [← E3.out] at z3
    rw [ha, ← E0.out, ← E1.out, ← E2.out, ← E3.out]
    clear ha
    go_enter Tryd.func12, Tryd.ntmps12
    go_wp2_with fail
    refine (impl_WordOk n 32 _).mono ?_
    rintro e w1 ⟨rfl, rfl⟩
    rw [h]
    go_wp2_with fail
    refine (impl_Digits_any (n / 16777216) _ ⟨by omega, by omega⟩ ht).mono ?_
    rintro e w1 ⟨rfl, hb1⟩
    have t1 := ht.below hb1 ht.low
    go_wp2_with fail
    rw [and_m8]
    refine (impl_Digits_any (n / 65536 % 256) _ ⟨by omega, by omega⟩ t1).mono ?_
    rintro e w2 ⟨rfl, hb2⟩
    have t2 := t1.below hb2 t1.low
    go_wp2_with fail
    rw [and_m8]
    refine (impl_Digits_any (n / 256 % 256) _ ⟨by omega, by omega⟩ t2).mono ?_
    rintro e w3 ⟨rfl, hb3⟩
    have t3 := t2.below hb3 t2.low
    go_wp2_with fail
    rw [and_m8]
    refine (impl_Digits_any (n % 256) _ ⟨by omega, by omega⟩ t3).mono ?_
    rintro e w4 ⟨rfl, hb4⟩
    have hB := Below.seq (Below.seq (Below.seq hb1 hb2) hb3) hb4
    simp only [itoa_dec _ (show 0 ≤ n / 16777216 by omega), itoa_dec _ (show 0 ≤ n / 65536 % 256 by omega), itoa_dec _ (show 0 ≤ n / 256 % 256 by omega), itoa_dec _ (show 0 ≤ n % 256 by omega)]
    rw [← E0.out, ← E1.out, ← E2.out, ← E3.out]
    go_wp2_with fail
    refine (impl_Joined _ [da, db, dc, dd] _ _ (txts_four _ _ _ _ _ _) (show 4 ≤ 1048576 by decide) (by decide) ?_).mono ?_
    · simp [sums]; omega
    rintro e w5 ⟨rfl, hb5⟩
    go_wp2_with fail
    go_ret
    exact ⟨rfl, Below.seq (Below.al hB _) hb5⟩
  · rw [Bool.not_eq_true] at h
    rw [addr_no n h]
    go_enter Tryd.func12, Tryd.ntmps12
    go_wp2_with fail
    refine (impl_WordOk n 32 _).mono ?_
    rintro e w1 ⟨rfl, rfl⟩
    rw [h]
    go_wp2_with fail
    go_ret
    exact ⟨rfl, Below.refl _ _⟩
end Go.Proofs.YtahffinjglmhhaaDoor
