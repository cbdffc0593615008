/-
  Packets read: what ReadPacket returns.
-/
import Derived.Test.YtahffinjglmhhaaPText
import Derived.Test.YtahffinjglmhhaaFrag
namespace Go.Proofs.Ytahffinjglmhhaa
open Go.RowKit
set_option linter.unusedVariables false

theorem wr1 (x : Int) (a : 0 ≤ x) (b : x ≤ 255) : IntKind.i64.wrap x = x := by
  have e : (2 : Int) ^ IntKind.i64.bits = 18446744073709551616 := by decide
  have e2 : (2 : Int) ^ (IntKind.i64.bits - 1) = 9223372036854775808 := by decide
  have e3 : IntKind.i64.signed = true := rfl
  simp only [IntKind.wrap, e, e2, e3]
  rw [Int.emod_eq_of_lt (by omega) (by omega)]
  rw [if_neg]
  simp only [Bool.true_and, decide_eq_true_eq]
  omega
theorem getV2 (s : ByteArray) (a : Nat) (h : a + 2 ≤ s.size) : getV s a 2 = byt s a * 256 + byt s (a + 1) := by
  rw [show getV s a 2 = gw s a 2 from getV_in s a 2 (by omega) (by omega) h]
  simp [gw]
/-- A packet's fate: the bytes that the tests look at. -/
def rpLen (s : ByteArray) : Bool := decide (getV s 2 2 < 20 ∨ (s.size : Int) < getV s 2 2 ∨ 1500 < getV s 2 2)
def rpFrag (s : ByteArray) : Bool := (bits .and .u8 (byt s 6) 191 != 0) || (byt s 7 != 0)
def rpC (s : ByteArray) : Int := if s.size < 20 then 1 else if byt s 0 ≠ 69 then 2 else if sumOf (s.extract 0 20) ≠ 0 then 3 else if rpLen s = true then 4 else if rpFrag s = true then 5 else if byt s 8 = 0 then 6 else 0
theorem getV2_bd (s : ByteArray) (a : Nat) (h : a + 2 ≤ s.size) : 0 ≤ getV s a 2 ∧ getV s a 2 ≤ 65535 := by
  rw [getV2 s a h]
  have := byt_bd s a
  have := byt_bd s (a + 1)
  omega

theorem impl_RP1 (s : ByteArray) (w : World) (hs : s.size ≤ 140737488355328) (h : s.size < 20) :
    Calls Try.prog 35 #[.string s] w fun e w' => e = .returned (.tuple #[.agg #[.int .i64 0, .int .i64 0, .int .i64 0, .int .i64 0, .int .i64 0, .string ⟨#[]⟩], .int .i64 1]) ∧ Below w.heap.size w w' := by
  go_enter Try.func35, Try.ntmps35
  go_wp2_with fail
  simp [bodyPost, results, Try.results35, go_sem]
  exact (by repeat (first | with_reducible exact Below.refl _ _ | with_reducible assumption | with_reducible refine Below.al ?_ _ | with_reducible refine Below.drew ?_ | with_reducible refine Below.seq ?_ (by assumption) | (with_reducible refine Below.setCell ?_ ?_ _); rotate_left; focus (first | exact Nat.le_refl _ | (simp; done) | (simp; omega))))
theorem impl_RP2 (s : ByteArray) (w : World) (hs : s.size ≤ 140737488355328) (h20 : 20 ≤ s.size) (hb0 : byt s 0 ≠ 69) :
    Calls Try.prog 35 #[.string s] w fun e w' => e = .returned (.tuple #[.agg #[.int .i64 0, .int .i64 0, .int .i64 0, .int .i64 0, .int .i64 0, .string ⟨#[]⟩], .int .i64 2]) ∧ Below w.heap.size w w' := by
  have p0 : 0 < s.size := by omega
  have p6 : 6 < s.size := by omega
  have p7 : 7 < s.size := by omega
  have p8 : 8 < s.size := by omega
  have p9 : 9 < s.size := by omega
  have e8 := hide (show IntKind.i64.wrap ((s[8].toNat : Nat) : Int) = byt s 8 by rw [byt_at s 8 p8]; have := byt_bd s 8; exact wr1 _ (by omega) (by omega))
  have e9 := hide (show IntKind.i64.wrap ((s[9].toNat : Nat) : Int) = byt s 9 by rw [byt_at s 9 p9]; have := byt_bd s 9; exact wr1 _ (by omega) (by omega))
  have hx : (s.extract 0 20).size ≤ 140737488355328 := by rw [ByteArray.size_extract]; omega
  have Hx := hide hx
  obtain ⟨t0, t1⟩ := getV2_bd s 2 (by omega)
  clear hx
  have g0 : (((s[0].toNat : Nat) : Int) != 69) = true := by rw [byt_at s 0 p0]; simpa using hb0
  have H3 := hide (rfl : true = true)
  have HL := H3
  clear hb0
  go_enter Try.func35, Try.ntmps35
  go_wp2_with (first | (go_at_call 61; refine (impl_word _ _ _ _ hs).mono ?_; rintro e w1 ⟨rfl, rfl⟩) | (go_at_call 82; refine (impl_SumRight _ _ Hx.out).mono ?_; rintro e w1 ⟨rfl, rfl⟩; rw [H3.out]))
  simp [bodyPost, results, Try.results35, go_sem]
  exact (by repeat (first | with_reducible exact Below.refl _ _ | with_reducible assumption | with_reducible refine Below.al ?_ _ | with_reducible refine Below.drew ?_ | with_reducible refine Below.seq ?_ (by assumption) | (with_reducible refine Below.setCell ?_ ?_ _); rotate_left; focus (first | exact Nat.le_refl _ | (simp; done) | (simp; omega))))
theorem impl_RP3 (s : ByteArray) (w : World) (hs : s.size ≤ 140737488355328) (h20 : 20 ≤ s.size) (hb0 : byt s 0 = 69) (h3 : sumOf (s.extract 0 20) ≠ 0) :
    Calls Try.prog 35 #[.string s] w fun e w' => e = .returned (.tuple #[.agg #[.int .i64 0, .int .i64 0, .int .i64 0, .int .i64 0, .int .i64 0, .string ⟨#[]⟩], .int .i64 3]) ∧ Below w.heap.size w w' := by
  have p0 : 0 < s.size := by omega
  have p6 : 6 < s.size := by omega
  have p7 : 7 < s.size := by omega
  have p8 : 8 < s.size := by omega
  have p9 : 9 < s.size := by omega
  have e8 := hide (show IntKind.i64.wrap ((s[8].toNat : Nat) : Int) = byt s 8 by rw [byt_at s 8 p8]; have := byt_bd s 8; exact wr1 _ (by omega) (by omega))
  have e9 := hide (show IntKind.i64.wrap ((s[9].toNat : Nat) : Int) = byt s 9 by rw [byt_at s 9 p9]; have := byt_bd s 9; exact wr1 _ (by omega) (by omega))
  have hx : (s.extract 0 20).size ≤ 140737488355328 := by rw [ByteArray.size_extract]; omega
  have Hx := hide hx
  obtain ⟨t0, t1⟩ := getV2_bd s 2 (by omega)
  clear hx
  have g0 : (((s[0].toNat : Nat) : Int) != 69) = false := by rw [byt_at s 0 p0]; simpa using hb0
  have H3 := hide (show (sumOf (s.extract 0 20) == 0) = false by simpa using h3)
  have HL := H3
  clear hb0 h3
  go_enter Try.func35, Try.ntmps35
  go_wp2_with (first | (go_at_call 61; refine (impl_word _ _ _ _ hs).mono ?_; rintro e w1 ⟨rfl, rfl⟩) | (go_at_call 82; refine (impl_SumRight _ _ Hx.out).mono ?_; rintro e w1 ⟨rfl, rfl⟩; rw [H3.out]))
  simp [bodyPost, results, Try.results35, go_sem]
  exact (by repeat (first | with_reducible exact Below.refl _ _ | with_reducible assumption | with_reducible refine Below.al ?_ _ | with_reducible refine Below.drew ?_ | with_reducible refine Below.seq ?_ (by assumption) | (with_reducible refine Below.setCell ?_ ?_ _); rotate_left; focus (first | exact Nat.le_refl _ | (simp; done) | (simp; omega))))
theorem impl_RP4 (s : ByteArray) (w : World) (hs : s.size ≤ 140737488355328) (h20 : 20 ≤ s.size) (hb0 : byt s 0 = 69) (h3 : sumOf (s.extract 0 20) = 0) (hl : rpLen s = true) :
    Calls Try.prog 35 #[.string s] w fun e w' => e = .returned (.tuple #[.agg #[.int .i64 0, .int .i64 0, .int .i64 0, .int .i64 0, .int .i64 0, .string ⟨#[]⟩], .int .i64 4]) ∧ Below w.heap.size w w' := by
  have p0 : 0 < s.size := by omega
  have p6 : 6 < s.size := by omega
  have p7 : 7 < s.size := by omega
  have p8 : 8 < s.size := by omega
  have p9 : 9 < s.size := by omega
  have e8 := hide (show IntKind.i64.wrap ((s[8].toNat : Nat) : Int) = byt s 8 by rw [byt_at s 8 p8]; have := byt_bd s 8; exact wr1 _ (by omega) (by omega))
  have e9 := hide (show IntKind.i64.wrap ((s[9].toNat : Nat) : Int) = byt s 9 by rw [byt_at s 9 p9]; have := byt_bd s 9; exact wr1 _ (by omega) (by omega))
  have hx : (s.extract 0 20).size ≤ 140737488355328 := by rw [ByteArray.size_extract]; omega
  have Hx := hide hx
  obtain ⟨t0, t1⟩ := getV2_bd s 2 (by omega)
  clear hx
  have g0 : (((s[0].toNat : Nat) : Int) != 69) = false := by rw [byt_at s 0 p0]; simpa using hb0
  have H3 := hide (show (sumOf (s.extract 0 20) == 0) = true by simpa using h3)
  have hl2 : getV s 2 2 < 20 ∨ (s.size : Int) < getV s 2 2 ∨ 1500 < getV s 2 2 := by simpa [rpLen] using hl
  clear hb0 h3 hl
  have HL := H3
  by_cases l1 : getV s 2 2 < 20
  · clear hl2
    go_enter Try.func35, Try.ntmps35
    go_wp2_with (first | (go_at_call 61; refine (impl_word _ _ _ _ hs).mono ?_; rintro e w1 ⟨rfl, rfl⟩) | (go_at_call 82; refine (impl_SumRight _ _ Hx.out).mono ?_; rintro e w1 ⟨rfl, rfl⟩; rw [H3.out]))
    simp [bodyPost, results, Try.results35, go_sem]
    exact (by repeat (first | with_reducible exact Below.refl _ _ | with_reducible assumption | with_reducible refine Below.al ?_ _ | with_reducible refine Below.drew ?_ | with_reducible refine Below.seq ?_ (by assumption) | (with_reducible refine Below.setCell ?_ ?_ _); rotate_left; focus (first | exact Nat.le_refl _ | (simp; done) | (simp; omega))))
  by_cases l2 : (s.size : Int) < getV s 2 2
  · clear hl2
    go_enter Try.func35, Try.ntmps35
    go_wp2_with (first | (go_at_call 61; refine (impl_word _ _ _ _ hs).mono ?_; rintro e w1 ⟨rfl, rfl⟩) | (go_at_call 82; refine (impl_SumRight _ _ Hx.out).mono ?_; rintro e w1 ⟨rfl, rfl⟩; rw [H3.out]))
    simp [bodyPost, results, Try.results35, go_sem]
    exact (by repeat (first | with_reducible exact Below.refl _ _ | with_reducible assumption | with_reducible refine Below.al ?_ _ | with_reducible refine Below.drew ?_ | with_reducible refine Below.seq ?_ (by assumption) | (with_reducible refine Below.setCell ?_ ?_ _); rotate_left; focus (first | exact Nat.le_refl _ | (simp; done) | (simp; omega))))
  have l3 : 1500 < getV s 2 2 := by omega
  clear hl2
  go_enter Try.func35, Try.ntmps35
  go_wp2_with (first | (go_at_call 61; refine (impl_word _ _ _ _ hs).mono ?_; rintro e w1 ⟨rfl, rfl⟩) | (go_at_call 82; refine (impl_SumRight _ _ Hx.out).mono ?_; rintro e w1 ⟨rfl, rfl⟩; rw [H3.out]))
  simp [bodyPost, results, Try.results35, go_sem]
  exact (by repeat (first | with_reducible exact Below.refl _ _ | with_reducible assumption | with_reducible refine Below.al ?_ _ | with_reducible refine Below.drew ?_ | with_reducible refine Below.seq ?_ (by assumption) | (with_reducible refine Below.setCell ?_ ?_ _); rotate_left; focus (first | exact Nat.le_refl _ | (simp; done) | (simp; omega))))
theorem impl_RP5 (s : ByteArray) (w : World) (hs : s.size ≤ 140737488355328) (h20 : 20 ≤ s.size) (hb0 : byt s 0 = 69) (h3 : sumOf (s.extract 0 20) = 0) (hl : rpLen s = false) (hf : rpFrag s = true) :
    Calls Try.prog 35 #[.string s] w fun e w' => e = .returned (.tuple #[.agg #[.int .i64 0, .int .i64 0, .int .i64 0, .int .i64 0, .int .i64 0, .string ⟨#[]⟩], .int .i64 5]) ∧ Below w.heap.size w w' := by
  have p0 : 0 < s.size := by omega
  have p6 : 6 < s.size := by omega
  have p7 : 7 < s.size := by omega
  have p8 : 8 < s.size := by omega
  have p9 : 9 < s.size := by omega
  have e8 := hide (show IntKind.i64.wrap ((s[8].toNat : Nat) : Int) = byt s 8 by rw [byt_at s 8 p8]; have := byt_bd s 8; exact wr1 _ (by omega) (by omega))
  have e9 := hide (show IntKind.i64.wrap ((s[9].toNat : Nat) : Int) = byt s 9 by rw [byt_at s 9 p9]; have := byt_bd s 9; exact wr1 _ (by omega) (by omega))
  have hx : (s.extract 0 20).size ≤ 140737488355328 := by rw [ByteArray.size_extract]; omega
  have Hx := hide hx
  obtain ⟨t0, t1⟩ := getV2_bd s 2 (by omega)
  clear hx
  have g0 : (((s[0].toNat : Nat) : Int) != 69) = false := by rw [byt_at s 0 p0]; simpa using hb0
  have H3 := hide (show (sumOf (s.extract 0 20) == 0) = true by simpa using h3)
  have HL := hide (show rng (getV s 2 2) 20 (min (s.size : Int) 1500) = true by rw [rng_true]; simp only [rpLen, decide_eq_false_iff_not] at hl; omega)
  have hl3 : 20 ≤ getV s 2 2 ∧ getV s 2 2 ≤ s.size ∧ getV s 2 2 ≤ 1500 := by
    simp only [rpLen, decide_eq_false_iff_not] at hl
    omega
  obtain ⟨l1, l2, l3⟩ := hl3
  have g5 : (bits .andNot .i64 (getV s 6 2) 16384 != 0) = true := by
    obtain ⟨u0, u1⟩ := byt_bd s 6
    obtain ⟨v0, v1⟩ := byt_bd s 7
    rw [show getV s 6 2 = byt s 6 * 256 + byt s 7 from getV2 s 6 (by omega), frag _ _ u0 u1 v0 v1]
    exact hf
  clear hb0 h3 hl hf
  go_enter Try.func35, Try.ntmps35
  go_wp2_with (first | (go_at_call 61; refine (impl_word _ _ _ _ hs).mono ?_; rintro e w1 ⟨rfl, rfl⟩) | (go_at_call 82; refine (impl_SumRight _ _ Hx.out).mono ?_; rintro e w1 ⟨rfl, rfl⟩; rw [H3.out]))
  simp [bodyPost, results, Try.results35, go_sem]
  exact (by repeat (first | with_reducible exact Below.refl _ _ | with_reducible assumption | with_reducible refine Below.al ?_ _ | with_reducible refine Below.drew ?_ | with_reducible refine Below.seq ?_ (by assumption) | (with_reducible refine Below.setCell ?_ ?_ _); rotate_left; focus (first | exact Nat.le_refl _ | (simp; done) | (simp; omega))))
theorem impl_RP6 (s : ByteArray) (w : World) (hs : s.size ≤ 140737488355328) (h20 : 20 ≤ s.size) (hb0 : byt s 0 = 69) (h3 : sumOf (s.extract 0 20) = 0) (hl : rpLen s = false) (hf : rpFrag s = false) (h8 : byt s 8 = 0) :
    Calls Try.prog 35 #[.string s] w fun e w' => e = .returned (.tuple #[.agg #[.int .i64 0, .int .i64 0, .int .i64 0, .int .i64 0, .int .i64 0, .string ⟨#[]⟩], .int .i64 6]) ∧ Below w.heap.size w w' := by
  have p0 : 0 < s.size := by omega
  have p6 : 6 < s.size := by omega
  have p7 : 7 < s.size := by omega
  have p8 : 8 < s.size := by omega
  have p9 : 9 < s.size := by omega
  have e8 := hide (show IntKind.i64.wrap ((s[8].toNat : Nat) : Int) = byt s 8 by rw [byt_at s 8 p8]; have := byt_bd s 8; exact wr1 _ (by omega) (by omega))
  have e9 := hide (show IntKind.i64.wrap ((s[9].toNat : Nat) : Int) = byt s 9 by rw [byt_at s 9 p9]; have := byt_bd s 9; exact wr1 _ (by omega) (by omega))
  have hx : (s.extract 0 20).size ≤ 140737488355328 := by rw [ByteArray.size_extract]; omega
  have Hx := hide hx
  obtain ⟨t0, t1⟩ := getV2_bd s 2 (by omega)
  clear hx
  have g0 : (((s[0].toNat : Nat) : Int) != 69) = false := by rw [byt_at s 0 p0]; simpa using hb0
  have H3 := hide (show (sumOf (s.extract 0 20) == 0) = true by simpa using h3)
  have HL := hide (show rng (getV s 2 2) 20 (min (s.size : Int) 1500) = true by rw [rng_true]; simp only [rpLen, decide_eq_false_iff_not] at hl; omega)
  have hl3 : 20 ≤ getV s 2 2 ∧ getV s 2 2 ≤ s.size ∧ getV s 2 2 ≤ 1500 := by
    simp only [rpLen, decide_eq_false_iff_not] at hl
    omega
  obtain ⟨l1, l2, l3⟩ := hl3
  have g5 : (bits .andNot .i64 (getV s 6 2) 16384 != 0) = false := by
    obtain ⟨u0, u1⟩ := byt_bd s 6
    obtain ⟨v0, v1⟩ := byt_bd s 7
    rw [show getV s 6 2 = byt s 6 * 256 + byt s 7 from getV2 s 6 (by omega), frag _ _ u0 u1 v0 v1]
    exact hf
  have g8 : (((s[8].toNat : Nat) : Int) == 0) = true := by rw [byt_at s 8 p8]; simpa using h8
  clear hb0 h3 hl hf h8
  go_enter Try.func35, Try.ntmps35
  go_wp2_with (first | (go_at_call 61; refine (impl_word _ _ _ _ hs).mono ?_; rintro e w1 ⟨rfl, rfl⟩) | (go_at_call 82; refine (impl_SumRight _ _ Hx.out).mono ?_; rintro e w1 ⟨rfl, rfl⟩; rw [H3.out]))
  simp [bodyPost, results, Try.results35, go_sem]
  exact (by repeat (first | with_reducible exact Below.refl _ _ | with_reducible assumption | with_reducible refine Below.al ?_ _ | with_reducible refine Below.drew ?_ | with_reducible refine Below.seq ?_ (by assumption) | (with_reducible refine Below.setCell ?_ ?_ _); rotate_left; focus (first | exact Nat.le_refl _ | (simp; done) | (simp; omega))))
set_option maxHeartbeats 4000000 in
theorem impl_RP0 (s : ByteArray) (w : World) (hs : s.size ≤ 140737488355328) (h20 : 20 ≤ s.size) (hb0 : byt s 0 = 69) (h3 : sumOf (s.extract 0 20) = 0) (hl : rpLen s = false) (hf : rpFrag s = false) (h8 : byt s 8 ≠ 0) :
    Calls Try.prog 35 #[.string s] w fun e w' => e = .returned (.tuple #[.agg #[.int .i64 (getV s 12 4), .int .i64 (getV s 16 4), .int .i64 (byt s 8), .int .i64 (byt s 9), .int .i64 (getV s 4 2), .string (s.extract 20 (getV s 2 2).toNat)], .int .i64 0]) ∧ Below w.heap.size w w' := by
  have p0 : 0 < s.size := by omega
  have p6 : 6 < s.size := by omega
  have p7 : 7 < s.size := by omega
  have p8 : 8 < s.size := by omega
  have p9 : 9 < s.size := by omega
  have e8 := hide (show IntKind.i64.wrap ((s[8].toNat : Nat) : Int) = byt s 8 by rw [byt_at s 8 p8]; have := byt_bd s 8; exact wr1 _ (by omega) (by omega))
  have e9 := hide (show IntKind.i64.wrap ((s[9].toNat : Nat) : Int) = byt s 9 by rw [byt_at s 9 p9]; have := byt_bd s 9; exact wr1 _ (by omega) (by omega))
  have hx : (s.extract 0 20).size ≤ 140737488355328 := by rw [ByteArray.size_extract]; omega
  have Hx := hide hx
  obtain ⟨t0, t1⟩ := getV2_bd s 2 (by omega)
  clear hx
  have g0 : (((s[0].toNat : Nat) : Int) != 69) = false := by rw [byt_at s 0 p0]; simpa using hb0
  have H3 := hide (show (sumOf (s.extract 0 20) == 0) = true by simpa using h3)
  have HL := hide (show rng (getV s 2 2) 20 (min (s.size : Int) 1500) = true by rw [rng_true]; simp only [rpLen, decide_eq_false_iff_not] at hl; omega)
  have hl3 : 20 ≤ getV s 2 2 ∧ getV s 2 2 ≤ s.size ∧ getV s 2 2 ≤ 1500 := by
    simp only [rpLen, decide_eq_false_iff_not] at hl
    omega
  obtain ⟨l1, l2, l3⟩ := hl3
  have g5 : (bits .andNot .i64 (getV s 6 2) 16384 != 0) = false := by
    obtain ⟨u0, u1⟩ := byt_bd s 6
    obtain ⟨v0, v1⟩ := byt_bd s 7
    rw [show getV s 6 2 = byt s 6 * 256 + byt s 7 from getV2 s 6 (by omega), frag _ _ u0 u1 v0 v1]
    exact hf
  have g8 : (((s[8].toNat : Nat) : Int) == 0) = false := by rw [byt_at s 8 p8]; simpa using h8
  clear hb0 h3 hl hf h8
  go_enter Try.func35, Try.ntmps35
  go_wp2_with (first | (go_at_call 61; refine (impl_word _ _ _ _ hs).mono ?_; rintro e w1 ⟨rfl, rfl⟩) | (go_at_call 82; refine (impl_SumRight _ _ Hx.out).mono ?_; rintro e w1 ⟨rfl, rfl⟩; rw [H3.out]))
  go_region_held3 (fun w' => w.heap.size < w'.heap.size) (first | (simp; done) | (simp; omega)) (first | (go_at_call 61; refine (impl_word _ _ _ _ hs).mono ?_; rintro e w1 ⟨rfl, rfl⟩) | (go_at_call 82; refine (impl_SumRight _ _ Hx.out).mono ?_; rintro e w1 ⟨rfl, rfl⟩; rw [H3.out]))
  all_goals
    go_wp2_with fail
    simp [bodyPost, results, Try.results35, go_sem]
    all_goals exact ⟨⟨e8.out, e9.out⟩, (by repeat (first | with_reducible exact Below.refl _ _ | with_reducible assumption | with_reducible refine Below.al ?_ _ | with_reducible refine Below.drew ?_ | with_reducible refine Below.seq ?_ (by assumption) | (with_reducible refine Below.setCell ?_ ?_ _); rotate_left; focus (first | exact Nat.le_refl _ | (simp; done) | (simp; omega))))⟩
theorem l1Min_any (a b : Int) (w : World) :
    Calls Try.prog 85 #[.int .i64 a, .int .i64 b] w fun e w' => e = .returned (.int .i64 (min a b)) ∧ w = w' := by
  by_cases h : a < b
  · have e : min a b = a := by omega
    rw [e]
    clear e
    go_enter Try.func85, Try.ntmps85
    go_wp2
    go_ret
    exact ⟨rfl, rfl⟩
  · have e : min a b = b := by omega
    rw [e]
    clear e
    go_enter Try.func85, Try.ntmps85
    go_wp2
    go_ret
    exact ⟨rfl, rfl⟩
theorem spec_RP1 (s : ByteArray) (w : World) (hs : s.size ≤ 140737488355328) (h : s.size < 20) :
    Calls Try.prog 38 #[.string s] w fun e w' => e = .returned (.tuple #[.agg #[.int .i64 0, .int .i64 0, .int .i64 0, .int .i64 0, .int .i64 0, .string ⟨#[]⟩], .int .i64 1]) ∧ Below w.heap.size w w' := by
  go_enter Try.func38, Try.ntmps38
  go_wp2_with fail
  simp [bodyPost, results, Try.results38, go_sem]
  exact (by repeat (first | with_reducible exact Below.refl _ _ | with_reducible assumption | with_reducible refine Below.al ?_ _ | with_reducible refine Below.drew ?_ | with_reducible refine Below.seq ?_ (by assumption) | (with_reducible refine Below.setCell ?_ ?_ _); rotate_left; focus (first | exact Nat.le_refl _ | (simp; done) | (simp; omega))))
theorem spec_RP2 (s : ByteArray) (w : World) (hs : s.size ≤ 140737488355328) (h20 : 20 ≤ s.size) (hb0 : byt s 0 ≠ 69) :
    Calls Try.prog 38 #[.string s] w fun e w' => e = .returned (.tuple #[.agg #[.int .i64 0, .int .i64 0, .int .i64 0, .int .i64 0, .int .i64 0, .string ⟨#[]⟩], .int .i64 2]) ∧ Below w.heap.size w w' := by
  have p0 : 0 < s.size := by omega
  have p6 : 6 < s.size := by omega
  have p7 : 7 < s.size := by omega
  have p8 : 8 < s.size := by omega
  have p9 : 9 < s.size := by omega
  have e8 := hide (show IntKind.i64.wrap ((s[8].toNat : Nat) : Int) = byt s 8 by rw [byt_at s 8 p8]; have := byt_bd s 8; exact wr1 _ (by omega) (by omega))
  have e9 := hide (show IntKind.i64.wrap ((s[9].toNat : Nat) : Int) = byt s 9 by rw [byt_at s 9 p9]; have := byt_bd s 9; exact wr1 _ (by omega) (by omega))
  have hx : (s.extract 0 20).size ≤ 140737488355328 := by rw [ByteArray.size_extract]; omega
  have Hx := hide hx
  obtain ⟨t0, t1⟩ := getV2_bd s 2 (by omega)
  clear hx
  have g0 : (((s[0].toNat : Nat) : Int) != 69) = true := by rw [byt_at s 0 p0]; simpa using hb0
  have H3 := hide (rfl : true = true)
  have HL := H3
  clear hb0
  go_enter Try.func38, Try.ntmps38
  go_wp2_with (first | (go_at_call 77; refine (spec_GetWord _ _ _ _ hs).mono ?_; rintro e w1 ⟨rfl, rfl⟩) | (go_at_call 84; refine (spec_SumRight _ _ Hx.out).mono ?_; rintro e w1 ⟨rfl, rfl⟩; rw [H3.out]) | (go_at_call 85; refine (l1Min_any _ _ _).mono ?_; rintro e w1 ⟨rfl, rfl⟩) | (go_at_call 63; refine (l1In_any _ _ _ _).mono ?_; rintro e w1 ⟨rfl, rfl⟩; rw [HL.out]))
  simp [bodyPost, results, Try.results38, go_sem]
  exact (by repeat (first | with_reducible exact Below.refl _ _ | with_reducible assumption | with_reducible refine Below.al ?_ _ | with_reducible refine Below.drew ?_ | with_reducible refine Below.seq ?_ (by assumption) | (with_reducible refine Below.setCell ?_ ?_ _); rotate_left; focus (first | exact Nat.le_refl _ | (simp; done) | (simp; omega))))
theorem spec_RP3 (s : ByteArray) (w : World) (hs : s.size ≤ 140737488355328) (h20 : 20 ≤ s.size) (hb0 : byt s 0 = 69) (h3 : sumOf (s.extract 0 20) ≠ 0) :
    Calls Try.prog 38 #[.string s] w fun e w' => e = .returned (.tuple #[.agg #[.int .i64 0, .int .i64 0, .int .i64 0, .int .i64 0, .int .i64 0, .string ⟨#[]⟩], .int .i64 3]) ∧ Below w.heap.size w w' := by
  have p0 : 0 < s.size := by omega
  have p6 : 6 < s.size := by omega
  have p7 : 7 < s.size := by omega
  have p8 : 8 < s.size := by omega
  have p9 : 9 < s.size := by omega
  have e8 := hide (show IntKind.i64.wrap ((s[8].toNat : Nat) : Int) = byt s 8 by rw [byt_at s 8 p8]; have := byt_bd s 8; exact wr1 _ (by omega) (by omega))
  have e9 := hide (show IntKind.i64.wrap ((s[9].toNat : Nat) : Int) = byt s 9 by rw [byt_at s 9 p9]; have := byt_bd s 9; exact wr1 _ (by omega) (by omega))
  have hx : (s.extract 0 20).size ≤ 140737488355328 := by rw [ByteArray.size_extract]; omega
  have Hx := hide hx
  obtain ⟨t0, t1⟩ := getV2_bd s 2 (by omega)
  clear hx
  have g0 : (((s[0].toNat : Nat) : Int) != 69) = false := by rw [byt_at s 0 p0]; simpa using hb0
  have H3 := hide (show (sumOf (s.extract 0 20) == 0) = false by simpa using h3)
  have HL := H3
  clear hb0 h3
  go_enter Try.func38, Try.ntmps38
  go_wp2_with (first | (go_at_call 77; refine (spec_GetWord _ _ _ _ hs).mono ?_; rintro e w1 ⟨rfl, rfl⟩) | (go_at_call 84; refine (spec_SumRight _ _ Hx.out).mono ?_; rintro e w1 ⟨rfl, rfl⟩; rw [H3.out]) | (go_at_call 85; refine (l1Min_any _ _ _).mono ?_; rintro e w1 ⟨rfl, rfl⟩) | (go_at_call 63; refine (l1In_any _ _ _ _).mono ?_; rintro e w1 ⟨rfl, rfl⟩; rw [HL.out]))
  simp [bodyPost, results, Try.results38, go_sem]
  exact (by repeat (first | with_reducible exact Below.refl _ _ | with_reducible assumption | with_reducible refine Below.al ?_ _ | with_reducible refine Below.drew ?_ | with_reducible refine Below.seq ?_ (by assumption) | (with_reducible refine Below.setCell ?_ ?_ _); rotate_left; focus (first | exact Nat.le_refl _ | (simp; done) | (simp; omega))))
theorem spec_RP4 (s : ByteArray) (w : World) (hs : s.size ≤ 140737488355328) (h20 : 20 ≤ s.size) (hb0 : byt s 0 = 69) (h3 : sumOf (s.extract 0 20) = 0) (hl : rpLen s = true) :
    Calls Try.prog 38 #[.string s] w fun e w' => e = .returned (.tuple #[.agg #[.int .i64 0, .int .i64 0, .int .i64 0, .int .i64 0, .int .i64 0, .string ⟨#[]⟩], .int .i64 4]) ∧ Below w.heap.size w w' := by
  have p0 : 0 < s.size := by omega
  have p6 : 6 < s.size := by omega
  have p7 : 7 < s.size := by omega
  have p8 : 8 < s.size := by omega
  have p9 : 9 < s.size := by omega
  have e8 := hide (show IntKind.i64.wrap ((s[8].toNat : Nat) : Int) = byt s 8 by rw [byt_at s 8 p8]; have := byt_bd s 8; exact wr1 _ (by omega) (by omega))
  have e9 := hide (show IntKind.i64.wrap ((s[9].toNat : Nat) : Int) = byt s 9 by rw [byt_at s 9 p9]; have := byt_bd s 9; exact wr1 _ (by omega) (by omega))
  have hx : (s.extract 0 20).size ≤ 140737488355328 := by rw [ByteArray.size_extract]; omega
  have Hx := hide hx
  obtain ⟨t0, t1⟩ := getV2_bd s 2 (by omega)
  clear hx
  have g0 : (((s[0].toNat : Nat) : Int) != 69) = false := by rw [byt_at s 0 p0]; simpa using hb0
  have H3 := hide (show (sumOf (s.extract 0 20) == 0) = true by simpa using h3)
  have HL := hide (show rng (getV s 2 2) 20 (min (s.size : Int) 1500) = false by rw [rng_false]; simp only [rpLen, decide_eq_true_eq] at hl; omega)
  clear hb0 h3 hl
  go_enter Try.func38, Try.ntmps38
  go_wp2_with (first | (go_at_call 77; refine (spec_GetWord _ _ _ _ hs).mono ?_; rintro e w1 ⟨rfl, rfl⟩) | (go_at_call 84; refine (spec_SumRight _ _ Hx.out).mono ?_; rintro e w1 ⟨rfl, rfl⟩; rw [H3.out]) | (go_at_call 85; refine (l1Min_any _ _ _).mono ?_; rintro e w1 ⟨rfl, rfl⟩) | (go_at_call 63; refine (l1In_any _ _ _ _).mono ?_; rintro e w1 ⟨rfl, rfl⟩; rw [HL.out]))
  simp [bodyPost, results, Try.results38, go_sem]
  exact (by repeat (first | with_reducible exact Below.refl _ _ | with_reducible assumption | with_reducible refine Below.al ?_ _ | with_reducible refine Below.drew ?_ | with_reducible refine Below.seq ?_ (by assumption) | (with_reducible refine Below.setCell ?_ ?_ _); rotate_left; focus (first | exact Nat.le_refl _ | (simp; done) | (simp; omega))))
theorem spec_RP5 (s : ByteArray) (w : World) (hs : s.size ≤ 140737488355328) (h20 : 20 ≤ s.size) (hb0 : byt s 0 = 69) (h3 : sumOf (s.extract 0 20) = 0) (hl : rpLen s = false) (hf : rpFrag s = true) :
    Calls Try.prog 38 #[.string s] w fun e w' => e = .returned (.tuple #[.agg #[.int .i64 0, .int .i64 0, .int .i64 0, .int .i64 0, .int .i64 0, .string ⟨#[]⟩], .int .i64 5]) ∧ Below w.heap.size w w' := by
  have p0 : 0 < s.size := by omega
  have p6 : 6 < s.size := by omega
  have p7 : 7 < s.size := by omega
  have p8 : 8 < s.size := by omega
  have p9 : 9 < s.size := by omega
  have e8 := hide (show IntKind.i64.wrap ((s[8].toNat : Nat) : Int) = byt s 8 by rw [byt_at s 8 p8]; have := byt_bd s 8; exact wr1 _ (by omega) (by omega))
  have e9 := hide (show IntKind.i64.wrap ((s[9].toNat : Nat) : Int) = byt s 9 by rw [byt_at s 9 p9]; have := byt_bd s 9; exact wr1 _ (by omega) (by omega))
  have hx : (s.extract 0 20).size ≤ 140737488355328 := by rw [ByteArray.size_extract]; omega
  have Hx := hide hx
  obtain ⟨t0, t1⟩ := getV2_bd s 2 (by omega)
  clear hx
  have g0 : (((s[0].toNat : Nat) : Int) != 69) = false := by rw [byt_at s 0 p0]; simpa using hb0
  have H3 := hide (show (sumOf (s.extract 0 20) == 0) = true by simpa using h3)
  have HL := hide (show rng (getV s 2 2) 20 (min (s.size : Int) 1500) = true by rw [rng_true]; simp only [rpLen, decide_eq_false_iff_not] at hl; omega)
  have hl3 : 20 ≤ getV s 2 2 ∧ getV s 2 2 ≤ s.size ∧ getV s 2 2 ≤ 1500 := by
    simp only [rpLen, decide_eq_false_iff_not] at hl
    omega
  obtain ⟨l1, l2, l3⟩ := hl3
  have hf2 : (bits .and .u8 ((s[6].toNat : Nat) : Int) 191 != 0) = true ∨ ((bits .and .u8 ((s[6].toNat : Nat) : Int) 191 != 0) = false ∧ (((s[7].toNat : Nat) : Int) != 0) = true) := by
    rw [byt_at s 6 p6, byt_at s 7 p7]
    rw [rpFrag] at hf
    cases k : (bits .and .u8 (byt s 6) 191 != 0)
    · rw [k, Bool.false_or] at hf; exact .inr ⟨rfl, hf⟩
    · exact .inl rfl
  clear hb0 h3 hl hf
  rcases hf2 with f1 | ⟨f1, f2⟩
  · go_enter Try.func38, Try.ntmps38
    go_wp2_with (first | (go_at_call 77; refine (spec_GetWord _ _ _ _ hs).mono ?_; rintro e w1 ⟨rfl, rfl⟩) | (go_at_call 84; refine (spec_SumRight _ _ Hx.out).mono ?_; rintro e w1 ⟨rfl, rfl⟩; rw [H3.out]) | (go_at_call 85; refine (l1Min_any _ _ _).mono ?_; rintro e w1 ⟨rfl, rfl⟩) | (go_at_call 63; refine (l1In_any _ _ _ _).mono ?_; rintro e w1 ⟨rfl, rfl⟩; rw [HL.out]))
    simp [bodyPost, results, Try.results38, go_sem]
    exact (by repeat (first | with_reducible exact Below.refl _ _ | with_reducible assumption | with_reducible refine Below.al ?_ _ | with_reducible refine Below.drew ?_ | with_reducible refine Below.seq ?_ (by assumption) | (with_reducible refine Below.setCell ?_ ?_ _); rotate_left; focus (first | exact Nat.le_refl _ | (simp; done) | (simp; omega))))
  go_enter Try.func38, Try.ntmps38
  go_wp2_with (first | (go_at_call 77; refine (spec_GetWord _ _ _ _ hs).mono ?_; rintro e w1 ⟨rfl, rfl⟩) | (go_at_call 84; refine (spec_SumRight _ _ Hx.out).mono ?_; rintro e w1 ⟨rfl, rfl⟩; rw [H3.out]) | (go_at_call 85; refine (l1Min_any _ _ _).mono ?_; rintro e w1 ⟨rfl, rfl⟩) | (go_at_call 63; refine (l1In_any _ _ _ _).mono ?_; rintro e w1 ⟨rfl, rfl⟩; rw [HL.out]))
  simp [bodyPost, results, Try.results38, go_sem]
  exact (by repeat (first | with_reducible exact Below.refl _ _ | with_reducible assumption | with_reducible refine Below.al ?_ _ | with_reducible refine Below.drew ?_ | with_reducible refine Below.seq ?_ (by assumption) | (with_reducible refine Below.setCell ?_ ?_ _); rotate_left; focus (first | exact Nat.le_refl _ | (simp; done) | (simp; omega))))
set_option maxHeartbeats 4000000 in
theorem spec_RP6 (s : ByteArray) (w : World) (hs : s.size ≤ 140737488355328) (h20 : 20 ≤ s.size) (hb0 : byt s 0 = 69) (h3 : sumOf (s.extract 0 20) = 0) (hl : rpLen s = false) (hf : rpFrag s = false) (h8 : byt s 8 = 0) :
    Calls Try.prog 38 #[.string s] w fun e w' => e = .returned (.tuple #[.agg #[.int .i64 0, .int .i64 0, .int .i64 0, .int .i64 0, .int .i64 0, .string ⟨#[]⟩], .int .i64 6]) ∧ Below w.heap.size w w' := by
  have p0 : 0 < s.size := by omega
  have p6 : 6 < s.size := by omega
  have p7 : 7 < s.size := by omega
  have p8 : 8 < s.size := by omega
  have p9 : 9 < s.size := by omega
  have e8 := hide (show IntKind.i64.wrap ((s[8].toNat : Nat) : Int) = byt s 8 by rw [byt_at s 8 p8]; have := byt_bd s 8; exact wr1 _ (by omega) (by omega))
  have e9 := hide (show IntKind.i64.wrap ((s[9].toNat : Nat) : Int) = byt s 9 by rw [byt_at s 9 p9]; have := byt_bd s 9; exact wr1 _ (by omega) (by omega))
  have hx : (s.extract 0 20).size ≤ 140737488355328 := by rw [ByteArray.size_extract]; omega
  have Hx := hide hx
  obtain ⟨t0, t1⟩ := getV2_bd s 2 (by omega)
  clear hx
  have g0 : (((s[0].toNat : Nat) : Int) != 69) = false := by rw [byt_at s 0 p0]; simpa using hb0
  have H3 := hide (show (sumOf (s.extract 0 20) == 0) = true by simpa using h3)
  have HL := hide (show rng (getV s 2 2) 20 (min (s.size : Int) 1500) = true by rw [rng_true]; simp only [rpLen, decide_eq_false_iff_not] at hl; omega)
  have hl3 : 20 ≤ getV s 2 2 ∧ getV s 2 2 ≤ s.size ∧ getV s 2 2 ≤ 1500 := by
    simp only [rpLen, decide_eq_false_iff_not] at hl
    omega
  obtain ⟨l1, l2, l3⟩ := hl3
  have hf3 : (bits .and .u8 ((s[6].toNat : Nat) : Int) 191 != 0) = false ∧ (((s[7].toNat : Nat) : Int) != 0) = false := by
    rw [byt_at s 6 p6, byt_at s 7 p7]
    rw [rpFrag, Bool.or_eq_false_iff] at hf
    exact hf
  obtain ⟨f1, f2⟩ := hf3
  have g8 : (((s[8].toNat : Nat) : Int) == 0) = true := by rw [byt_at s 8 p8]; simpa using h8
  have g9 : (wrap64 ((s[8].toNat : Nat) : Int) == 0) = true := by rw [show wrap64 ((s[8].toNat : Nat) : Int) = ((s[8].toNat : Nat) : Int) by have := UInt8.toNat_lt s[8]; unfold wrap64; omega]; exact g8
  clear hb0 h3 hl hf h8
  go_enter Try.func38, Try.ntmps38
  go_wp2_with (first | (go_at_call 77; refine (spec_GetWord _ _ _ _ hs).mono ?_; rintro e w1 ⟨rfl, rfl⟩) | (go_at_call 84; refine (spec_SumRight _ _ Hx.out).mono ?_; rintro e w1 ⟨rfl, rfl⟩; rw [H3.out]) | (go_at_call 85; refine (l1Min_any _ _ _).mono ?_; rintro e w1 ⟨rfl, rfl⟩) | (go_at_call 63; refine (l1In_any _ _ _ _).mono ?_; rintro e w1 ⟨rfl, rfl⟩; rw [HL.out]))
  go_region_held3 (fun w' => w.heap.size < w'.heap.size) (first | (simp; done) | (simp; omega)) (fail)
  all_goals
    go_wp2_with (first | (go_at_call 77; refine (spec_GetWord _ _ _ _ hs).mono ?_; rintro e w1 ⟨rfl, rfl⟩) | (go_at_call 84; refine (spec_SumRight _ _ Hx.out).mono ?_; rintro e w1 ⟨rfl, rfl⟩; rw [H3.out]) | (go_at_call 85; refine (l1Min_any _ _ _).mono ?_; rintro e w1 ⟨rfl, rfl⟩) | (go_at_call 63; refine (l1In_any _ _ _ _).mono ?_; rintro e w1 ⟨rfl, rfl⟩; rw [HL.out]))
    simp [bodyPost, results, Try.results38, go_sem]
    all_goals (first | exact (by repeat (first | with_reducible exact Below.refl _ _ | with_reducible assumption | with_reducible refine Below.al ?_ _ | with_reducible refine Below.drew ?_ | with_reducible refine Below.seq ?_ (by assumption) | (with_reducible refine Below.setCell ?_ ?_ _); rotate_left; focus (first | exact Nat.le_refl _ | (simp; done) | (simp; omega)))) | exact ⟨⟨(by rw [← byt_at s 8 p8]; have := UInt8.toNat_lt s[8]; unfold wrap64; omega), (by rw [← byt_at s 9 p9]; have := UInt8.toNat_lt s[9]; unfold wrap64; omega)⟩, (by repeat (first | with_reducible exact Below.refl _ _ | with_reducible assumption | with_reducible refine Below.al ?_ _ | with_reducible refine Below.drew ?_ | with_reducible refine Below.seq ?_ (by assumption) | (with_reducible refine Below.setCell ?_ ?_ _); rotate_left; focus (first | exact Nat.le_refl _ | (simp; done) | (simp; omega))))⟩)
set_option maxHeartbeats 4000000 in
theorem spec_RP0 (s : ByteArray) (w : World) (hs : s.size ≤ 140737488355328) (h20 : 20 ≤ s.size) (hb0 : byt s 0 = 69) (h3 : sumOf (s.extract 0 20) = 0) (hl : rpLen s = false) (hf : rpFrag s = false) (h8 : byt s 8 ≠ 0) :
    Calls Try.prog 38 #[.string s] w fun e w' => e = .returned (.tuple #[.agg #[.int .i64 (getV s 12 4), .int .i64 (getV s 16 4), .int .i64 (byt s 8), .int .i64 (byt s 9), .int .i64 (getV s 4 2), .string (s.extract 20 (getV s 2 2).toNat)], .int .i64 0]) ∧ Below w.heap.size w w' := by
  have p0 : 0 < s.size := by omega
  have p6 : 6 < s.size := by omega
  have p7 : 7 < s.size := by omega
  have p8 : 8 < s.size := by omega
  have p9 : 9 < s.size := by omega
  have q0 := byt_at s 0 p0
  have q6 := byt_at s 6 p6
  have q7 := byt_at s 7 p7
  have q8 := byt_at s 8 p8
  have q9 := byt_at s 9 p9
  obtain ⟨u0, v0⟩ := byt_bd s 0
  obtain ⟨u6, v6⟩ := byt_bd s 6
  obtain ⟨u7, v7⟩ := byt_bd s 7
  obtain ⟨u8', v8⟩ := byt_bd s 8
  obtain ⟨u9, v9⟩ := byt_bd s 9
  have hx : (s.extract 0 20).size ≤ 140737488355328 := by rw [ByteArray.size_extract]; omega
  have Hx := hide hx
  obtain ⟨t0, t1⟩ := getV2_bd s 2 (by omega)
  clear hx
  have g0 : (byt s 0 != 69) = false := by simpa using hb0
  have H3 := hide (show (sumOf (s.extract 0 20) == 0) = true by simpa using h3)
  have HL := hide (show rng (getV s 2 2) 20 (min (s.size : Int) 1500) = true by rw [rng_true]; simp only [rpLen, decide_eq_false_iff_not] at hl; omega)
  have hl3 : 20 ≤ getV s 2 2 ∧ getV s 2 2 ≤ s.size ∧ getV s 2 2 ≤ 1500 := by
    simp only [rpLen, decide_eq_false_iff_not] at hl
    omega
  obtain ⟨l1, l2, l3⟩ := hl3
  have hf3 : (bits .and .u8 (byt s 6) 191 != 0) = false ∧ (byt s 7 != 0) = false := by
    rw [rpFrag, Bool.or_eq_false_iff] at hf
    exact hf
  obtain ⟨f1, f2⟩ := hf3
  have g8 : (byt s 8 == 0) = false := by simpa using h8
  clear hb0 h3 hl hf h8
  go_enter Try.func38, Try.ntmps38
  go_wp2_with (first | (go_at_call 77; refine (spec_GetWord _ _ _ _ hs).mono ?_; rintro e w1 ⟨rfl, rfl⟩) | (go_at_call 84; refine (spec_SumRight _ _ Hx.out).mono ?_; rintro e w1 ⟨rfl, rfl⟩; rw [H3.out]) | (go_at_call 85; refine (l1Min_any _ _ _).mono ?_; rintro e w1 ⟨rfl, rfl⟩) | (go_at_call 63; refine (l1In_any _ _ _ _).mono ?_; rintro e w1 ⟨rfl, rfl⟩; rw [HL.out]))

  go_region_held3 (fun w' => w.heap.size < w'.heap.size) (first | (simp; done) | (simp; omega)) (fail)
  all_goals
    go_wp2_with (first | (go_at_call 77; refine (spec_GetWord _ _ _ _ hs).mono ?_; rintro e w1 ⟨rfl, rfl⟩) | (go_at_call 84; refine (spec_SumRight _ _ Hx.out).mono ?_; rintro e w1 ⟨rfl, rfl⟩; rw [H3.out]) | (go_at_call 85; refine (l1Min_any _ _ _).mono ?_; rintro e w1 ⟨rfl, rfl⟩) | (go_at_call 63; refine (l1In_any _ _ _ _).mono ?_; rintro e w1 ⟨rfl, rfl⟩; rw [HL.out]))
    simp [bodyPost, results, Try.results38, go_sem]
    exact (by repeat (first | with_reducible exact Below.refl _ _ | with_reducible assumption | with_reducible refine Below.al ?_ _ | with_reducible refine Below.drew ?_ | with_reducible refine Below.seq ?_ (by assumption) | (with_reducible refine Below.setCell ?_ ?_ _); rotate_left; focus (first | exact Nat.le_refl _ | (simp; done) | (simp; omega))))
def rpI (s : ByteArray) (v : Int) : Int := if rpC s = 0 then v else 0
def rpS (s b : ByteArray) : ByteArray := if rpC s = 0 then b else ⟨#[]⟩
theorem rpI_ne (s : ByteArray) (h : rpC s ≠ 0) (v : Int) : rpI s v = 0 := if_neg h
theorem rpS_ne (s : ByteArray) (h : rpC s ≠ 0) (b : ByteArray) : rpS s b = ⟨#[]⟩ := if_neg h
theorem rpI_eq (s : ByteArray) (h : rpC s = 0) (v : Int) : rpI s v = v := if_pos h
theorem rpS_eq (s : ByteArray) (h : rpC s = 0) (b : ByteArray) : rpS s b = b := if_pos h
theorem impl_ReadPacket (s : ByteArray) (w : World) (hs : s.size ≤ 140737488355328) :
    Calls Try.prog 35 #[.string s] w fun e w' => e = .returned (.tuple #[.agg #[.int .i64 (rpI s (getV s 12 4)), .int .i64 (rpI s (getV s 16 4)), .int .i64 (rpI s (byt s 8)), .int .i64 (rpI s (byt s 9)), .int .i64 (rpI s (getV s 4 2)), .string (rpS s (s.extract 20 (getV s 2 2).toNat))], .int .i64 (rpC s)]) ∧ Below w.heap.size w w' := by
  by_cases h20 : s.size < 20
  · have e : rpC s = 1 := by rw [rpC, if_pos h20]
    have n : rpC s ≠ 0 := by omega
    simp only [rpI_ne s n, rpS_ne s n, e]
    exact impl_RP1 s w hs h20
  have h20' : 20 ≤ s.size := by omega
  by_cases h0 : byt s 0 = 69
  case neg =>
    have e : rpC s = 2 := by rw [rpC, if_neg h20, if_pos h0]
    have n : rpC s ≠ 0 := by omega
    simp only [rpI_ne s n, rpS_ne s n, e]
    exact impl_RP2 s w hs h20' h0
  have h0' : ¬ byt s 0 ≠ 69 := fun x => x h0
  by_cases h3 : sumOf (s.extract 0 20) = 0
  case neg =>
    have e : rpC s = 3 := by rw [rpC, if_neg h20, if_neg h0', if_pos h3]
    have n : rpC s ≠ 0 := by omega
    simp only [rpI_ne s n, rpS_ne s n, e]
    exact impl_RP3 s w hs h20' h0 h3
  have h3' : ¬ sumOf (s.extract 0 20) ≠ 0 := fun x => x h3
  cases hl : rpLen s
  case true =>
    have e : rpC s = 4 := by rw [rpC, if_neg h20, if_neg h0', if_neg h3', if_pos hl]
    have n : rpC s ≠ 0 := by omega
    simp only [rpI_ne s n, rpS_ne s n, e]
    exact impl_RP4 s w hs h20' h0 h3 hl
  have hl' : ¬ rpLen s = true := by rw [hl]; decide
  cases hf : rpFrag s
  case true =>
    have e : rpC s = 5 := by rw [rpC, if_neg h20, if_neg h0', if_neg h3', if_neg hl', if_pos hf]
    have n : rpC s ≠ 0 := by omega
    simp only [rpI_ne s n, rpS_ne s n, e]
    exact impl_RP5 s w hs h20' h0 h3 hl hf
  have hf' : ¬ rpFrag s = true := by rw [hf]; decide
  by_cases h8 : byt s 8 = 0
  · have e : rpC s = 6 := by rw [rpC, if_neg h20, if_neg h0', if_neg h3', if_neg hl', if_neg hf', if_pos h8]
    have n : rpC s ≠ 0 := by omega
    simp only [rpI_ne s n, rpS_ne s n, e]
    exact impl_RP6 s w hs h20' h0 h3 hl hf h8
  · have e : rpC s = 0 := by rw [rpC, if_neg h20, if_neg h0', if_neg h3', if_neg hl', if_neg hf', if_neg h8]
    simp only [rpI_eq s e, rpS_eq s e]
    rw [e]
    exact impl_RP0 s w hs h20' h0 h3 hl hf h8
theorem spec_ReadPacket (s : ByteArray) (w : World) (hs : s.size ≤ 140737488355328) :
    Calls Try.prog 38 #[.string s] w fun e w' => e = .returned (.tuple #[.agg #[.int .i64 (rpI s (getV s 12 4)), .int .i64 (rpI s (getV s 16 4)), .int .i64 (rpI s (byt s 8)), .int .i64 (rpI s (byt s 9)), .int .i64 (rpI s (getV s 4 2)), .string (rpS s (s.extract 20 (getV s 2 2).toNat))], .int .i64 (rpC s)]) ∧ Below w.heap.size w w' := by
  by_cases h20 : s.size < 20
  · have e : rpC s = 1 := by rw [rpC, if_pos h20]
    have n : rpC s ≠ 0 := by omega
    simp only [rpI_ne s n, rpS_ne s n, e]
    exact spec_RP1 s w hs h20
  have h20' : 20 ≤ s.size := by omega
  by_cases h0 : byt s 0 = 69
  case neg =>
    have e : rpC s = 2 := by rw [rpC, if_neg h20, if_pos h0]
    have n : rpC s ≠ 0 := by omega
    simp only [rpI_ne s n, rpS_ne s n, e]
    exact spec_RP2 s w hs h20' h0
  have h0' : ¬ byt s 0 ≠ 69 := fun x => x h0
  by_cases h3 : sumOf (s.extract 0 20) = 0
  case neg =>
    have e : rpC s = 3 := by rw [rpC, if_neg h20, if_neg h0', if_pos h3]
    have n : rpC s ≠ 0 := by omega
    simp only [rpI_ne s n, rpS_ne s n, e]
    exact spec_RP3 s w hs h20' h0 h3
  have h3' : ¬ sumOf (s.extract 0 20) ≠ 0 := fun x => x h3
  cases hl : rpLen s
  case true =>
    have e : rpC s = 4 := by rw [rpC, if_neg h20, if_neg h0', if_neg h3', if_pos hl]
    have n : rpC s ≠ 0 := by omega
    simp only [rpI_ne s n, rpS_ne s n, e]
    exact spec_RP4 s w hs h20' h0 h3 hl
  have hl' : ¬ rpLen s = true := by rw [hl]; decide
  cases hf : rpFrag s
  case true =>
    have e : rpC s = 5 := by rw [rpC, if_neg h20, if_neg h0', if_neg h3', if_neg hl', if_pos hf]
    have n : rpC s ≠ 0 := by omega
    simp only [rpI_ne s n, rpS_ne s n, e]
    exact spec_RP5 s w hs h20' h0 h3 hl hf
  have hf' : ¬ rpFrag s = true := by rw [hf]; decide
  by_cases h8 : byt s 8 = 0
  · have e : rpC s = 6 := by rw [rpC, if_neg h20, if_neg h0', if_neg h3', if_neg hl', if_neg hf', if_pos h8]
    have n : rpC s ≠ 0 := by omega
    simp only [rpI_ne s n, rpS_ne s n, e]
    exact spec_RP6 s w hs h20' h0 h3 hl hf h8
  · have e : rpC s = 0 := by rw [rpC, if_neg h20, if_neg h0', if_neg h3', if_neg hl', if_neg hf', if_neg h8]
    simp only [rpI_eq s e, rpS_eq s e]
    rw [e]
    exact spec_RP0 s w hs h20' h0 h3 hl hf h8
end Go.Proofs.Ytahffinjglmhhaa
