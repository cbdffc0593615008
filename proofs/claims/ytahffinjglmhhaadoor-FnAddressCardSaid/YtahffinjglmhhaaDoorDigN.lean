/-
  The decimal figures of any number.
-/
import Derived.Test.YtahffinjglmhhaaDoorDig
namespace Go.Proofs.YtahffinjglmhhaaDoor
open Go.RowKit
set_option linter.unusedVariables false
theorem neg_tmod (m : Nat) : (-(m : Int)).tmod 10 = -((m : Int) % 10) := by rw [Int.neg_tmod, Int.tmod_eq_emod_of_nonneg (by omega)]
theorem neg_tdiv (m : Nat) : (-(m : Int)).tdiv 10 = -((m : Int) / 10) := by rw [Int.neg_tdiv, Int.tdiv_eq_ediv_of_nonneg (by omega)]
set_option maxHeartbeats 1000000 in
theorem spec_Digits_neg (N : Nat) (w : World) (h0 : 0 < N) (h1 : (N : Int) ≤ 9223372036854775808) :
    Calls Tryd.prog 21 #[.int .i64 (-(N : Int))] w fun e w' => e = .returned (.string ⟨(45 :: Lib.decDigits N).toArray⟩) ∧ Below w.heap.size w w' := by
  have g0 : (-(N : Int) == 0) = false := by simp; omega
  have g1 : -(N : Int) < 0 := by omega
  go_enter Tryd.func21, Tryd.ntmps21
  go_wp2
  go_loopw [0, 4, 5] (fun v o _ wr => ∃ (m : Nat) (L : List UInt8), v = .int .i64 (-(m : Int)) ∧ o = .string ⟨L.toArray⟩ ∧ (m : Int) ≤ 9223372036854775808 ∧ Hid (pre m ++ L = Lib.decDigits N) ∧ L.length ≤ 20 ∧ Below w.heap.size w wr) (fun v _ _ _ => (-(intOf v)).toNat)
  case atStart => exact ⟨N, [], rfl, rfl, h1, hide (by rw [pre, if_neg (by omega), List.append_nil]), by simp, Below.refl _ _⟩
  case round =>
    obtain ⟨m, L, rfl, rfl, hm, HL, hlen, hb⟩ := hrel
    have z2 : (⟨L.toArray⟩ : ByteArray).size ≤ 20 := by show L.toArray.size ≤ 20; simpa using hlen
    by_cases hz : m = 0
    · subst hz
      have z3 : ¬ 9223372036854775807 < 1 + (⟨L.toArray⟩ : ByteArray).size := by omega
      go_wp2
      go_ret
      exact ⟨by have := HL.out; rw [pre, if_pos rfl, List.nil_append] at this; rw [← this]; rfl, hb⟩
    · have g2 : (-(m : Int) != 0) = true := by simp [bne]; omega
      have ht := neg_tmod m
      have hd := neg_tdiv m
      have hcv := fun x : Int => run_string_own (P := Tryd.prog) (xs := [x]) Tryd.underlying22 Tryd.underlying5 Tryd.underlying9 (World.ownsRow_lit (base := wr.heap.size) (size := 1) (e := 5) wr #[.int .u8 x] 1 (Nat.le_refl _) (by decide) (by rfl))
      have z1 : (strOfNums [48 + (m : Int) % 10]).size ≤ 1 := by rw [strOfNums_size]; exact Nat.le_refl _
      have Hlen := hide (show (UInt8.ofNat (48 + m % 10) :: L).length ≤ 20 by
        have e := HL.out
        rw [← pre_step m (by omega) L] at e
        have e2 := congrArg List.length e
        have e3 := dec_len N (by omega)
        rw [List.length_append] at e2
        omega)
      by_cases hr : (m : Int) % 10 = 0
      · have q0 : ¬ -((m : Int) % 10) < 0 := by omega
        have q1 : -((m : Int) % 10) = (m : Int) % 10 := by omega
        clear hr
        go_wp2
        go_roundw
        case rel => exact ⟨m / 10, UInt8.ofNat (48 + m % 10) :: L, by go_num, by rw [cons_str]; exact congrArg (fun k => Value.string ⟨(UInt8.ofNat k :: L).toArray⟩) (by omega), by omega, hide ((pre_step m (by omega) L).trans HL.out), Hlen.out, (by repeat (first | with_reducible exact Below.refl _ _ | with_reducible assumption | with_reducible refine Below.al ?_ _ | with_reducible refine Below.drew ?_ | with_reducible refine Below.seq ?_ (by assumption) | (with_reducible refine Below.setCell ?_ ?_ _); rotate_left; focus (first | exact Nat.le_refl _ | (simp; done) | (simp; omega))))⟩
        case measure => simp [intOf]; omega
      · have q0 : -((m : Int) % 10) < 0 := by omega
        have q1 : wrap64 (0 - -((m : Int) % 10)) = (m : Int) % 10 := by unfold wrap64; omega
        clear hr
        go_wp2
        go_roundw
        case rel => exact ⟨m / 10, UInt8.ofNat (48 + m % 10) :: L, by go_num, by rw [cons_str]; exact congrArg (fun k => Value.string ⟨(UInt8.ofNat k :: L).toArray⟩) (by omega), by omega, hide ((pre_step m (by omega) L).trans HL.out), Hlen.out, (by repeat (first | with_reducible exact Below.refl _ _ | with_reducible assumption | with_reducible refine Below.al ?_ _ | with_reducible refine Below.drew ?_ | with_reducible refine Below.seq ?_ (by assumption) | (with_reducible refine Below.setCell ?_ ?_ _); rotate_left; focus (first | exact Nat.le_refl _ | (simp; done) | (simp; omega))))⟩
        case measure => simp [intOf]; omega
theorem spec_Digits_any (n : Int) (w : World) (h : I64 n) :
    Calls Tryd.prog 21 #[.int .i64 n] w fun e w' => e = .returned (.string ⟨(Lib.itoa n).toArray⟩) ∧ Below w.heap.size w w' := by
  unfold I64 at h
  by_cases h0 : n < 0
  · obtain ⟨N, rfl⟩ : ∃ N : Nat, n = -(N : Int) := ⟨n.natAbs, by omega⟩
    have e : Lib.itoa (-(N : Int)) = 45 :: Lib.decDigits N := by
      rw [Lib.itoa, if_pos h0]; congr 2; omega
    rw [e]
    exact spec_Digits_neg N w (by omega) (by omega)
  · obtain ⟨N, rfl⟩ : ∃ N : Nat, n = (N : Int) := ⟨n.toNat, by omega⟩
    have e : Lib.itoa (N : Int) = Lib.decDigits N := by
      rw [Lib.itoa, if_neg h0]; congr 1
    rw [e]
    by_cases hN : N = 0
    · subst hN
      have e : Lib.decDigits 0 = [48] := by rw [Lib.decDigits]; rfl
      rw [e]
      go_enter Tryd.func21, Tryd.ntmps21
      go_wp2
      go_ret
      exact ⟨rfl, Below.refl _ _⟩
    · exact spec_Digits_pos N w (by omega) (by omega)
end Go.Proofs.YtahffinjglmhhaaDoor
