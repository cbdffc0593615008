/-
  Decimal figures: what the reference's Digits returns of a number that is not negative.
-/
import Derived.Test.YtahffinjglmhhaaDoorWord
import Derived.Lib.ItoaNum
import Derived.Lib.ItoaLen
namespace Go.Proofs.YtahffinjglmhhaaDoor
open Go.RowKit
set_option linter.unusedVariables false

/-- The figures of m that stand ahead. -/
def pre (m : Nat) : List UInt8 := if m = 0 then [] else Lib.decDigits m
theorem pre_step (m : Nat) (h : 0 < m) (L : List UInt8) : pre (m / 10) ++ (UInt8.ofNat (48 + m % 10) :: L) = pre m ++ L := by
  unfold pre
  rw [if_neg (show ¬ m = 0 by omega)]
  by_cases h10 : m < 10
  · rw [if_pos (by omega), Lib.decDigits, dif_pos h10, show m % 10 = m by omega]
    rfl
  · rw [if_neg (by omega)]
    rw [show Lib.decDigits m = Lib.decDigits (m / 10) ++ [UInt8.ofNat (48 + m % 10)] by rw [Lib.decDigits, dif_neg h10]]
    simp
theorem dec_len (N : Nat) (h : N ≤ 9223372036854775808) : (Lib.decDigits N).length ≤ 20 := by
  rw [Lib.decDigits_length]; exact Lib.nDigits_le20 N (by omega)
theorem cons_str (x : Int) (L : List UInt8) : strOfNums [x] ++ ⟨L.toArray⟩ = (⟨(UInt8.ofNat x.toNat :: L).toArray⟩ : ByteArray) := by
  have e : ∀ a b : ByteArray, a.data.toList = b.data.toList → a = b := fun a b h => by cases a; cases b; simp at h; simpa using h
  apply e
  have hd : ∀ x y : ByteArray, (x ++ y).data.toList = x.data.toList ++ y.data.toList := fun x y => by simp
  rw [hd, strOfNums_data]
  simp
theorem spec_Digits_pos (N : Nat) (w : World) (h0 : 0 < N) (h1 : (N : Int) ≤ 9223372036854775807) :
    Calls Tryd.prog 21 #[.int .i64 N] w fun e w' => e = .returned (.string ⟨(Lib.decDigits N).toArray⟩) ∧ Below w.heap.size w w' := by
  have g0 : ((N : Int) == 0) = false := by simp; omega
  have g1 : ¬ (N : Int) < 0 := by omega
  go_enter Tryd.func21, Tryd.ntmps21
  go_wp2
  go_loopw [0, 4, 5] (fun v o _ wr => ∃ (m : Nat) (L : List UInt8), v = .int .i64 m ∧ o = .string ⟨L.toArray⟩ ∧ (m : Int) ≤ 9223372036854775807 ∧ Hid (pre m ++ L = Lib.decDigits N) ∧ L.length ≤ 20 ∧ Below w.heap.size w wr) (fun v _ _ _ => (intOf v).toNat)
  case atStart => exact ⟨N, [], rfl, rfl, h1, hide (by rw [pre, if_neg (by omega), List.append_nil]), by simp, Below.refl _ _⟩
  case round =>
    obtain ⟨m, L, rfl, rfl, hm, HL, hlen, hb⟩ := hrel
    by_cases hz : m = 0
    · subst hz
      go_wp2
      go_ret
      exact ⟨by have := HL.out; rw [pre, if_pos rfl, List.nil_append] at this; rw [this]; rfl, hb⟩
    · have g2 : ((m : Int) != 0) = true := by simp [bne]; omega
      have g3 : ¬ (m : Int) % 10 < 0 := by omega
      have hcv := fun x : Int => run_string_own (P := Tryd.prog) (xs := [x]) Tryd.underlying22 Tryd.underlying5 Tryd.underlying9 (World.ownsRow_lit (base := wr.heap.size) (size := 1) (e := 5) wr #[.int .u8 x] 1 (Nat.le_refl _) (by decide) (by rfl))
      have z1 : (strOfNums [48 + (m : Int) % 10]).size ≤ 1 := by rw [strOfNums_size]; exact Nat.le_refl _
      have z2 : (⟨L.toArray⟩ : ByteArray).size ≤ 20 := by show L.toArray.size ≤ 20; simpa using hlen
      have Hlen := hide (show (UInt8.ofNat (48 + m % 10) :: L).length ≤ 20 by
        have e := HL.out
        rw [← pre_step m (by omega) L] at e
        have e2 := congrArg List.length e
        have e3 := dec_len N (by omega)
        rw [List.length_append] at e2
        omega)
      go_wp2
      go_roundw
      case rel => exact ⟨m / 10, UInt8.ofNat (48 + m % 10) :: L, by go_num, by rw [cons_str]; exact congrArg (fun k => Value.string ⟨(UInt8.ofNat k :: L).toArray⟩) (by omega), by omega, hide ((pre_step m (by omega) L).trans HL.out), Hlen.out, (by repeat (first | with_reducible exact Below.refl _ _ | with_reducible assumption | with_reducible refine Below.al ?_ _ | with_reducible refine Below.drew ?_ | with_reducible refine Below.seq ?_ (by assumption) | (with_reducible refine Below.setCell ?_ ?_ _); rotate_left; focus (first | exact Nat.le_refl _ | (simp; done) | (simp; omega))))⟩
      case measure => simp [intOf]; omega
end Go.Proofs.YtahffinjglmhhaaDoor
