/-
  The sum of a string's words: its definition over bytes, what WordSum, SumOf and SumRight return, and their laws' walks.
-/
import Derived.Test.YtahffinjglmhhaaFold
namespace Go.Proofs.Ytahffinjglmhhaa
open Go.RowKit
set_option linter.unusedVariables false

/-- The byte at i, 0 where there is none. -/
def byt (s : ByteArray) (i : Nat) : Int := ((s.data.toList.getD i 0).toNat : Int)
theorem byt_bd (s : ByteArray) (i : Nat) : 0 ≤ byt s i ∧ byt s i ≤ 255 := by
  unfold byt
  have := UInt8.toNat_lt (s.data.toList.getD i 0)
  omega
theorem byt_at (s : ByteArray) (i : Nat) (h : i < s.size) : ((s[i].toNat : Nat) : Int) = byt s i := by
  unfold byt
  have h' : i < s.data.toList.length := by simpa using h
  rw [List.getD_eq_getElem?_getD, List.getElem?_eq_getElem h', Option.getD_some]
  rfl
/-- The sum of the words of the first k bytes. -/
def ws (s : ByteArray) : Nat → Int
  | 0 => 0
  | k + 1 => ws s k + (if k % 2 = 0 then 256 * byt s k else byt s k)
theorem ws_bd (s : ByteArray) (k : Nat) : 0 ≤ ws s k ∧ ws s k ≤ 65280 * k := by
  induction k with
  | zero => simp [ws]
  | succ k ih =>
    obtain ⟨a, b⟩ := byt_bd s k
    unfold ws
    split <;> omega
def wordSum (s : ByteArray) : Int := ws s s.size
theorem wordSum_bd (s : ByteArray) (h : s.size ≤ 140737488355328) : 0 ≤ wordSum s ∧ wordSum s ≤ 9187343239835811840 := by
  have := ws_bd s s.size
  unfold wordSum
  omega
def sumOf (s : ByteArray) : Int := 65535 - fold (wordSum s)
theorem sumOf_bd (s : ByteArray) : 0 ≤ sumOf s ∧ sumOf s ≤ 65535 := by unfold sumOf; have := fold_bd (wordSum s); omega

theorem impl_WordSum (s : ByteArray) (w : World) (hs : s.size ≤ 140737488355328) :
    Calls Try.prog 106 #[.string s] w fun e w' => e = .returned (.int .i64 (wordSum s)) ∧ w = w' := by
  go_enter Try.func106, Try.ntmps106
  go_wp2
  go_loop [3, 4] (fun t i => ∃ k : Nat, k ≤ s.size ∧ i = .int .i64 k ∧ t = .int .i64 (ws s k)) (fun _ i => s.size - (intOf i).toNat)
  case atStart => exact ⟨0, by omega, rfl, rfl⟩
  case round =>
    obtain ⟨k, hk, rfl, rfl⟩ := hrel
    obtain ⟨c0, c1⟩ := ws_bd s k
    by_cases hlt : k < s.size
    · obtain ⟨b0, b1⟩ := byt_bd s k
      have hb := hide (byt_at s k hlt)
      have hq : ((s[k].toNat : Nat) : Int) ≤ 255 := by rw [byt_at s k hlt]; exact b1
      by_cases hp : k % 2 = 0
      · have HS := hide (show ws s (k + 1) = ws s k + 256 * byt s k by rw [ws, if_pos hp])
        have hp1 : ((k : Int) % 2 == 0) = true := by simp; omega
        clear hp
        go_wp2
        go_round
        case rel => exact ⟨k + 1, by omega, by go_num, by rw [HS.out, ← hb.out]; exact congrArg _ (by omega)⟩
        case measure => simp [intOf]; omega
      · have HS := hide (show ws s (k + 1) = ws s k + byt s k by rw [ws, if_neg hp])
        have hp1 : ((k : Int) % 2 == 0) = false := by simp; omega
        clear hp
        go_wp2
        go_round
        case rel => exact ⟨k + 1, by omega, by go_num, by rw [HS.out, ← hb.out]⟩
        case measure => simp [intOf]; omega
    · go_wp2
      go_ret
      exact ⟨ret_int (by have : k = s.size := by omega
                         rw [this]; rfl), rfl⟩
theorem spec_WordSum (s : ByteArray) (w : World) (hs : s.size ≤ 140737488355328) :
    Calls Try.prog 108 #[.string s] w fun e w' => e = .returned (.int .i64 (wordSum s)) ∧ w = w' := by
  go_enter Try.func108, Try.ntmps108
  go_wp2
  go_loop [3, 4] (fun t i => ∃ k m : Nat, k ≤ s.size + 1 ∧ k = 2 * m ∧ i = .int .i64 k ∧ Hid (t = .int .i64 (ws s (min k s.size))) ∧ ∃ t0 : Int, 0 ≤ t0 ∧ t0 ≤ 65280 * k ∧ t = .int .i64 t0) (fun _ i => s.size + 1 - (intOf i).toNat)
  case atStart => exact ⟨0, 0, by omega, rfl, rfl, hide (by simp [ws]), 0, by omega, by omega, rfl⟩
  case round =>
    obtain ⟨k, m, hk, hm, rfl, HT, t0, t1, t2, rfl⟩ := hrel
    have Hm := hide hm
    clear hm
    by_cases hlt : k < s.size
    · obtain ⟨b0, b1⟩ := byt_bd s k
      have hb := hide (byt_at s k hlt)
      have hq : ((s[k].toNat : Nat) : Int) ≤ 255 := by rw [byt_at s k hlt]; exact b1
      have HS := hide (show ws s (k + 1) = t0 + 256 * byt s k by
        have h := HT.out
        rw [show min k s.size = k by omega] at h
        injection h with _ h
        have e := Hm.out
        rw [ws, if_pos (by omega), h])
      by_cases hlt2 : k + 1 < s.size
      · obtain ⟨d0, d1⟩ := byt_bd s (k + 1)
        have hd := hide (byt_at s (k + 1) hlt2)
        have hr : ((s[k + 1].toNat : Nat) : Int) ≤ 255 := by rw [byt_at s (k + 1) hlt2]; exact d1
        have HS2 := hide (show ws s (k + 2) = t0 + 256 * byt s k + byt s (k + 1) by
          have e := Hm.out
          rw [ws, if_neg (by omega), HS.out])
        go_wp2
        go_round
        case rel => exact ⟨k + 2, m + 1, by omega, by have e := Hm.out; omega, by go_num, hide (by rw [show min (k + 2) s.size = k + 2 by omega, HS2.out, ← hb.out, ← hd.out]), _, by omega, by omega, rfl⟩
        case measure => simp [intOf]; omega
      · go_wp2
        go_round
        case rel => exact ⟨k + 2, m + 1, by omega, by have e := Hm.out; omega, by go_num, hide (by rw [show min (k + 2) s.size = k + 1 by omega, HS.out, ← hb.out]), _, by omega, by omega, rfl⟩
        case measure => simp [intOf]; omega
    · go_wp2
      go_ret
      exact ⟨by
        have h := HT.out
        rw [show min k s.size = s.size by omega] at h
        exact congrArg _ h, rfl⟩
theorem impl_SumOf (s : ByteArray) (w : World) (hs : s.size ≤ 140737488355328) :
    Calls Try.prog 79 #[.string s] w fun e w' => e = .returned (.int .i64 (sumOf s)) ∧ w = w' := by
  have hb := wordSum_bd s hs
  obtain ⟨f0, f1⟩ := fold_bd (wordSum s)
  go_enter Try.func79, Try.ntmps79
  go_wp2_with (first | (go_at_call 106; refine (impl_WordSum _ _ hs).mono ?_; rintro e w1 ⟨rfl, rfl⟩) | (go_at_call 105; refine (impl_Folded _ _ (by omega)).mono ?_; rintro e w1 ⟨rfl, rfl⟩))
  go_ret
  exact ⟨rfl, rfl⟩
theorem spec_SumOf (s : ByteArray) (w : World) (hs : s.size ≤ 140737488355328) :
    Calls Try.prog 81 #[.string s] w fun e w' => e = .returned (.int .i64 (sumOf s)) ∧ w = w' := by
  have hb := wordSum_bd s hs
  obtain ⟨f0, f1⟩ := fold_bd (wordSum s)
  go_enter Try.func81, Try.ntmps81
  go_wp2_with (first | (go_at_call 108; refine (spec_WordSum _ _ hs).mono ?_; rintro e w1 ⟨rfl, rfl⟩) | (go_at_call 107; refine (spec_Folded _ _ (by omega)).mono ?_; rintro e w1 ⟨rfl, rfl⟩))
  go_ret
  exact ⟨rfl, rfl⟩
theorem impl_SumRight (s : ByteArray) (w : World) (hs : s.size ≤ 140737488355328) :
    Calls Try.prog 82 #[.string s] w fun e w' => e = .returned (.bool (sumOf s == 0)) ∧ w = w' := by
  go_enter Try.func82, Try.ntmps82
  go_wp2_with (go_at_call 79; refine (impl_SumOf _ _ hs).mono ?_; rintro e w1 ⟨rfl, rfl⟩)
  go_ret
  exact ⟨rfl, rfl⟩
theorem spec_SumRight (s : ByteArray) (w : World) (hs : s.size ≤ 140737488355328) :
    Calls Try.prog 84 #[.string s] w fun e w' => e = .returned (.bool (sumOf s == 0)) ∧ w = w' := by
  go_enter Try.func84, Try.ntmps84
  go_wp2_with (go_at_call 81; refine (spec_SumOf _ _ hs).mono ?_; rintro e w1 ⟨rfl, rfl⟩)
  go_ret
  exact ⟨rfl, rfl⟩
end Go.Proofs.Ytahffinjglmhhaa
