/-
  The walks of the laws on numbers and on addresses.
-/
import Derived.Test.YtahffinjglmhhaaDoorDn
import Derived.Test.YtahffinjglmhhaaDoorDnl
namespace Go.Proofs.YtahffinjglmhhaaDoor
open Go.RowKit
set_option linter.unusedVariables false
set_option linter.unusedSimpArgs false
set_option maxHeartbeats 4000000 in
theorem fnNum_walk (v : Value) (n : Nat) (w : World) (hb : Bytes w v n) (ht : Tab w) :
    Calls Tryd.prog 3 #[v] w fun e w' => e = .returned (.bool true) ∧ Below w.heap.size w w' := by
  have HT := hide ht
  clear ht
  have HB := hide hb
  clear hb
  by_cases hbig : 1048576 < n
  · have e0 : decide (1048576 < n) = true := by simpa using hbig
    have E0 := hide e0
    clear e0
    go_enter Tryd.func3, Tryd.ntmps3
    go_wp2_with fail
    refine (big_any v n _ HB.out).mono ?_
    rintro e w1 ⟨rfl, rfl⟩
    rw [E0.out]
    go_wp2_with fail
    go_ret
    exact ⟨rfl, Below.refl _ _⟩
  have e0 : decide (1048576 < n) = false := by simpa using hbig
  have E0 := hide e0
  have hn : n ≤ 1048576 := by omega
  clear e0
  go_enter Tryd.func3, Tryd.ntmps3
  go_wp2_with fail
  refine (big_any v n _ HB.out).mono ?_
  rintro e w1 ⟨rfl, rfl⟩
  rw [E0.out]
  go_wp2_with fail
  refine (drawDigits_any v n _ hn HB.out).mono ?_
  rintro e w1 ⟨⟨x, rfl, hx⟩, hb1⟩
  have Hx := hide hx
  have HT1 := hide (HT.out.below hb1 HT.out.low)
  have hz := itoa_size x hx
  obtain ⟨X, hX⟩ : ∃ X, X = (⟨(Lib.itoa x).toArray⟩ : ByteArray) := ⟨_, rfl⟩
  have HN := hide (num_itoa x)
  rw [← hX] at hz HN
  have HX := hide hX
  clear hX hx
  go_wp2_with fail
  refine (impl_Digits_any x _ Hx.out HT1.out).mono ?_
  rintro e w2 ⟨rfl, hb2⟩
  rw [← HX.out]
  have HT2 := hide (HT1.out.below hb2 HT1.out.low)
  have B2 := Below.seq hb1 hb2
  clear hb1 hb2
  go_wp2_with fail
  refine (impl_Number X _ (by omega)).mono ?_
  rintro e w3 ⟨rfl, rfl⟩
  rw [HN.out.1, HN.out.2]
  obtain ⟨V, HV⟩ : ∃ V, Hid (V = if numIn x then x else 0) := ⟨_, hide rfl⟩
  obtain ⟨I, HI⟩ : ∃ I, Hid (I = numIn x) := ⟨_, hide rfl⟩
  rw [← HV.out, ← HI.out]
  go_wp2_with fail
  refine (drawNumber_any v n _ hn (HB.out.below B2)).mono ?_
  rintro e w4 ⟨⟨s, rfl, hs⟩, hb4⟩
  have HT4 := hide (HT2.out.below hb4 HT2.out.low)
  have B4 := Below.seq B2 hb4
  clear hb4 B2
  go_wp2_with fail
  refine (impl_Number s _ (by omega)).mono ?_
  rintro e w5 ⟨rfl, rfl⟩
  have HP := hide (itoa_num s)
  have HQ := hide (numV_nn s)
  obtain ⟨K, HK⟩ : ∃ K, Hid (K = numOk s) := ⟨_, hide rfl⟩
  obtain ⟨U, HU⟩ : ∃ U, Hid (U = numV s) := ⟨_, hide rfl⟩
  rw [← HU.out] at HP HQ
  rw [← HK.out] at HP
  rw [← HK.out, ← HU.out]
  go_wp2_with fail
  refine (spec_Number s _ (by omega)).mono ?_
  rintro e w6 ⟨rfl, hb6⟩
  have HT6 := hide (HT4.out.below hb6 HT4.out.low)
  have B6 := Below.seq B4 hb6
  clear hb6 B4
  rw [← HK.out, ← HU.out]
  have hIU : I64 U := by have := HQ.out; unfold I64; omega
  have HIU := hide hIU
  clear hIU
  cases K
  · have e2 : I = true ∧ V = x ∨ I = false ∧ V = 0 ∧ (x < 0 ∨ 999999999999 < x) := by
      have a := HI.out
      have b := HV.out
      rw [numIn] at a b
      by_cases h : 0 ≤ x ∧ x ≤ 999999999999
      · left; simp [h] at a b; exact ⟨a, b⟩
      · right; simp [h] at a b; exact ⟨a, b, by omega⟩
    have e3 : I = true → 0 ≤ x ∧ x ≤ 999999999999 := by
      intro h
      have a := HI.out
      rw [numIn, h] at a
      simpa using a.symm
    clear HI HV HN HX Hx
    rcases e2 with ⟨rfl, rfl⟩ | ⟨rfl, rfl, h | h⟩
    · obtain ⟨c1, c2⟩ := e3 rfl
      have c3 : ¬ V < 0 := by omega
      have c4 : ¬ 999999999999 < V := by omega
      clear e3 c1 c2
      go_wp2_with fail
      go_ret
      exact ⟨rfl, B6⟩
    · clear e3
      go_wp2_with fail
      go_ret
      exact ⟨rfl, B6⟩
    · have c3 : ¬ x < 0 := by omega
      clear e3
      go_wp2_with fail
      go_ret
      exact ⟨rfl, B6⟩
  · have HP2 := hide (HP.out rfl)
    go_wp2_with fail
    refine (impl_Digits_any U _ HIU.out HT6.out).mono ?_
    rintro e w7 ⟨rfl, hb7⟩
    have B7 := Below.seq B6 hb7
    clear hb7 B6
    rw [HP2.out]
    have e2 : I = true ∧ V = x ∨ I = false ∧ V = 0 ∧ (x < 0 ∨ 999999999999 < x) := by
      have a := HI.out
      have b := HV.out
      rw [numIn] at a b
      by_cases h : 0 ≤ x ∧ x ≤ 999999999999
      · left; simp [h] at a b; exact ⟨a, b⟩
      · right; simp [h] at a b; exact ⟨a, b, by omega⟩
    have e3 : I = true → 0 ≤ x ∧ x ≤ 999999999999 := by
      intro h
      have a := HI.out
      rw [numIn, h] at a
      simpa using a.symm
    clear HI HV HN HX Hx
    rcases e2 with ⟨rfl, rfl⟩ | ⟨rfl, rfl, h | h⟩
    · obtain ⟨c1, c2⟩ := e3 rfl
      have c3 : ¬ V < 0 := by omega
      have c4 : ¬ 999999999999 < V := by omega
      clear e3 c1 c2
      go_wp2_with fail
      go_ret
      exact ⟨rfl, B7⟩
    · clear e3
      go_wp2_with fail
      go_ret
      exact ⟨rfl, B7⟩
    · have c3 : ¬ x < 0 := by omega
      clear e3
      go_wp2_with fail
      go_ret
      exact ⟨rfl, B7⟩
end Go.Proofs.YtahffinjglmhhaaDoor
