/-
  The walk of the law on addresses.
-/
import Derived.Test.YtahffinjglmhhaaDoorDn
import Derived.Test.YtahffinjglmhhaaDoorDnl
namespace Go.Proofs.YtahffinjglmhhaaDoor
open Go.RowKit
set_option linter.unusedVariables false
set_option linter.unusedSimpArgs false
set_option maxHeartbeats 4000000 in
theorem fnAddress_walk (v : Value) (n : Nat) (w : World) (hb : Bytes w v n) (ht : Tab w) :
    Calls Tryd.prog 4 #[v] w fun e w' => e = .returned (.bool true) ∧ Below w.heap.size w w' := by
  have HT := hide ht
  clear ht
  have HB := hide hb
  clear hb
  by_cases hbig : 1048576 < n
  · have e0 : decide (1048576 < n) = true := by simpa using hbig
    have E0 := hide e0
    clear e0
    go_enter Tryd.func4, Tryd.ntmps4
    go_wp2_with fail
    refine (big_any v n _ HB.out).mono ?_
    rintro e w1 ⟨rfl, rfl⟩
    rw [E0.out]
    go_wp2_with fail
    go_ret
    exact ⟨rfl, Below.refl _ _⟩
  have e0 : decide (1048576 < n) = false := by simpa using hbig
  have E0 := hide e0
  have hn : n ≤ 1048576 := by omega
  clear e0
  go_enter Tryd.func4, Tryd.ntmps4
  go_wp2_with fail
  refine (big_any v n _ HB.out).mono ?_
  rintro e w1 ⟨rfl, rfl⟩
  rw [E0.out]
  go_wp2_with fail
  refine (drawAddressText_any v n _ hn HB.out).mono ?_
  rintro e w1 ⟨⟨x, rfl, hx⟩, hb1⟩
  have Hx := hide hx
  clear hx
  have HT1 := hide (HT.out.below hb1 HT.out.low)
  go_wp2_with fail
  refine (impl_AddressText x _ Hx.out HT1.out).mono ?_
  rintro e w2 ⟨rfl, hb2⟩
  have HT2 := hide (HT1.out.below hb2 HT1.out.low)
  have B2 := Below.seq hb1 hb2
  clear hb1 hb2
  have hz := addrText_size x
  have hk := addr_ok x
  have hr : wordOk x 32 = true → na (parts (addrText x) 46) 4 = x := fun h => addr_reads x (addr_four x h).1 (addr_four x h).2.1
  generalize addrText x = S at hz hk hr ⊢
  have HR := hide hr
  have HK := hide hk
  clear hr hk
  go_wp2_with fail
  refine (impl_Address S _ (by omega)).mono ?_
  rintro e w3 ⟨rfl, hb3⟩
  have HT3 := hide (HT2.out.below hb3 HT2.out.low)
  have B3 := Below.seq B2 hb3
  clear hb3 B2
  rw [HK.out]
  have hU : ∃ U : Int, (if wordOk x 32 = true then na (parts S 46) 4 else 0) = U ∧ (wordOk x 32 = true → U = x) := ⟨_, rfl, fun h => by rw [if_pos h, HR.out h]⟩
  obtain ⟨U, hU1, hU2⟩ := hU
  rw [hU1]
  have HU := hide hU2
  clear hU1 hU2
  go_wp2_with fail
  refine (drawAddress_any v n _ hn (HB.out.below B3)).mono ?_
  rintro e w4 ⟨⟨t, rfl, htz⟩, hb4⟩
  have HT4 := hide (HT3.out.below hb4 HT3.out.low)
  have B4 := Below.seq B3 hb4
  clear hb4 B3
  obtain ⟨Y, HY⟩ : ∃ Y : Int, Hid (Y = if adOk (parts t 46) then na (parts t 46) 4 else 0) := ⟨_, hide rfl⟩
  have hY : adOk (parts t 46) = true → addrText Y = t := fun h => by rw [HY.out, if_pos h]; exact addr_back t h
  have hYI : I64 Y := by
    have := na_lt (parts t 46) 4 (by decide)
    rw [HY.out]
    split
    · unfold I64; omega
    · unfold I64; omega
  obtain ⟨R, HR2⟩ : ∃ R : Bool, Hid (R = adOk (parts t 46)) := ⟨_, hide rfl⟩
  rw [← HR2.out] at hY HY
  have HYI := hide hYI
  have HYA := hide hY
  clear hYI hY
  go_wp2_with fail
  refine (impl_Address t _ (by omega)).mono ?_
  rintro e w5 ⟨rfl, hb5⟩
  have HT5 := hide (HT4.out.below hb5 HT4.out.low)
  have B5 := Below.seq B4 hb5
  clear hb5 B4
  rw [← HR2.out, ← HY.out]
  go_wp2_with fail
  refine (spec_Address t _ (by omega)).mono ?_
  rintro e w6 ⟨rfl, hb6⟩
  have HT6 := hide (HT5.out.below hb6 HT5.out.low)
  have B6 := Below.seq B5 hb6
  clear hb6 B5
  rw [← HR2.out, ← HY.out]
  obtain ⟨k, HW⟩ : ∃ k : Bool, Hid (wordOk x 32 = k) := ⟨_, hide rfl⟩
  rw [HW.out] at HU ⊢
  cases k <;> cases R
  · go_wp2_with fail
    refine (spec_WordOk _ 32 _).mono ?_
    rintro e w7 ⟨rfl, rfl⟩
    rw [HW.out]
    go_wp2_with fail
    go_ret
    exact ⟨rfl, B6⟩
  · go_wp2_with fail
    refine (spec_WordOk _ 32 _).mono ?_
    rintro e w7 ⟨rfl, rfl⟩
    rw [HW.out]
    have HY2 : Hid (addrText Y = t) := hide (by have h := HYA.out; simpa using h)
    go_wp2_with fail
    refine (impl_AddressText Y _ HYI.out HT6.out).mono ?_
    rintro e w8 ⟨rfl, hb8⟩
    have B8 := Below.seq B6 hb8
    clear hb8 B6
    rw [HY2.out]
    go_wp2_with fail
    go_ret
    exact ⟨rfl, B8⟩
  · have hUx : U = x := HU.out rfl
    subst hUx
    go_wp2_with fail
    refine (spec_WordOk _ 32 _).mono ?_
    rintro e w7 ⟨rfl, rfl⟩
    rw [HW.out]
    go_wp2_with fail
    go_ret
    exact ⟨rfl, B6⟩
  · have hUx : U = x := HU.out rfl
    subst hUx
    go_wp2_with fail
    refine (spec_WordOk _ 32 _).mono ?_
    rintro e w7 ⟨rfl, rfl⟩
    rw [HW.out]
    have HY2 : Hid (addrText Y = t) := hide (by have h := HYA.out; simpa using h)
    go_wp2_with fail
    refine (impl_AddressText Y _ HYI.out HT6.out).mono ?_
    rintro e w8 ⟨rfl, hb8⟩
    have B8 := Below.seq B6 hb8
    clear hb8 B6
    rw [HY2.out]
    go_wp2_with fail
    go_ret
    exact ⟨rfl, B8⟩
end Go.Proofs.YtahffinjglmhhaaDoor
