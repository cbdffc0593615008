/-
  The draws' numbers: of whatever size, words, words of 32 bits.
-/
import Derived.Test.YtahffinjglmhhaaDrx
namespace Go.Proofs.Ytahffinjglmhhaa
open Go.RowKit
set_option linter.unusedVariables false
theorem i64_list (L : List Int) (h : L.all (fun x => decide (-9223372036854775808 ≤ x ∧ x ≤ 9223372036854775807)) = true) : ∀ x ∈ L, I64 x := fun x hx => by
  have := List.all_eq_true.1 h x hx
  simpa [I64] using this
theorem l1Whole_any (g : Nat) (w0 w : World) (hst : St g w0 w) :
    Calls Try.prog 111 #[.pointer (some ⟨g, 0, none⟩)] w fun e w' => IntP I64 e ∧ St g w0 w' := by
  have hl := hst.2.lt
  go_enter Try.func111, Try.ntmps111
  go_wp2_with fail
  refine (l1Below_any g w0 _ 3 (by omega) hst).mono ?_
  rintro e w1 ⟨⟨x, rfl, hx0, hx1⟩, hst1⟩
  by_cases e0 : x = 0
  · subst e0
    clear hx0 hx1
    have hl1 := hst1.2.lt
    go_wp2_with fail
    refine (l1PickInt_any g _ 13 _ I64 w0 _ (hst1.alloc _) (by omega) (by simp) (by omega) (by omega) (pickLit _ _ [0, 1, -1, 9, 10, 999999999999, 1000000000000, 9223372036854775807, 4294967295, 4294967296, 65535, 65536, -9223372036854775808] I64 (i64_list _ (by decide)))).mono ?_
    rintro e w2 ⟨⟨y, rfl, hy⟩, hst2⟩
    have Hy := hide hy
    clear hy
    go_wp2_with fail
    go_ret
    exact ⟨⟨_, rfl, Hy.out⟩, hst2⟩
  by_cases e1 : x = 1
  · subst e1
    clear hx0 hx1
    go_wp2_with fail
    refine (l1Below_any g w0 _ 1000000 (by omega) hst1).mono ?_
    rintro e w2 ⟨⟨y, rfl, hy0, hy1⟩, hst2⟩
    have hy2 : y ≤ 1000000 := by omega
    clear hy1
    go_wp2_with fail
    go_ret
    exact ⟨⟨_, rfl, by unfold I64; omega⟩, hst2⟩
  · go_wp2_with fail
    refine (l1Below_any g w0 _ 20 (by omega) hst1).mono ?_
    rintro e w2 ⟨⟨y, rfl, hy0, hy1⟩, hst2⟩
    have hy2 : y ≤ 1000000 := by omega
    clear hy1
    go_wp2_with fail
    go_ret
    exact ⟨⟨_, rfl, by unfold I64; omega⟩, hst2⟩
theorem l2Word_any (g : Nat) (w0 w : World) (hst : St g w0 w) :
    Calls Try.prog 98 #[.pointer (some ⟨g, 0, none⟩)] w fun e w' => IntP I64 e ∧ St g w0 w' := by
  have hl := hst.2.lt
  go_enter Try.func98, Try.ntmps98
  go_wp2_with fail
  refine (l1Below_any g w0 _ 3 (by omega) hst).mono ?_
  rintro e w1 ⟨⟨x, rfl, hx0, hx1⟩, hst1⟩
  by_cases e0 : x = 0
  · subst e0
    clear hx0 hx1
    go_wp2_with fail
    refine (l1Whole_any g w0 _ hst1).mono ?_
    rintro e w2 ⟨⟨y, rfl, hy⟩, hst2⟩
    have Hy := hide hy
    clear hy
    go_wp2_with fail
    go_ret
    exact ⟨⟨_, rfl, Hy.out⟩, hst2⟩
  by_cases e1 : x = 1
  · subst e1
    clear hx0 hx1
    have hl1 := hst1.2.lt
    go_wp2_with fail
    refine (l1PickInt_any g _ 11 _ I64 w0 _ (hst1.alloc _) (by omega) (by simp) (by omega) (by omega) (pickLit _ _ [0, 1, 255, 256, 65535, 65536, 16777215, 4294967295, 4294967296, 281474976710655, 281474976710656] I64 (i64_list _ (by decide)))).mono ?_
    rintro e w2 ⟨⟨y, rfl, hy⟩, hst2⟩
    have Hy := hide hy
    clear hy
    go_wp2_with fail
    go_ret
    exact ⟨⟨_, rfl, Hy.out⟩, hst2⟩
  · go_wp2_with fail
    refine (l1Below_any g w0 _ 65536 (by omega) hst1).mono ?_
    rintro e w2 ⟨⟨y, rfl, hy0, hy1⟩, hst2⟩
    have hy2 : y ≤ 1000000 := by omega
    clear hy1
    go_wp2_with fail
    go_ret
    exact ⟨⟨_, rfl, by unfold I64; omega⟩, hst2⟩
theorem l2Deep_any (g : Nat) (w0 w : World) (hst : St g w0 w) :
    Calls Try.prog 109 #[.pointer (some ⟨g, 0, none⟩)] w fun e w' => IntP (fun x => 0 ≤ x ∧ x ≤ 4294967295) e ∧ St g w0 w' := by
  have hl := hst.2.lt
  go_enter Try.func109, Try.ntmps109
  go_wp2_with fail
  refine (l1Once_any g w0 _ 3 (by omega) hst).mono ?_
  rintro e w1 ⟨⟨x, rfl⟩, hst1⟩
  cases x
  · go_wp2_with fail
    go_loopw [3, 4] (fun n i wr => ∃ k : Nat, k ≤ 4 ∧ i = .int .i64 k ∧ (∃ q : Int, n = .int .i64 q ∧ 0 ≤ q ∧ q < 256 ^ k) ∧ St g w0 wr) (fun _ i _ => 4 - (intOf i).toNat)
    case atStart => exact ⟨0, by omega, rfl, ⟨0, rfl, by omega, by decide⟩, hst1⟩
    case round =>
      obtain ⟨k, hk, rfl, ⟨q, rfl, q0, q1⟩, hs⟩ := hrel
      by_cases hlt : k < 4
      · have hk4 : q < 256 ^ 3 := Int.lt_of_lt_of_le q1 (by
          have := Nat.pow_le_pow_right (n := 256) (by decide) (show k ≤ 3 by omega)
          have e2 : ((256 ^ k : Nat) : Int) = (256 : Int) ^ k := by simp
          omega)
        have hq3 : q < 16777216 := hk4
        have Q1 := hide q1
        clear q1 hk4
        go_wp2_with fail
        refine (l1Byte_any g w0 _ hs).mono ?_
        rintro e w2 ⟨⟨y, rfl, y0, y1⟩, hst2⟩
        go_wp2_with fail
        go_roundw
        case rel => exact ⟨k + 1, by omega, by go_num, ⟨_, rfl, by omega, by rw [Int.pow_succ]; have := Q1.out; omega⟩, hst2⟩
        case measure => simp [intOf]; omega
      · have hk4 : k = 4 := by omega
        subst hk4
        go_wp2_with fail
        go_ret
        exact ⟨⟨_, rfl, by omega, by have : q < 4294967296 := q1; omega⟩, hs⟩
  · have hl1 := hst1.2.lt
    go_wp2_with fail
    refine (l1PickInt_any g _ 6 _ (fun x => 0 ≤ x ∧ x ≤ 4294967295) w0 _ (hst1.alloc _) (by omega) (by simp) (by omega) (by omega) (pickLit _ _ [0, 1, 4294967295, 2147483647, 2147483648, 4294967294] _ (by decide))).mono ?_
    rintro e w2 ⟨⟨y, rfl, hy⟩, hst2⟩
    have Hy := hide hy
    clear hy
    go_wp2_with fail
    go_ret
    exact ⟨⟨_, rfl, Hy.out⟩, hst2⟩
end Go.Proofs.Ytahffinjglmhhaa
