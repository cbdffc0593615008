/-
  Numbers read from figures: what Number returns, and its law's walk.
-/
import Derived.Test.YtahffinjglmhhaaDoorDig
import Derived.Lib.Strings
namespace Go.Proofs.YtahffinjglmhhaaDoor
open Go.RowKit
set_option linter.unusedVariables false

/-- The value of the first k figures. -/
def dvN (s : ByteArray) : Nat → Nat
  | 0 => 0
  | k + 1 => 10 * dvN s k + (byt s k - 48).toNat
def isD (s : ByteArray) (j : Nat) : Prop := 48 ≤ byt s j ∧ byt s j ≤ 57
theorem dvN_lt (s : ByteArray) (k : Nat) (h : ∀ j, j < k → isD s j) : dvN s k < 10 ^ k := by
  induction k with
  | zero => simp [dvN]
  | succ k ih =>
    have h1 := ih (fun j hj => h j (by omega))
    obtain ⟨a, b⟩ := h k (by omega)
    rw [dvN, Nat.pow_succ]
    omega
theorem pow12 (k : Nat) (h : k ≤ 12) : 10 ^ k ≤ 1000000000000 := Nat.pow_le_pow_right (n := 10) (by decide) h
theorem byte_of (s : ByteArray) (k : Nat) (h : k < s.size) (hd : isD s k) : UInt8.ofNat (48 + (byt s k - 48).toNat) = s.data.toList.getD k 0 := by
  obtain ⟨a, b⟩ := hd
  have e : 48 + (byt s k - 48).toNat = (s.data.toList.getD k 0).toNat := by unfold byt at a b ⊢; omega
  rw [e]; simp
theorem take_one_more (s : ByteArray) (k : Nat) (h : k < s.size) : s.data.toList.take (k + 1) = s.data.toList.take k ++ [s.data.toList.getD k 0] := by
  have h' : k < s.data.toList.length := by rw [← Lib.size_eq]; exact h
  rw [List.take_succ_eq_append_getElem h', List.getD_eq_getElem?_getD, List.getElem?_eq_getElem h', Option.getD_some]
theorem dvN_pos (s : ByteArray) (k : Nat) (h : 49 ≤ byt s 0) : 1 ≤ dvN s (k + 1) := by
  induction k with
  | zero => simp [dvN]; omega
  | succ k ih => rw [dvN]; omega
theorem dec_of (s : ByteArray) (k : Nat) (hk : k < s.size) (h : ∀ j, j < k + 1 → isD s j) (hz : k = 0 ∨ byt s 0 ≠ 48) : Lib.decDigits (dvN s (k + 1)) = s.data.toList.take (k + 1) := by
  induction k with
  | zero =>
    obtain ⟨a, b⟩ := h 0 (by omega)
    rw [take_one_more s 0 hk, List.take_zero, List.nil_append, ← byte_of s 0 hk (h 0 (by omega))]
    rw [Lib.decDigits, dif_pos (by simp only [dvN]; omega)]
    simp [dvN]
  | succ k ih =>
    have hb : byt s 0 ≠ 48 := by rcases hz with h | h; · omega
                                 exact h
    obtain ⟨a, b⟩ := h (k + 1) (by omega)
    obtain ⟨c, d⟩ := h 0 (by omega)
    have hp := dvN_pos s k (by omega)
    rw [take_one_more s (k + 1) hk, ← ih (by omega) (fun j hj => h j (by omega)) (.inr hb), ← byte_of s (k + 1) hk (h (k + 1) (by omega))]
    rw [show dvN s (k + 1 + 1) = 10 * dvN s (k + 1) + (byt s (k + 1) - 48).toNat from rfl, Lib.decDigits, dif_neg (by omega)]
    rw [show (10 * dvN s (k + 1) + (byt s (k + 1) - 48).toNat) / 10 = dvN s (k + 1) by omega, show (10 * dvN s (k + 1) + (byt s (k + 1) - 48).toNat) % 10 = (byt s (k + 1) - 48).toNat by omega]
theorem nD_le : ∀ (j u : Nat), 1 ≤ j → u < 10 ^ j → Lib.nDigits u ≤ j := by
  intro j
  induction j with
  | zero => intro u h; omega
  | succ j ih =>
    intro u _ hu
    by_cases h10 : u < 10
    · rw [Lib.nDigits_small h10]; omega
    · rw [Lib.nDigits_big h10]
      have h1 : 1 ≤ j := by
        rcases Nat.eq_zero_or_pos j with h | h
        · subst h; simp at hu; omega
        · exact h
      have := ih (u / 10) h1 (by rw [Nat.pow_succ] at hu; omega)
      omega
theorem dvN_zero (s : ByteArray) (k : Nat) (h0 : byt s 0 = 48) (h : ∀ j, j < k + 1 → isD s j) : dvN s (k + 1) < 10 ^ k := by
  induction k with
  | zero => simp [dvN, h0]
  | succ k ih =>
    have h1 := ih (fun j hj => h j (by omega))
    obtain ⟨a, b⟩ := h (k + 1) (by omega)
    rw [show dvN s (k + 1 + 1) = 10 * dvN s (k + 1) + (byt s (k + 1) - 48).toNat from rfl, Nat.pow_succ]
    omega
theorem dec_iff (s : ByteArray) (h1 : 1 ≤ s.size) (h : ∀ j, j < s.size → isD s j) : Lib.decDigits (dvN s s.size) = s.data.toList ↔ (s.size = 1 ∨ byt s 0 ≠ 48) := by
  obtain ⟨k, hk⟩ : ∃ k, s.size = k + 1 := ⟨s.size - 1, by omega⟩
  have hl : s.data.toList.length = k + 1 := by rw [← Lib.size_eq]; exact hk
  constructor
  · intro e
    by_cases h2 : k = 0
    · left; omega
    · right
      intro h0
      have hlt := dvN_zero s k h0 (fun j hj => h j (by omega))
      have hn := nD_le k (dvN s (k + 1)) (by omega) hlt
      rw [hk] at e
      have el := congrArg List.length e
      rw [Lib.decDigits_length, hl] at el
      omega
  · intro hz
    rw [hk, dec_of s k (by omega) (fun j hj => h j (by omega)) (by rcases hz with h | h; · left; omega
                                                                   exact .inr h)]
    exact List.take_of_length_le (by omega)

/-- Number's two answers. -/
def numOk (s : ByteArray) : Bool := decide (1 ≤ s.size ∧ s.size ≤ 12 ∧ (s.size = 1 ∨ byt s 0 ≠ 48) ∧ ∀ j, j < s.size → (48 ≤ byt s j ∧ byt s j ≤ 57))
def numV (s : ByteArray) : Int := if numOk s then (dvN s s.size : Int) else 0
theorem numOk_iff (s : ByteArray) : numOk s = true ↔ (1 ≤ s.size ∧ s.size ≤ 12 ∧ (s.size = 1 ∨ byt s 0 ≠ 48) ∧ ∀ j, j < s.size → (48 ≤ byt s j ∧ byt s j ≤ 57)) := by simp [numOk]
theorem num_no (s : ByteArray) (h : ¬(1 ≤ s.size ∧ s.size ≤ 12 ∧ (s.size = 1 ∨ byt s 0 ≠ 48) ∧ ∀ j, j < s.size → (48 ≤ byt s j ∧ byt s j ≤ 57))) : numOk s = false ∧ numV s = 0 := by
  have e : numOk s = false := by
    cases k : numOk s
    · rfl
    · exact absurd ((numOk_iff s).1 k) h
  exact ⟨e, by rw [numV, e]; rfl⟩
theorem num_yes (s : ByteArray) (h : 1 ≤ s.size ∧ s.size ≤ 12 ∧ (s.size = 1 ∨ byt s 0 ≠ 48) ∧ ∀ j, j < s.size → (48 ≤ byt s j ∧ byt s j ≤ 57)) : numOk s = true ∧ numV s = dvN s s.size := by
  have e := (numOk_iff s).2 h
  exact ⟨e, by rw [numV, e]; rfl⟩
theorem impl_Number_in (s : ByteArray) (w : World) (h1 : 1 ≤ s.size) (h12 : s.size ≤ 12) (hz : s.size = 1 ∨ byt s 0 ≠ 48) :
    Calls Tryd.prog 7 #[.string s] w fun e w' => e = .returned (.tuple #[.int .i64 (numV s), .bool (numOk s)]) ∧ w = w' := by
  have Hz := hide hz
  have hp0 : 0 < s.size := by omega
  have hb0 := hide (byt_at s 0 hp0)
  have gz : s.size ≤ 1 ∨ (1 < s.size ∧ (((s[0].toNat : Nat) : Int) == 48) = false) := by
    by_cases h1 : s.size ≤ 1
    · exact .inl h1
    · right
      refine ⟨by omega, ?_⟩
      rw [hb0.out]
      rcases hz with h | h
      · omega
      · simpa using h
  clear hz
  rcases gz with gz | ⟨gz, gz2⟩
  all_goals
    go_enter Tryd.func7, Tryd.ntmps7
    go_wp2
    go_loop [4, 5] (fun v i => ∃ k : Nat, (k : Int) ≤ s.size ∧ i = .int .i64 k ∧ v = .int .i64 (dvN s k) ∧ Hid (∀ j, j < k → isD s j) ∧ (dvN s k : Int) ≤ 1000000000000) (fun _ i => ((s.size : Int) - intOf i).toNat)
    case atStart => exact ⟨0, by omega, rfl, rfl, hide (fun j h => by omega), by simp [dvN]⟩
    case round =>
      obtain ⟨k, hk, rfl, rfl, HJ, hv⟩ := hrel
      by_cases hlt : k < s.size
      · obtain ⟨b0, b1⟩ := byt_bd s k
        have hb := hide (byt_at s k hlt)
        have hq : ((s[k].toNat : Nat) : Int) ≤ 255 := by rw [byt_at s k hlt]; exact b1
        by_cases hd : 48 ≤ byt s k ∧ byt s k ≤ 57
        · have hq1 : 48 ≤ ((s[k].toNat : Nat) : Int) := by rw [byt_at s k hlt]; exact hd.1
          have hq2 : ((s[k].toNat : Nat) : Int) ≤ 57 := by rw [byt_at s k hlt]; exact hd.2
          have HJ2 := hide (show ∀ j, j < k + 1 → isD s j from fun j h => by
            rcases Nat.lt_or_ge j k with h3 | h3
            · exact HJ.out j h3
            · rw [show j = k by omega]; exact hd)
          have hv2 : (dvN s (k + 1) : Int) ≤ 1000000000000 := by
            have := dvN_lt s (k + 1) HJ2.out
            have := pow12 (k + 1) (by omega)
            omega
          have HS := hide (show ((dvN s (k + 1) : Nat) : Int) = 10 * (dvN s k : Int) + (((s[k].toNat : Nat) : Int) - 48) by rw [hb.out, dvN]; omega)
          clear hd
          go_wp2
          go_round
          case rel => exact ⟨k + 1, by omega, by go_num, by rw [HS.out], HJ2, hv2⟩
          case measure => simp [intOf]; omega
        · have hn := num_no s (fun h => hd (h.2.2.2 k hlt))
          have Hn := hide hn
          have hq1 : ((s[k].toNat : Nat) : Int) < 48 ∨ 57 < ((s[k].toNat : Nat) : Int) := by rw [byt_at s k hlt]; omega
          clear hd hn
          rcases hq1 with hq1 | hq1
          all_goals
            go_wp2
            go_ret2
            exact ⟨by rw [Hn.out.1, Hn.out.2]; rfl, rfl⟩
      · have hn := hide (num_yes s ⟨h1, h12, Hz.out, fun j hj => HJ.out j (by omega)⟩)
        have hks : k = s.size := by omega
        subst hks
        go_wp2
        go_ret2
        exact ⟨by rw [hn.out.1, hn.out.2]; rfl, rfl⟩
theorem impl_Number (s : ByteArray) (w : World) (hs : s.size ≤ 140737488355328) :
    Calls Tryd.prog 7 #[.string s] w fun e w' => e = .returned (.tuple #[.int .i64 (numV s), .bool (numOk s)]) ∧ w = w' := by
  by_cases h1 : s.size < 1
  · have Hn := hide (num_no s (fun h => by omega))
    go_enter Tryd.func7, Tryd.ntmps7
    go_wp2
    go_ret2
    exact ⟨by rw [Hn.out.1, Hn.out.2]; rfl, rfl⟩
  by_cases h12 : 12 < s.size
  · have Hn := hide (num_no s (fun h => by omega))
    go_enter Tryd.func7, Tryd.ntmps7
    go_wp2
    go_ret2
    exact ⟨by rw [Hn.out.1, Hn.out.2]; rfl, rfl⟩
  by_cases hz : s.size = 1 ∨ byt s 0 ≠ 48
  · exact impl_Number_in s w (by omega) (by omega) hz
  · have Hn := hide (num_no s (fun h => hz h.2.2.1))
    have hp0 : 0 < s.size := by omega
    have hgt : 1 < s.size := by omega
    have hb0 : (((s[0].toNat : Nat) : Int) == 48) = true := by
      rw [byt_at s 0 hp0]
      simp only [beq_iff_eq]
      omega
    clear hz
    go_enter Tryd.func7, Tryd.ntmps7
    go_wp2
    go_ret2
    exact ⟨by rw [Hn.out.1, Hn.out.2]; rfl, rfl⟩
theorem spec_Digits_nn (N : Nat) (w : World) (h1 : (N : Int) ≤ 9223372036854775807) :
    Calls Tryd.prog 21 #[.int .i64 N] w fun e w' => e = .returned (.string ⟨(Lib.decDigits N).toArray⟩) ∧ Below w.heap.size w w' := by
  by_cases h0 : N = 0
  · subst h0
    have e : Lib.decDigits 0 = [48] := by rw [Lib.decDigits]; rfl
    rw [e]
    go_enter Tryd.func21, Tryd.ntmps21
    go_wp2
    go_ret
    exact ⟨rfl, Below.refl _ _⟩
  · exact spec_Digits_pos N w (by omega) h1
theorem str_ne_list {a b : ByteArray} (h : a ≠ b) : (a.toList == b.toList) = false := by
  rw [beq_eq_false_iff_ne]
  intro e
  rw [ByteArray.toList_eq, ByteArray.toList_eq] at e
  apply h
  cases a; cases b; simp at e; simpa using e
theorem spec_Number_in (s : ByteArray) (w : World) (h1 : 1 ≤ s.size) (h12 : s.size ≤ 12) :
    Calls Tryd.prog 10 #[.string s] w fun e w' => e = .returned (.tuple #[.int .i64 (numV s), .bool (numOk s)]) ∧ Below w.heap.size w w' := by
  go_enter Tryd.func10, Tryd.ntmps10
  go_wp2
  go_loop [4, 5] (fun v i => ∃ k : Nat, (k : Int) ≤ s.size ∧ i = .int .i64 k ∧ v = .int .i64 (dvN s k) ∧ Hid (∀ j, j < k → isD s j) ∧ (dvN s k : Int) ≤ 1000000000000) (fun _ i => ((s.size : Int) - intOf i).toNat)
  case atStart => exact ⟨0, by omega, rfl, rfl, hide (fun j h => by omega), by simp [dvN]⟩
  case round =>
    obtain ⟨k, hk, rfl, rfl, HJ, hv⟩ := hrel
    by_cases hlt : k < s.size
    · obtain ⟨b0, b1⟩ := byt_bd s k
      have hb := hide (byt_at s k hlt)
      have hq : ((s[k].toNat : Nat) : Int) ≤ 255 := by rw [byt_at s k hlt]; exact b1
      by_cases hd : 48 ≤ byt s k ∧ byt s k ≤ 57
      · have hq1 : 48 ≤ ((s[k].toNat : Nat) : Int) := by rw [byt_at s k hlt]; exact hd.1
        have hq2 : ((s[k].toNat : Nat) : Int) ≤ 57 := by rw [byt_at s k hlt]; exact hd.2
        have HJ2 := hide (show ∀ j, j < k + 1 → isD s j from fun j h => by
          rcases Nat.lt_or_ge j k with h3 | h3
          · exact HJ.out j h3
          · rw [show j = k by omega]; exact hd)
        have hv2 : (dvN s (k + 1) : Int) ≤ 1000000000000 := by
          have := dvN_lt s (k + 1) HJ2.out
          have := pow12 (k + 1) (by omega)
          omega
        have HS := hide (show ((dvN s (k + 1) : Nat) : Int) = 10 * (dvN s k : Int) + (((s[k].toNat : Nat) : Int) - 48) by rw [hb.out, dvN]; omega)
        clear hd
        go_wp2
        go_round
        case rel => exact ⟨k + 1, by omega, by go_num, by rw [HS.out], HJ2, hv2⟩
        case measure => simp [intOf]; omega
      · have hn := num_no s (fun h => hd (h.2.2.2 k hlt))
        have Hn := hide hn
        have hq1 : ((s[k].toNat : Nat) : Int) < 48 ∨ 57 < ((s[k].toNat : Nat) : Int) := by rw [byt_at s k hlt]; omega
        clear hd hn
        rcases hq1 with hq1 | hq1
        all_goals
          go_wp2
          go_ret2
          exact ⟨by rw [Hn.out.1, Hn.out.2]; rfl, Below.refl _ _⟩
    · have hks : k = s.size := by omega
      subst hks
      have hall : ∀ j, j < s.size → isD s j := HJ.out
      have hiff := dec_iff s h1 hall
      by_cases hz : s.size = 1 ∨ byt s 0 ≠ 48
      · have Hn := hide (num_yes s ⟨h1, h12, hz, hall⟩)
        have He := hide (show (⟨(Lib.decDigits (dvN s s.size)).toArray⟩ : ByteArray) = s by
          have := hiff.2 hz
          rw [this])
        clear hz hiff hall
        go_wp2_with (go_at_call 21; refine (spec_Digits_nn _ _ (by omega)).mono ?_; rintro e w1 ⟨rfl, hb1⟩; rw [He.out])
        go_ret2
        exact ⟨by rw [Hn.out.1, Hn.out.2]; rfl, (by repeat (first | with_reducible exact Below.refl _ _ | with_reducible assumption | with_reducible refine Below.al ?_ _ | with_reducible refine Below.drew ?_ | with_reducible refine Below.seq ?_ (by assumption) | (with_reducible refine Below.setCell ?_ ?_ _); rotate_left; focus (first | exact Nat.le_refl _ | (simp; done) | (simp; omega))))⟩
      · have Hn := hide (num_no s (fun h => hz h.2.2.1))
        have hne : (⟨(Lib.decDigits (dvN s s.size)).toArray⟩ : ByteArray) ≠ s := fun e => hz (hiff.1 (by
          have := congrArg (fun b : ByteArray => b.data.toList) e
          simpa using this))
        clear hz hiff hall
        generalize hT : (⟨(Lib.decDigits (dvN s s.size)).toArray⟩ : ByteArray) = T at hne
        have HT := hide hT
        have hl := str_ne_list hne
        clear hT hne
        go_wp2_with (go_at_call 21; refine (spec_Digits_nn _ _ (by omega)).mono ?_; rintro e w1 ⟨rfl, hb1⟩; rw [HT.out])
        go_ret2
        exact ⟨by rw [Hn.out.1, Hn.out.2]; rfl, (by repeat (first | with_reducible exact Below.refl _ _ | with_reducible assumption | with_reducible refine Below.al ?_ _ | with_reducible refine Below.drew ?_ | with_reducible refine Below.seq ?_ (by assumption) | (with_reducible refine Below.setCell ?_ ?_ _); rotate_left; focus (first | exact Nat.le_refl _ | (simp; done) | (simp; omega))))⟩
theorem spec_Number (s : ByteArray) (w : World) (hs : s.size ≤ 140737488355328) :
    Calls Tryd.prog 10 #[.string s] w fun e w' => e = .returned (.tuple #[.int .i64 (numV s), .bool (numOk s)]) ∧ Below w.heap.size w w' := by
  by_cases h1 : s.size < 1
  · have Hn := hide (num_no s (fun h => by omega))
    go_enter Tryd.func10, Tryd.ntmps10
    go_wp2
    go_ret2
    exact ⟨by rw [Hn.out.1, Hn.out.2]; rfl, Below.refl _ _⟩
  by_cases h12 : 12 < s.size
  · have Hn := hide (num_no s (fun h => by omega))
    go_enter Tryd.func10, Tryd.ntmps10
    go_wp2
    go_ret2
    exact ⟨by rw [Hn.out.1, Hn.out.2]; rfl, Below.refl _ _⟩
  · exact spec_Number_in s w (by omega) (by omega)
end Go.Proofs.YtahffinjglmhhaaDoor
