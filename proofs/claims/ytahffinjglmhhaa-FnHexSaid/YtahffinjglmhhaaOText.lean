/-
  What OptionsText returns, and its law's walk.
-/
import Derived.Test.YtahffinjglmhhaaText
import Derived.Test.YtahffinjglmhhaaOpen
namespace Go.Proofs.Ytahffinjglmhhaa
open Go.RowKit
set_option linter.unusedVariables false

/-- The options but the stamps, in order. -/
def optR (m s : Int) (k : Bool) : ByteArray :=
  (fun r1 : ByteArray => (fun r2 : ByteArray => if k then r2 ++ ⟨#[4, 2]⟩ else r2) (if s = -1 then r1 else r1 ++ (⟨#[3, 3]⟩ ++ putWord s 1))) (if m = 0 then ⟨#[]⟩ else ⟨#[]⟩ ++ (⟨#[2, 4]⟩ ++ putWord m 2))
def optX (m s : Int) (k st : Bool) (v y : Int) : ByteArray := if st then optR m s k ++ (⟨#[8, 10]⟩ ++ putWord v 4 ++ putWord y 4) else optR m s k
def ones (j : Nat) : ByteArray := ⟨(List.replicate j 1).toArray⟩
def padd (x : ByteArray) : ByteArray := x ++ ones ((4 - x.size % 4) % 4)
def optText (m s : Int) (k st : Bool) (v y : Int) : ByteArray := if optOk m s st v y then padd (optX m s k st v y) else ⟨#[]⟩
theorem ones_step (x : ByteArray) (j : Nat) : x ++ ones j ++ ⟨#[1]⟩ = x ++ ones (j + 1) := by
  rw [ByteArray.append_assoc]
  congr 1
  unfold ones
  rw [List.replicate_succ']
  cases h : (List.replicate j (1 : UInt8)) <;> rfl
theorem ones_zero (x : ByteArray) : x ++ ones 0 = x := by
  have e : ones 0 = ByteArray.empty := rfl
  rw [e, ByteArray.append_empty]
theorem size_ones (x : ByteArray) (j : Nat) : (x ++ ones j).size = x.size + j := by
  rw [ByteArray.size_append]
  congr 1
  show (List.replicate j (1 : UInt8)).toArray.size = j
  simp
theorem size_optR (m s : Int) (k : Bool) : (optR m s k).size ≤ 18 := by
  have a := size_putWord_le m 2
  have b := size_putWord_le s 1
  have c1 : (⟨#[2, 4]⟩ : ByteArray).size = 2 := rfl
  have c2 : (⟨#[3, 3]⟩ : ByteArray).size = 2 := rfl
  have c3 : (⟨#[4, 2]⟩ : ByteArray).size = 2 := rfl
  have c4 : (⟨#[]⟩ : ByteArray).size = 0 := rfl
  unfold optR
  dsimp only
  split <;> split <;> split <;> simp only [ByteArray.size_append, c1, c2, c3, c4] <;> omega
theorem size_optX (m s : Int) (k st : Bool) (v y : Int) : (optX m s k st v y).size ≤ 32 := by
  have h := size_optR m s k
  have a := size_putWord_le v 4
  have b := size_putWord_le y 4
  have c1 : (⟨#[8, 10]⟩ : ByteArray).size = 2 := rfl
  unfold optX
  split
  · simp only [ByteArray.size_append, c1]; omega
  · omega

/-- The length of a text in a slot. -/
def strSize : Value → Nat | .string t => t.size | _ => 0
theorem optOk_s {m s : Int} {st : Bool} {v y : Int} (h : optOk m s st v y = true) : -1 ≤ s ∧ s ≤ 14 ∧ (st = false → v = 0 ∧ y = 0) := by
  simp only [optOk, Bool.and_eq_true, Bool.or_eq_true, beq_iff_eq] at h
  obtain ⟨⟨⟨⟨h1, _⟩, h2⟩, _⟩, _⟩ := h
  obtain ⟨a, b⟩ := rng_true.1 h2
  refine ⟨a, b, fun e => ?_⟩
  rcases h1 with h1 | h1
  · rw [e] at h1; cases h1
  · exact h1
theorem impl_OT_1111 (m : Int) (s : Int) (v y : Int) (w : World) (h : optOk m s true v y = true) (hm : (m != 0) = true) (hs : (s != -1) = true) (hs0 : 0 ≤ s) :
    Calls Try.prog 42 #[.agg #[.int .i64 m, .int .i64 s, .bool true, .bool true, .int .i64 v, .int .i64 y]] w fun e w' => e = .returned (.string (padd (optX m s true true v y))) ∧ Below w.heap.size w w' := by
  have H := hide h
  obtain ⟨X, HX⟩ : ∃ X, Hid (X = optX m s true true v y) := ⟨_, hide rfl⟩
  obtain ⟨R, HR⟩ : ∃ R, Hid (R = optR m s true) := ⟨_, hide rfl⟩
  rw [← HX.out]
  have zX : X.size ≤ 32 := by rw [HX.out]; exact size_optX _ _ _ _ _ _
  have zR : R.size ≤ 18 := by rw [HR.out]; exact size_optR _ _ _
  have HE := hide (show ((((⟨#[]⟩ : ByteArray) ++ (⟨#[2, 4]⟩ ++ putWord m 2)) ++ (⟨#[3, 3]⟩ ++ putWord s 1)) ++ ⟨#[4, 2]⟩) = R by rw [HR.out]; unfold optR; dsimp only; rw [if_neg (show ¬ m = 0 by simpa using hm)]; rw [if_neg (show ¬ s = -1 by simpa using hs)]; first | rfl | (simp only [ByteArray.append_assoc]; done) | (simp only [ByteArray.append_assoc]; rfl) | (simp [ByteArray.append_assoc]; done))
  have z0 := size_putWord_le m 2
  have z1 := size_putWord_le s 1
  have z2 := size_putWord_le v 4
  have z3 := size_putWord_le y 4
  have q0 : ¬9223372036854775807 < 2 + (putWord v 4).size := by omega
  have q1 : ¬9223372036854775807 < 2 + (putWord v 4).size + (putWord y 4).size := by omega
  have q2 : ¬9223372036854775807 < R.size + (2 + (putWord v 4).size + (putWord y 4).size) := by omega
  have HE2 := hide (show R ++ (⟨#[8, 10]⟩ ++ putWord v 4 ++ putWord y 4) = X by rw [HX.out, HR.out]; rfl)
  clear h
  go_enter Try.func42, Try.ntmps42
  go_wp2_with (first | (go_at_call 48; refine (impl_OptionsOk _ _ _ _ _ _ _).mono ?_; rintro e w1 ⟨rfl, hb1⟩; rw [H.out]; have hA := keepA hb1 (newA w _ _)) | (go_at_call 62; refine (impl_PutWord _ _ _).mono ?_; rintro e w1 ⟨rfl, hb1⟩; have hA := keepA hb1 (by assumption)))
  rw [HE.out]
  go_region_held3 (fun w' => ∀ o, w'.cell? ⟨w.heap.size, o, none⟩ = [Value.int .i64 m, .int .i64 s, .bool true, .bool true, .int .i64 v, .int .i64 y].toArray[o]?) (first | exact keepA (by assumption) (by assumption) | exact keepD (by assumption) | assumption)
    (first | (go_at_call 62; refine (impl_PutWord _ _ _).mono ?_; rintro e w' ⟨rfl, hb⟩))
  go_wp2_with fail
  rw [HE2.out]
  obtain ⟨W, HW⟩ : ∃ W : World, Hid (Below w.heap.size w W) := ⟨w, hide (Below.refl _ _)⟩
  go_loop [3] (fun o => ∃ (t : ByteArray) (j : Nat), o = .string t ∧ Hid (t = X ++ ones j ∧ j ≤ (4 - X.size % 4) % 4) ∧ t.size ≤ 36) (fun o => 40 - strSize o)
  case atStart => exact ⟨X, 0, rfl, hide ⟨(ones_zero X).symm, by omega⟩, by omega⟩
  case round =>
    obtain ⟨t, j, rfl, HT, ht⟩ := hrel
    have hsz := hide (show t.size = X.size + j by rw [HT.out.1, size_ones])
    by_cases h4 : t.size % 4 = 0
    · have g : ((t.size : Int) % 4 != 0) = false := by simp; omega
      have fin := hide (show t = padd X by
        have h1 := HT.out
        have h2 := hsz.out
        rw [h1.1, padd]
        congr 2
        omega)
      clear h4
      go_wp2
      go_ret
      exact ⟨by rw [← fin.out]; rfl, (by repeat (first | with_reducible exact Below.refl _ _ | with_reducible assumption | with_reducible refine Below.al ?_ _ | with_reducible refine Below.drew ?_ | with_reducible refine Below.seq ?_ (by assumption) | (with_reducible refine Below.setCell ?_ ?_ _); rotate_left; focus (first | exact Nat.le_refl _ | (simp; done) | (simp; omega))))⟩
    · have g : ((t.size : Int) % 4 != 0) = true := by simp; omega
      have HT2 := hide (show t ++ ⟨#[1]⟩ = X ++ ones (j + 1) ∧ j + 1 ≤ (4 - X.size % 4) % 4 by
        have h1 := HT.out
        have h2 := hsz.out
        exact ⟨by rw [h1.1, ones_step], by omega⟩)
      have hs2 := hide (show (t ++ ⟨#[1]⟩ : ByteArray).size = t.size + 1 by rw [ByteArray.size_append]; rfl)
      have ht2 := hide (show t.size + 1 ≤ 36 by
        have h1 := HT2.out.2
        have h2 := hsz.out
        omega)
      clear h4
      go_wp2
      go_round
      case rel => exact ⟨t ++ ⟨#[1]⟩, j + 1, rfl, HT2, by rw [hs2.out]; exact ht2.out⟩
      case measure => simp only [strSize]; rw [hs2.out]; omega
theorem impl_OT_1110 (m : Int) (s : Int) (w : World) (h : optOk m s false 0 0 = true) (hm : (m != 0) = true) (hs : (s != -1) = true) (hs0 : 0 ≤ s) :
    Calls Try.prog 42 #[.agg #[.int .i64 m, .int .i64 s, .bool true, .bool false, .int .i64 0, .int .i64 0]] w fun e w' => e = .returned (.string (padd (optX m s true false 0 0))) ∧ Below w.heap.size w w' := by
  have H := hide h
  obtain ⟨X, HX⟩ : ∃ X, Hid (X = optX m s true false 0 0) := ⟨_, hide rfl⟩
  obtain ⟨R, HR⟩ : ∃ R, Hid (R = optR m s true) := ⟨_, hide rfl⟩
  rw [← HX.out]
  have zX : X.size ≤ 32 := by rw [HX.out]; exact size_optX _ _ _ _ _ _
  have zR : R.size ≤ 18 := by rw [HR.out]; exact size_optR _ _ _
  have HE := hide (show ((((⟨#[]⟩ : ByteArray) ++ (⟨#[2, 4]⟩ ++ putWord m 2)) ++ (⟨#[3, 3]⟩ ++ putWord s 1)) ++ ⟨#[4, 2]⟩) = R by rw [HR.out]; unfold optR; dsimp only; rw [if_neg (show ¬ m = 0 by simpa using hm)]; rw [if_neg (show ¬ s = -1 by simpa using hs)]; first | rfl | (simp only [ByteArray.append_assoc]; done) | (simp only [ByteArray.append_assoc]; rfl) | (simp [ByteArray.append_assoc]; done))
  have z0 := size_putWord_le m 2
  have z1 := size_putWord_le s 1
  have HE2 := hide (show R = X by rw [HX.out, HR.out]; rfl)
  clear h
  go_enter Try.func42, Try.ntmps42
  go_wp2_with (first | (go_at_call 48; refine (impl_OptionsOk _ _ _ _ _ _ _).mono ?_; rintro e w1 ⟨rfl, hb1⟩; rw [H.out]; have hA := keepA hb1 (newA w _ _)) | (go_at_call 62; refine (impl_PutWord _ _ _).mono ?_; rintro e w1 ⟨rfl, hb1⟩; have hA := keepA hb1 (by assumption)))
  rw [HE.out]
  rw [HE2.out]
  obtain ⟨W, HW⟩ : ∃ W : World, Hid (Below w.heap.size w W) := ⟨w, hide (Below.refl _ _)⟩
  go_loop [3] (fun o => ∃ (t : ByteArray) (j : Nat), o = .string t ∧ Hid (t = X ++ ones j ∧ j ≤ (4 - X.size % 4) % 4) ∧ t.size ≤ 36) (fun o => 40 - strSize o)
  case atStart => exact ⟨X, 0, rfl, hide ⟨(ones_zero X).symm, by omega⟩, by omega⟩
  case round =>
    obtain ⟨t, j, rfl, HT, ht⟩ := hrel
    have hsz := hide (show t.size = X.size + j by rw [HT.out.1, size_ones])
    by_cases h4 : t.size % 4 = 0
    · have g : ((t.size : Int) % 4 != 0) = false := by simp; omega
      have fin := hide (show t = padd X by
        have h1 := HT.out
        have h2 := hsz.out
        rw [h1.1, padd]
        congr 2
        omega)
      clear h4
      go_wp2
      go_ret
      exact ⟨by rw [← fin.out]; rfl, (by repeat (first | with_reducible exact Below.refl _ _ | with_reducible assumption | with_reducible refine Below.al ?_ _ | with_reducible refine Below.drew ?_ | with_reducible refine Below.seq ?_ (by assumption) | (with_reducible refine Below.setCell ?_ ?_ _); rotate_left; focus (first | exact Nat.le_refl _ | (simp; done) | (simp; omega))))⟩
    · have g : ((t.size : Int) % 4 != 0) = true := by simp; omega
      have HT2 := hide (show t ++ ⟨#[1]⟩ = X ++ ones (j + 1) ∧ j + 1 ≤ (4 - X.size % 4) % 4 by
        have h1 := HT.out
        have h2 := hsz.out
        exact ⟨by rw [h1.1, ones_step], by omega⟩)
      have hs2 := hide (show (t ++ ⟨#[1]⟩ : ByteArray).size = t.size + 1 by rw [ByteArray.size_append]; rfl)
      have ht2 := hide (show t.size + 1 ≤ 36 by
        have h1 := HT2.out.2
        have h2 := hsz.out
        omega)
      clear h4
      go_wp2
      go_round
      case rel => exact ⟨t ++ ⟨#[1]⟩, j + 1, rfl, HT2, by rw [hs2.out]; exact ht2.out⟩
      case measure => simp only [strSize]; rw [hs2.out]; omega
theorem impl_OT_1101 (m : Int) (s : Int) (v y : Int) (w : World) (h : optOk m s true v y = true) (hm : (m != 0) = true) (hs : (s != -1) = true) (hs0 : 0 ≤ s) :
    Calls Try.prog 42 #[.agg #[.int .i64 m, .int .i64 s, .bool false, .bool true, .int .i64 v, .int .i64 y]] w fun e w' => e = .returned (.string (padd (optX m s false true v y))) ∧ Below w.heap.size w w' := by
  have H := hide h
  obtain ⟨X, HX⟩ : ∃ X, Hid (X = optX m s false true v y) := ⟨_, hide rfl⟩
  obtain ⟨R, HR⟩ : ∃ R, Hid (R = optR m s false) := ⟨_, hide rfl⟩
  rw [← HX.out]
  have zX : X.size ≤ 32 := by rw [HX.out]; exact size_optX _ _ _ _ _ _
  have zR : R.size ≤ 18 := by rw [HR.out]; exact size_optR _ _ _
  have HE := hide (show (((⟨#[]⟩ : ByteArray) ++ (⟨#[2, 4]⟩ ++ putWord m 2)) ++ (⟨#[3, 3]⟩ ++ putWord s 1)) = R by rw [HR.out]; unfold optR; dsimp only; rw [if_neg (show ¬ m = 0 by simpa using hm)]; rw [if_neg (show ¬ s = -1 by simpa using hs)]; first | rfl | (simp only [ByteArray.append_assoc]; done) | (simp only [ByteArray.append_assoc]; rfl) | (simp [ByteArray.append_assoc]; done))
  have z0 := size_putWord_le m 2
  have z1 := size_putWord_le s 1
  have z2 := size_putWord_le v 4
  have z3 := size_putWord_le y 4
  have q0 : ¬9223372036854775807 < 2 + (putWord v 4).size := by omega
  have q1 : ¬9223372036854775807 < 2 + (putWord v 4).size + (putWord y 4).size := by omega
  have q2 : ¬9223372036854775807 < R.size + (2 + (putWord v 4).size + (putWord y 4).size) := by omega
  have HE2 := hide (show R ++ (⟨#[8, 10]⟩ ++ putWord v 4 ++ putWord y 4) = X by rw [HX.out, HR.out]; rfl)
  clear h
  go_enter Try.func42, Try.ntmps42
  go_wp2_with (first | (go_at_call 48; refine (impl_OptionsOk _ _ _ _ _ _ _).mono ?_; rintro e w1 ⟨rfl, hb1⟩; rw [H.out]; have hA := keepA hb1 (newA w _ _)) | (go_at_call 62; refine (impl_PutWord _ _ _).mono ?_; rintro e w1 ⟨rfl, hb1⟩; have hA := keepA hb1 (by assumption)))
  rw [HE.out]
  go_region_held3 (fun w' => ∀ o, w'.cell? ⟨w.heap.size, o, none⟩ = [Value.int .i64 m, .int .i64 s, .bool false, .bool true, .int .i64 v, .int .i64 y].toArray[o]?) (first | exact keepA (by assumption) (by assumption) | exact keepD (by assumption) | assumption)
    (first | (go_at_call 62; refine (impl_PutWord _ _ _).mono ?_; rintro e w' ⟨rfl, hb⟩))
  go_wp2_with fail
  rw [HE2.out]
  obtain ⟨W, HW⟩ : ∃ W : World, Hid (Below w.heap.size w W) := ⟨w, hide (Below.refl _ _)⟩
  go_loop [3] (fun o => ∃ (t : ByteArray) (j : Nat), o = .string t ∧ Hid (t = X ++ ones j ∧ j ≤ (4 - X.size % 4) % 4) ∧ t.size ≤ 36) (fun o => 40 - strSize o)
  case atStart => exact ⟨X, 0, rfl, hide ⟨(ones_zero X).symm, by omega⟩, by omega⟩
  case round =>
    obtain ⟨t, j, rfl, HT, ht⟩ := hrel
    have hsz := hide (show t.size = X.size + j by rw [HT.out.1, size_ones])
    by_cases h4 : t.size % 4 = 0
    · have g : ((t.size : Int) % 4 != 0) = false := by simp; omega
      have fin := hide (show t = padd X by
        have h1 := HT.out
        have h2 := hsz.out
        rw [h1.1, padd]
        congr 2
        omega)
      clear h4
      go_wp2
      go_ret
      exact ⟨by rw [← fin.out]; rfl, (by repeat (first | with_reducible exact Below.refl _ _ | with_reducible assumption | with_reducible refine Below.al ?_ _ | with_reducible refine Below.drew ?_ | with_reducible refine Below.seq ?_ (by assumption) | (with_reducible refine Below.setCell ?_ ?_ _); rotate_left; focus (first | exact Nat.le_refl _ | (simp; done) | (simp; omega))))⟩
    · have g : ((t.size : Int) % 4 != 0) = true := by simp; omega
      have HT2 := hide (show t ++ ⟨#[1]⟩ = X ++ ones (j + 1) ∧ j + 1 ≤ (4 - X.size % 4) % 4 by
        have h1 := HT.out
        have h2 := hsz.out
        exact ⟨by rw [h1.1, ones_step], by omega⟩)
      have hs2 := hide (show (t ++ ⟨#[1]⟩ : ByteArray).size = t.size + 1 by rw [ByteArray.size_append]; rfl)
      have ht2 := hide (show t.size + 1 ≤ 36 by
        have h1 := HT2.out.2
        have h2 := hsz.out
        omega)
      clear h4
      go_wp2
      go_round
      case rel => exact ⟨t ++ ⟨#[1]⟩, j + 1, rfl, HT2, by rw [hs2.out]; exact ht2.out⟩
      case measure => simp only [strSize]; rw [hs2.out]; omega
theorem impl_OT_1100 (m : Int) (s : Int) (w : World) (h : optOk m s false 0 0 = true) (hm : (m != 0) = true) (hs : (s != -1) = true) (hs0 : 0 ≤ s) :
    Calls Try.prog 42 #[.agg #[.int .i64 m, .int .i64 s, .bool false, .bool false, .int .i64 0, .int .i64 0]] w fun e w' => e = .returned (.string (padd (optX m s false false 0 0))) ∧ Below w.heap.size w w' := by
  have H := hide h
  obtain ⟨X, HX⟩ : ∃ X, Hid (X = optX m s false false 0 0) := ⟨_, hide rfl⟩
  obtain ⟨R, HR⟩ : ∃ R, Hid (R = optR m s false) := ⟨_, hide rfl⟩
  rw [← HX.out]
  have zX : X.size ≤ 32 := by rw [HX.out]; exact size_optX _ _ _ _ _ _
  have zR : R.size ≤ 18 := by rw [HR.out]; exact size_optR _ _ _
  have HE := hide (show (((⟨#[]⟩ : ByteArray) ++ (⟨#[2, 4]⟩ ++ putWord m 2)) ++ (⟨#[3, 3]⟩ ++ putWord s 1)) = R by rw [HR.out]; unfold optR; dsimp only; rw [if_neg (show ¬ m = 0 by simpa using hm)]; rw [if_neg (show ¬ s = -1 by simpa using hs)]; first | rfl | (simp only [ByteArray.append_assoc]; done) | (simp only [ByteArray.append_assoc]; rfl) | (simp [ByteArray.append_assoc]; done))
  have z0 := size_putWord_le m 2
  have z1 := size_putWord_le s 1
  have HE2 := hide (show R = X by rw [HX.out, HR.out]; rfl)
  clear h
  go_enter Try.func42, Try.ntmps42
  go_wp2_with (first | (go_at_call 48; refine (impl_OptionsOk _ _ _ _ _ _ _).mono ?_; rintro e w1 ⟨rfl, hb1⟩; rw [H.out]; have hA := keepA hb1 (newA w _ _)) | (go_at_call 62; refine (impl_PutWord _ _ _).mono ?_; rintro e w1 ⟨rfl, hb1⟩; have hA := keepA hb1 (by assumption)))
  rw [HE.out]
  rw [HE2.out]
  obtain ⟨W, HW⟩ : ∃ W : World, Hid (Below w.heap.size w W) := ⟨w, hide (Below.refl _ _)⟩
  go_loop [3] (fun o => ∃ (t : ByteArray) (j : Nat), o = .string t ∧ Hid (t = X ++ ones j ∧ j ≤ (4 - X.size % 4) % 4) ∧ t.size ≤ 36) (fun o => 40 - strSize o)
  case atStart => exact ⟨X, 0, rfl, hide ⟨(ones_zero X).symm, by omega⟩, by omega⟩
  case round =>
    obtain ⟨t, j, rfl, HT, ht⟩ := hrel
    have hsz := hide (show t.size = X.size + j by rw [HT.out.1, size_ones])
    by_cases h4 : t.size % 4 = 0
    · have g : ((t.size : Int) % 4 != 0) = false := by simp; omega
      have fin := hide (show t = padd X by
        have h1 := HT.out
        have h2 := hsz.out
        rw [h1.1, padd]
        congr 2
        omega)
      clear h4
      go_wp2
      go_ret
      exact ⟨by rw [← fin.out]; rfl, (by repeat (first | with_reducible exact Below.refl _ _ | with_reducible assumption | with_reducible refine Below.al ?_ _ | with_reducible refine Below.drew ?_ | with_reducible refine Below.seq ?_ (by assumption) | (with_reducible refine Below.setCell ?_ ?_ _); rotate_left; focus (first | exact Nat.le_refl _ | (simp; done) | (simp; omega))))⟩
    · have g : ((t.size : Int) % 4 != 0) = true := by simp; omega
      have HT2 := hide (show t ++ ⟨#[1]⟩ = X ++ ones (j + 1) ∧ j + 1 ≤ (4 - X.size % 4) % 4 by
        have h1 := HT.out
        have h2 := hsz.out
        exact ⟨by rw [h1.1, ones_step], by omega⟩)
      have hs2 := hide (show (t ++ ⟨#[1]⟩ : ByteArray).size = t.size + 1 by rw [ByteArray.size_append]; rfl)
      have ht2 := hide (show t.size + 1 ≤ 36 by
        have h1 := HT2.out.2
        have h2 := hsz.out
        omega)
      clear h4
      go_wp2
      go_round
      case rel => exact ⟨t ++ ⟨#[1]⟩, j + 1, rfl, HT2, by rw [hs2.out]; exact ht2.out⟩
      case measure => simp only [strSize]; rw [hs2.out]; omega
theorem impl_OT_1011 (m : Int) (v y : Int) (w : World) (h : optOk m (-1) true v y = true) (hm : (m != 0) = true) :
    Calls Try.prog 42 #[.agg #[.int .i64 m, .int .i64 (-1), .bool true, .bool true, .int .i64 v, .int .i64 y]] w fun e w' => e = .returned (.string (padd (optX m (-1) true true v y))) ∧ Below w.heap.size w w' := by
  have H := hide h
  obtain ⟨X, HX⟩ : ∃ X, Hid (X = optX m (-1) true true v y) := ⟨_, hide rfl⟩
  obtain ⟨R, HR⟩ : ∃ R, Hid (R = optR m (-1) true) := ⟨_, hide rfl⟩
  rw [← HX.out]
  have zX : X.size ≤ 32 := by rw [HX.out]; exact size_optX _ _ _ _ _ _
  have zR : R.size ≤ 18 := by rw [HR.out]; exact size_optR _ _ _
  have HE := hide (show (((⟨#[]⟩ : ByteArray) ++ (⟨#[2, 4]⟩ ++ putWord m 2)) ++ ⟨#[4, 2]⟩) = R by rw [HR.out]; unfold optR; dsimp only; rw [if_neg (show ¬ m = 0 by simpa using hm)]; first | rfl | (simp only [ByteArray.append_assoc]; done) | (simp only [ByteArray.append_assoc]; rfl) | (simp [ByteArray.append_assoc]; done))
  have z0 := size_putWord_le m 2
  have z2 := size_putWord_le v 4
  have z3 := size_putWord_le y 4
  have q0 : ¬9223372036854775807 < 2 + (putWord v 4).size := by omega
  have q1 : ¬9223372036854775807 < 2 + (putWord v 4).size + (putWord y 4).size := by omega
  have q2 : ¬9223372036854775807 < R.size + (2 + (putWord v 4).size + (putWord y 4).size) := by omega
  have HE2 := hide (show R ++ (⟨#[8, 10]⟩ ++ putWord v 4 ++ putWord y 4) = X by rw [HX.out, HR.out]; rfl)
  clear h
  go_enter Try.func42, Try.ntmps42
  go_wp2_with (first | (go_at_call 48; refine (impl_OptionsOk _ _ _ _ _ _ _).mono ?_; rintro e w1 ⟨rfl, hb1⟩; rw [H.out]; have hA := keepA hb1 (newA w _ _)) | (go_at_call 62; refine (impl_PutWord _ _ _).mono ?_; rintro e w1 ⟨rfl, hb1⟩; have hA := keepA hb1 (by assumption)))
  rw [HE.out]
  go_region_held3 (fun w' => ∀ o, w'.cell? ⟨w.heap.size, o, none⟩ = [Value.int .i64 m, .int .i64 (-1), .bool true, .bool true, .int .i64 v, .int .i64 y].toArray[o]?) (first | exact keepA (by assumption) (by assumption) | exact keepD (by assumption) | assumption)
    (first | (go_at_call 62; refine (impl_PutWord _ _ _).mono ?_; rintro e w' ⟨rfl, hb⟩))
  go_wp2_with fail
  rw [HE2.out]
  obtain ⟨W, HW⟩ : ∃ W : World, Hid (Below w.heap.size w W) := ⟨w, hide (Below.refl _ _)⟩
  go_loop [3] (fun o => ∃ (t : ByteArray) (j : Nat), o = .string t ∧ Hid (t = X ++ ones j ∧ j ≤ (4 - X.size % 4) % 4) ∧ t.size ≤ 36) (fun o => 40 - strSize o)
  case atStart => exact ⟨X, 0, rfl, hide ⟨(ones_zero X).symm, by omega⟩, by omega⟩
  case round =>
    obtain ⟨t, j, rfl, HT, ht⟩ := hrel
    have hsz := hide (show t.size = X.size + j by rw [HT.out.1, size_ones])
    by_cases h4 : t.size % 4 = 0
    · have g : ((t.size : Int) % 4 != 0) = false := by simp; omega
      have fin := hide (show t = padd X by
        have h1 := HT.out
        have h2 := hsz.out
        rw [h1.1, padd]
        congr 2
        omega)
      clear h4
      go_wp2
      go_ret
      exact ⟨by rw [← fin.out]; rfl, (by repeat (first | with_reducible exact Below.refl _ _ | with_reducible assumption | with_reducible refine Below.al ?_ _ | with_reducible refine Below.drew ?_ | with_reducible refine Below.seq ?_ (by assumption) | (with_reducible refine Below.setCell ?_ ?_ _); rotate_left; focus (first | exact Nat.le_refl _ | (simp; done) | (simp; omega))))⟩
    · have g : ((t.size : Int) % 4 != 0) = true := by simp; omega
      have HT2 := hide (show t ++ ⟨#[1]⟩ = X ++ ones (j + 1) ∧ j + 1 ≤ (4 - X.size % 4) % 4 by
        have h1 := HT.out
        have h2 := hsz.out
        exact ⟨by rw [h1.1, ones_step], by omega⟩)
      have hs2 := hide (show (t ++ ⟨#[1]⟩ : ByteArray).size = t.size + 1 by rw [ByteArray.size_append]; rfl)
      have ht2 := hide (show t.size + 1 ≤ 36 by
        have h1 := HT2.out.2
        have h2 := hsz.out
        omega)
      clear h4
      go_wp2
      go_round
      case rel => exact ⟨t ++ ⟨#[1]⟩, j + 1, rfl, HT2, by rw [hs2.out]; exact ht2.out⟩
      case measure => simp only [strSize]; rw [hs2.out]; omega
theorem impl_OT_1010 (m : Int) (w : World) (h : optOk m (-1) false 0 0 = true) (hm : (m != 0) = true) :
    Calls Try.prog 42 #[.agg #[.int .i64 m, .int .i64 (-1), .bool true, .bool false, .int .i64 0, .int .i64 0]] w fun e w' => e = .returned (.string (padd (optX m (-1) true false 0 0))) ∧ Below w.heap.size w w' := by
  have H := hide h
  obtain ⟨X, HX⟩ : ∃ X, Hid (X = optX m (-1) true false 0 0) := ⟨_, hide rfl⟩
  obtain ⟨R, HR⟩ : ∃ R, Hid (R = optR m (-1) true) := ⟨_, hide rfl⟩
  rw [← HX.out]
  have zX : X.size ≤ 32 := by rw [HX.out]; exact size_optX _ _ _ _ _ _
  have zR : R.size ≤ 18 := by rw [HR.out]; exact size_optR _ _ _
  have HE := hide (show (((⟨#[]⟩ : ByteArray) ++ (⟨#[2, 4]⟩ ++ putWord m 2)) ++ ⟨#[4, 2]⟩) = R by rw [HR.out]; unfold optR; dsimp only; rw [if_neg (show ¬ m = 0 by simpa using hm)]; first | rfl | (simp only [ByteArray.append_assoc]; done) | (simp only [ByteArray.append_assoc]; rfl) | (simp [ByteArray.append_assoc]; done))
  have z0 := size_putWord_le m 2
  have HE2 := hide (show R = X by rw [HX.out, HR.out]; rfl)
  clear h
  go_enter Try.func42, Try.ntmps42
  go_wp2_with (first | (go_at_call 48; refine (impl_OptionsOk _ _ _ _ _ _ _).mono ?_; rintro e w1 ⟨rfl, hb1⟩; rw [H.out]; have hA := keepA hb1 (newA w _ _)) | (go_at_call 62; refine (impl_PutWord _ _ _).mono ?_; rintro e w1 ⟨rfl, hb1⟩; have hA := keepA hb1 (by assumption)))
  rw [HE.out]
  rw [HE2.out]
  obtain ⟨W, HW⟩ : ∃ W : World, Hid (Below w.heap.size w W) := ⟨w, hide (Below.refl _ _)⟩
  go_loop [3] (fun o => ∃ (t : ByteArray) (j : Nat), o = .string t ∧ Hid (t = X ++ ones j ∧ j ≤ (4 - X.size % 4) % 4) ∧ t.size ≤ 36) (fun o => 40 - strSize o)
  case atStart => exact ⟨X, 0, rfl, hide ⟨(ones_zero X).symm, by omega⟩, by omega⟩
  case round =>
    obtain ⟨t, j, rfl, HT, ht⟩ := hrel
    have hsz := hide (show t.size = X.size + j by rw [HT.out.1, size_ones])
    by_cases h4 : t.size % 4 = 0
    · have g : ((t.size : Int) % 4 != 0) = false := by simp; omega
      have fin := hide (show t = padd X by
        have h1 := HT.out
        have h2 := hsz.out
        rw [h1.1, padd]
        congr 2
        omega)
      clear h4
      go_wp2
      go_ret
      exact ⟨by rw [← fin.out]; rfl, (by repeat (first | with_reducible exact Below.refl _ _ | with_reducible assumption | with_reducible refine Below.al ?_ _ | with_reducible refine Below.drew ?_ | with_reducible refine Below.seq ?_ (by assumption) | (with_reducible refine Below.setCell ?_ ?_ _); rotate_left; focus (first | exact Nat.le_refl _ | (simp; done) | (simp; omega))))⟩
    · have g : ((t.size : Int) % 4 != 0) = true := by simp; omega
      have HT2 := hide (show t ++ ⟨#[1]⟩ = X ++ ones (j + 1) ∧ j + 1 ≤ (4 - X.size % 4) % 4 by
        have h1 := HT.out
        have h2 := hsz.out
        exact ⟨by rw [h1.1, ones_step], by omega⟩)
      have hs2 := hide (show (t ++ ⟨#[1]⟩ : ByteArray).size = t.size + 1 by rw [ByteArray.size_append]; rfl)
      have ht2 := hide (show t.size + 1 ≤ 36 by
        have h1 := HT2.out.2
        have h2 := hsz.out
        omega)
      clear h4
      go_wp2
      go_round
      case rel => exact ⟨t ++ ⟨#[1]⟩, j + 1, rfl, HT2, by rw [hs2.out]; exact ht2.out⟩
      case measure => simp only [strSize]; rw [hs2.out]; omega
theorem impl_OT_1001 (m : Int) (v y : Int) (w : World) (h : optOk m (-1) true v y = true) (hm : (m != 0) = true) :
    Calls Try.prog 42 #[.agg #[.int .i64 m, .int .i64 (-1), .bool false, .bool true, .int .i64 v, .int .i64 y]] w fun e w' => e = .returned (.string (padd (optX m (-1) false true v y))) ∧ Below w.heap.size w w' := by
  have H := hide h
  obtain ⟨X, HX⟩ : ∃ X, Hid (X = optX m (-1) false true v y) := ⟨_, hide rfl⟩
  obtain ⟨R, HR⟩ : ∃ R, Hid (R = optR m (-1) false) := ⟨_, hide rfl⟩
  rw [← HX.out]
  have zX : X.size ≤ 32 := by rw [HX.out]; exact size_optX _ _ _ _ _ _
  have zR : R.size ≤ 18 := by rw [HR.out]; exact size_optR _ _ _
  have HE := hide (show ((⟨#[]⟩ : ByteArray) ++ (⟨#[2, 4]⟩ ++ putWord m 2)) = R by rw [HR.out]; unfold optR; dsimp only; rw [if_neg (show ¬ m = 0 by simpa using hm)]; first | rfl | (simp only [ByteArray.append_assoc]; done) | (simp only [ByteArray.append_assoc]; rfl) | (simp [ByteArray.append_assoc]; done))
  have z0 := size_putWord_le m 2
  have z2 := size_putWord_le v 4
  have z3 := size_putWord_le y 4
  have q0 : ¬9223372036854775807 < 2 + (putWord v 4).size := by omega
  have q1 : ¬9223372036854775807 < 2 + (putWord v 4).size + (putWord y 4).size := by omega
  have q2 : ¬9223372036854775807 < R.size + (2 + (putWord v 4).size + (putWord y 4).size) := by omega
  have HE2 := hide (show R ++ (⟨#[8, 10]⟩ ++ putWord v 4 ++ putWord y 4) = X by rw [HX.out, HR.out]; rfl)
  clear h
  go_enter Try.func42, Try.ntmps42
  go_wp2_with (first | (go_at_call 48; refine (impl_OptionsOk _ _ _ _ _ _ _).mono ?_; rintro e w1 ⟨rfl, hb1⟩; rw [H.out]; have hA := keepA hb1 (newA w _ _)) | (go_at_call 62; refine (impl_PutWord _ _ _).mono ?_; rintro e w1 ⟨rfl, hb1⟩; have hA := keepA hb1 (by assumption)))
  rw [HE.out]
  go_region_held3 (fun w' => ∀ o, w'.cell? ⟨w.heap.size, o, none⟩ = [Value.int .i64 m, .int .i64 (-1), .bool false, .bool true, .int .i64 v, .int .i64 y].toArray[o]?) (first | exact keepA (by assumption) (by assumption) | exact keepD (by assumption) | assumption)
    (first | (go_at_call 62; refine (impl_PutWord _ _ _).mono ?_; rintro e w' ⟨rfl, hb⟩))
  go_wp2_with fail
  rw [HE2.out]
  obtain ⟨W, HW⟩ : ∃ W : World, Hid (Below w.heap.size w W) := ⟨w, hide (Below.refl _ _)⟩
  go_loop [3] (fun o => ∃ (t : ByteArray) (j : Nat), o = .string t ∧ Hid (t = X ++ ones j ∧ j ≤ (4 - X.size % 4) % 4) ∧ t.size ≤ 36) (fun o => 40 - strSize o)
  case atStart => exact ⟨X, 0, rfl, hide ⟨(ones_zero X).symm, by omega⟩, by omega⟩
  case round =>
    obtain ⟨t, j, rfl, HT, ht⟩ := hrel
    have hsz := hide (show t.size = X.size + j by rw [HT.out.1, size_ones])
    by_cases h4 : t.size % 4 = 0
    · have g : ((t.size : Int) % 4 != 0) = false := by simp; omega
      have fin := hide (show t = padd X by
        have h1 := HT.out
        have h2 := hsz.out
        rw [h1.1, padd]
        congr 2
        omega)
      clear h4
      go_wp2
      go_ret
      exact ⟨by rw [← fin.out]; rfl, (by repeat (first | with_reducible exact Below.refl _ _ | with_reducible assumption | with_reducible refine Below.al ?_ _ | with_reducible refine Below.drew ?_ | with_reducible refine Below.seq ?_ (by assumption) | (with_reducible refine Below.setCell ?_ ?_ _); rotate_left; focus (first | exact Nat.le_refl _ | (simp; done) | (simp; omega))))⟩
    · have g : ((t.size : Int) % 4 != 0) = true := by simp; omega
      have HT2 := hide (show t ++ ⟨#[1]⟩ = X ++ ones (j + 1) ∧ j + 1 ≤ (4 - X.size % 4) % 4 by
        have h1 := HT.out
        have h2 := hsz.out
        exact ⟨by rw [h1.1, ones_step], by omega⟩)
      have hs2 := hide (show (t ++ ⟨#[1]⟩ : ByteArray).size = t.size + 1 by rw [ByteArray.size_append]; rfl)
      have ht2 := hide (show t.size + 1 ≤ 36 by
        have h1 := HT2.out.2
        have h2 := hsz.out
        omega)
      clear h4
      go_wp2
      go_round
      case rel => exact ⟨t ++ ⟨#[1]⟩, j + 1, rfl, HT2, by rw [hs2.out]; exact ht2.out⟩
      case measure => simp only [strSize]; rw [hs2.out]; omega
theorem impl_OT_1000 (m : Int) (w : World) (h : optOk m (-1) false 0 0 = true) (hm : (m != 0) = true) :
    Calls Try.prog 42 #[.agg #[.int .i64 m, .int .i64 (-1), .bool false, .bool false, .int .i64 0, .int .i64 0]] w fun e w' => e = .returned (.string (padd (optX m (-1) false false 0 0))) ∧ Below w.heap.size w w' := by
  have H := hide h
  obtain ⟨X, HX⟩ : ∃ X, Hid (X = optX m (-1) false false 0 0) := ⟨_, hide rfl⟩
  obtain ⟨R, HR⟩ : ∃ R, Hid (R = optR m (-1) false) := ⟨_, hide rfl⟩
  rw [← HX.out]
  have zX : X.size ≤ 32 := by rw [HX.out]; exact size_optX _ _ _ _ _ _
  have zR : R.size ≤ 18 := by rw [HR.out]; exact size_optR _ _ _
  have HE := hide (show ((⟨#[]⟩ : ByteArray) ++ (⟨#[2, 4]⟩ ++ putWord m 2)) = R by rw [HR.out]; unfold optR; dsimp only; rw [if_neg (show ¬ m = 0 by simpa using hm)]; first | rfl | (simp only [ByteArray.append_assoc]; done) | (simp only [ByteArray.append_assoc]; rfl) | (simp [ByteArray.append_assoc]; done))
  have z0 := size_putWord_le m 2
  have HE2 := hide (show R = X by rw [HX.out, HR.out]; rfl)
  clear h
  go_enter Try.func42, Try.ntmps42
  go_wp2_with (first | (go_at_call 48; refine (impl_OptionsOk _ _ _ _ _ _ _).mono ?_; rintro e w1 ⟨rfl, hb1⟩; rw [H.out]; have hA := keepA hb1 (newA w _ _)) | (go_at_call 62; refine (impl_PutWord _ _ _).mono ?_; rintro e w1 ⟨rfl, hb1⟩; have hA := keepA hb1 (by assumption)))
  rw [HE.out]
  rw [HE2.out]
  obtain ⟨W, HW⟩ : ∃ W : World, Hid (Below w.heap.size w W) := ⟨w, hide (Below.refl _ _)⟩
  go_loop [3] (fun o => ∃ (t : ByteArray) (j : Nat), o = .string t ∧ Hid (t = X ++ ones j ∧ j ≤ (4 - X.size % 4) % 4) ∧ t.size ≤ 36) (fun o => 40 - strSize o)
  case atStart => exact ⟨X, 0, rfl, hide ⟨(ones_zero X).symm, by omega⟩, by omega⟩
  case round =>
    obtain ⟨t, j, rfl, HT, ht⟩ := hrel
    have hsz := hide (show t.size = X.size + j by rw [HT.out.1, size_ones])
    by_cases h4 : t.size % 4 = 0
    · have g : ((t.size : Int) % 4 != 0) = false := by simp; omega
      have fin := hide (show t = padd X by
        have h1 := HT.out
        have h2 := hsz.out
        rw [h1.1, padd]
        congr 2
        omega)
      clear h4
      go_wp2
      go_ret
      exact ⟨by rw [← fin.out]; rfl, (by repeat (first | with_reducible exact Below.refl _ _ | with_reducible assumption | with_reducible refine Below.al ?_ _ | with_reducible refine Below.drew ?_ | with_reducible refine Below.seq ?_ (by assumption) | (with_reducible refine Below.setCell ?_ ?_ _); rotate_left; focus (first | exact Nat.le_refl _ | (simp; done) | (simp; omega))))⟩
    · have g : ((t.size : Int) % 4 != 0) = true := by simp; omega
      have HT2 := hide (show t ++ ⟨#[1]⟩ = X ++ ones (j + 1) ∧ j + 1 ≤ (4 - X.size % 4) % 4 by
        have h1 := HT.out
        have h2 := hsz.out
        exact ⟨by rw [h1.1, ones_step], by omega⟩)
      have hs2 := hide (show (t ++ ⟨#[1]⟩ : ByteArray).size = t.size + 1 by rw [ByteArray.size_append]; rfl)
      have ht2 := hide (show t.size + 1 ≤ 36 by
        have h1 := HT2.out.2
        have h2 := hsz.out
        omega)
      clear h4
      go_wp2
      go_round
      case rel => exact ⟨t ++ ⟨#[1]⟩, j + 1, rfl, HT2, by rw [hs2.out]; exact ht2.out⟩
      case measure => simp only [strSize]; rw [hs2.out]; omega
theorem impl_OT_0111 (s : Int) (v y : Int) (w : World) (h : optOk 0 s true v y = true) (hs : (s != -1) = true) (hs0 : 0 ≤ s) :
    Calls Try.prog 42 #[.agg #[.int .i64 0, .int .i64 s, .bool true, .bool true, .int .i64 v, .int .i64 y]] w fun e w' => e = .returned (.string (padd (optX 0 s true true v y))) ∧ Below w.heap.size w w' := by
  have H := hide h
  obtain ⟨X, HX⟩ : ∃ X, Hid (X = optX 0 s true true v y) := ⟨_, hide rfl⟩
  obtain ⟨R, HR⟩ : ∃ R, Hid (R = optR 0 s true) := ⟨_, hide rfl⟩
  rw [← HX.out]
  have zX : X.size ≤ 32 := by rw [HX.out]; exact size_optX _ _ _ _ _ _
  have zR : R.size ≤ 18 := by rw [HR.out]; exact size_optR _ _ _
  have HE := hide (show (((⟨#[]⟩ : ByteArray) ++ (⟨#[3, 3]⟩ ++ putWord s 1)) ++ ⟨#[4, 2]⟩) = R by rw [HR.out]; unfold optR; dsimp only; rw [if_neg (show ¬ s = -1 by simpa using hs)]; first | rfl | (simp only [ByteArray.append_assoc]; done) | (simp only [ByteArray.append_assoc]; rfl) | (simp [ByteArray.append_assoc]; done))
  have z1 := size_putWord_le s 1
  have z2 := size_putWord_le v 4
  have z3 := size_putWord_le y 4
  have q0 : ¬9223372036854775807 < 2 + (putWord v 4).size := by omega
  have q1 : ¬9223372036854775807 < 2 + (putWord v 4).size + (putWord y 4).size := by omega
  have q2 : ¬9223372036854775807 < R.size + (2 + (putWord v 4).size + (putWord y 4).size) := by omega
  have HE2 := hide (show R ++ (⟨#[8, 10]⟩ ++ putWord v 4 ++ putWord y 4) = X by rw [HX.out, HR.out]; rfl)
  clear h
  go_enter Try.func42, Try.ntmps42
  go_wp2_with (first | (go_at_call 48; refine (impl_OptionsOk _ _ _ _ _ _ _).mono ?_; rintro e w1 ⟨rfl, hb1⟩; rw [H.out]; have hA := keepA hb1 (newA w _ _)) | (go_at_call 62; refine (impl_PutWord _ _ _).mono ?_; rintro e w1 ⟨rfl, hb1⟩; have hA := keepA hb1 (by assumption)))
  rw [HE.out]
  go_region_held3 (fun w' => ∀ o, w'.cell? ⟨w.heap.size, o, none⟩ = [Value.int .i64 0, .int .i64 s, .bool true, .bool true, .int .i64 v, .int .i64 y].toArray[o]?) (first | exact keepA (by assumption) (by assumption) | exact keepD (by assumption) | assumption)
    (first | (go_at_call 62; refine (impl_PutWord _ _ _).mono ?_; rintro e w' ⟨rfl, hb⟩))
  go_wp2_with fail
  rw [HE2.out]
  obtain ⟨W, HW⟩ : ∃ W : World, Hid (Below w.heap.size w W) := ⟨w, hide (Below.refl _ _)⟩
  go_loop [3] (fun o => ∃ (t : ByteArray) (j : Nat), o = .string t ∧ Hid (t = X ++ ones j ∧ j ≤ (4 - X.size % 4) % 4) ∧ t.size ≤ 36) (fun o => 40 - strSize o)
  case atStart => exact ⟨X, 0, rfl, hide ⟨(ones_zero X).symm, by omega⟩, by omega⟩
  case round =>
    obtain ⟨t, j, rfl, HT, ht⟩ := hrel
    have hsz := hide (show t.size = X.size + j by rw [HT.out.1, size_ones])
    by_cases h4 : t.size % 4 = 0
    · have g : ((t.size : Int) % 4 != 0) = false := by simp; omega
      have fin := hide (show t = padd X by
        have h1 := HT.out
        have h2 := hsz.out
        rw [h1.1, padd]
        congr 2
        omega)
      clear h4
      go_wp2
      go_ret
      exact ⟨by rw [← fin.out]; rfl, (by repeat (first | with_reducible exact Below.refl _ _ | with_reducible assumption | with_reducible refine Below.al ?_ _ | with_reducible refine Below.drew ?_ | with_reducible refine Below.seq ?_ (by assumption) | (with_reducible refine Below.setCell ?_ ?_ _); rotate_left; focus (first | exact Nat.le_refl _ | (simp; done) | (simp; omega))))⟩
    · have g : ((t.size : Int) % 4 != 0) = true := by simp; omega
      have HT2 := hide (show t ++ ⟨#[1]⟩ = X ++ ones (j + 1) ∧ j + 1 ≤ (4 - X.size % 4) % 4 by
        have h1 := HT.out
        have h2 := hsz.out
        exact ⟨by rw [h1.1, ones_step], by omega⟩)
      have hs2 := hide (show (t ++ ⟨#[1]⟩ : ByteArray).size = t.size + 1 by rw [ByteArray.size_append]; rfl)
      have ht2 := hide (show t.size + 1 ≤ 36 by
        have h1 := HT2.out.2
        have h2 := hsz.out
        omega)
      clear h4
      go_wp2
      go_round
      case rel => exact ⟨t ++ ⟨#[1]⟩, j + 1, rfl, HT2, by rw [hs2.out]; exact ht2.out⟩
      case measure => simp only [strSize]; rw [hs2.out]; omega
theorem impl_OT_0110 (s : Int) (w : World) (h : optOk 0 s false 0 0 = true) (hs : (s != -1) = true) (hs0 : 0 ≤ s) :
    Calls Try.prog 42 #[.agg #[.int .i64 0, .int .i64 s, .bool true, .bool false, .int .i64 0, .int .i64 0]] w fun e w' => e = .returned (.string (padd (optX 0 s true false 0 0))) ∧ Below w.heap.size w w' := by
  have H := hide h
  obtain ⟨X, HX⟩ : ∃ X, Hid (X = optX 0 s true false 0 0) := ⟨_, hide rfl⟩
  obtain ⟨R, HR⟩ : ∃ R, Hid (R = optR 0 s true) := ⟨_, hide rfl⟩
  rw [← HX.out]
  have zX : X.size ≤ 32 := by rw [HX.out]; exact size_optX _ _ _ _ _ _
  have zR : R.size ≤ 18 := by rw [HR.out]; exact size_optR _ _ _
  have HE := hide (show (((⟨#[]⟩ : ByteArray) ++ (⟨#[3, 3]⟩ ++ putWord s 1)) ++ ⟨#[4, 2]⟩) = R by rw [HR.out]; unfold optR; dsimp only; rw [if_neg (show ¬ s = -1 by simpa using hs)]; first | rfl | (simp only [ByteArray.append_assoc]; done) | (simp only [ByteArray.append_assoc]; rfl) | (simp [ByteArray.append_assoc]; done))
  have z1 := size_putWord_le s 1
  have HE2 := hide (show R = X by rw [HX.out, HR.out]; rfl)
  clear h
  go_enter Try.func42, Try.ntmps42
  go_wp2_with (first | (go_at_call 48; refine (impl_OptionsOk _ _ _ _ _ _ _).mono ?_; rintro e w1 ⟨rfl, hb1⟩; rw [H.out]; have hA := keepA hb1 (newA w _ _)) | (go_at_call 62; refine (impl_PutWord _ _ _).mono ?_; rintro e w1 ⟨rfl, hb1⟩; have hA := keepA hb1 (by assumption)))
  rw [HE.out]
  rw [HE2.out]
  obtain ⟨W, HW⟩ : ∃ W : World, Hid (Below w.heap.size w W) := ⟨w, hide (Below.refl _ _)⟩
  go_loop [3] (fun o => ∃ (t : ByteArray) (j : Nat), o = .string t ∧ Hid (t = X ++ ones j ∧ j ≤ (4 - X.size % 4) % 4) ∧ t.size ≤ 36) (fun o => 40 - strSize o)
  case atStart => exact ⟨X, 0, rfl, hide ⟨(ones_zero X).symm, by omega⟩, by omega⟩
  case round =>
    obtain ⟨t, j, rfl, HT, ht⟩ := hrel
    have hsz := hide (show t.size = X.size + j by rw [HT.out.1, size_ones])
    by_cases h4 : t.size % 4 = 0
    · have g : ((t.size : Int) % 4 != 0) = false := by simp; omega
      have fin := hide (show t = padd X by
        have h1 := HT.out
        have h2 := hsz.out
        rw [h1.1, padd]
        congr 2
        omega)
      clear h4
      go_wp2
      go_ret
      exact ⟨by rw [← fin.out]; rfl, (by repeat (first | with_reducible exact Below.refl _ _ | with_reducible assumption | with_reducible refine Below.al ?_ _ | with_reducible refine Below.drew ?_ | with_reducible refine Below.seq ?_ (by assumption) | (with_reducible refine Below.setCell ?_ ?_ _); rotate_left; focus (first | exact Nat.le_refl _ | (simp; done) | (simp; omega))))⟩
    · have g : ((t.size : Int) % 4 != 0) = true := by simp; omega
      have HT2 := hide (show t ++ ⟨#[1]⟩ = X ++ ones (j + 1) ∧ j + 1 ≤ (4 - X.size % 4) % 4 by
        have h1 := HT.out
        have h2 := hsz.out
        exact ⟨by rw [h1.1, ones_step], by omega⟩)
      have hs2 := hide (show (t ++ ⟨#[1]⟩ : ByteArray).size = t.size + 1 by rw [ByteArray.size_append]; rfl)
      have ht2 := hide (show t.size + 1 ≤ 36 by
        have h1 := HT2.out.2
        have h2 := hsz.out
        omega)
      clear h4
      go_wp2
      go_round
      case rel => exact ⟨t ++ ⟨#[1]⟩, j + 1, rfl, HT2, by rw [hs2.out]; exact ht2.out⟩
      case measure => simp only [strSize]; rw [hs2.out]; omega
theorem impl_OT_0101 (s : Int) (v y : Int) (w : World) (h : optOk 0 s true v y = true) (hs : (s != -1) = true) (hs0 : 0 ≤ s) :
    Calls Try.prog 42 #[.agg #[.int .i64 0, .int .i64 s, .bool false, .bool true, .int .i64 v, .int .i64 y]] w fun e w' => e = .returned (.string (padd (optX 0 s false true v y))) ∧ Below w.heap.size w w' := by
  have H := hide h
  obtain ⟨X, HX⟩ : ∃ X, Hid (X = optX 0 s false true v y) := ⟨_, hide rfl⟩
  obtain ⟨R, HR⟩ : ∃ R, Hid (R = optR 0 s false) := ⟨_, hide rfl⟩
  rw [← HX.out]
  have zX : X.size ≤ 32 := by rw [HX.out]; exact size_optX _ _ _ _ _ _
  have zR : R.size ≤ 18 := by rw [HR.out]; exact size_optR _ _ _
  have HE := hide (show ((⟨#[]⟩ : ByteArray) ++ (⟨#[3, 3]⟩ ++ putWord s 1)) = R by rw [HR.out]; unfold optR; dsimp only; rw [if_neg (show ¬ s = -1 by simpa using hs)]; first | rfl | (simp only [ByteArray.append_assoc]; done) | (simp only [ByteArray.append_assoc]; rfl) | (simp [ByteArray.append_assoc]; done))
  have z1 := size_putWord_le s 1
  have z2 := size_putWord_le v 4
  have z3 := size_putWord_le y 4
  have q0 : ¬9223372036854775807 < 2 + (putWord v 4).size := by omega
  have q1 : ¬9223372036854775807 < 2 + (putWord v 4).size + (putWord y 4).size := by omega
  have q2 : ¬9223372036854775807 < R.size + (2 + (putWord v 4).size + (putWord y 4).size) := by omega
  have HE2 := hide (show R ++ (⟨#[8, 10]⟩ ++ putWord v 4 ++ putWord y 4) = X by rw [HX.out, HR.out]; rfl)
  clear h
  go_enter Try.func42, Try.ntmps42
  go_wp2_with (first | (go_at_call 48; refine (impl_OptionsOk _ _ _ _ _ _ _).mono ?_; rintro e w1 ⟨rfl, hb1⟩; rw [H.out]; have hA := keepA hb1 (newA w _ _)) | (go_at_call 62; refine (impl_PutWord _ _ _).mono ?_; rintro e w1 ⟨rfl, hb1⟩; have hA := keepA hb1 (by assumption)))
  rw [HE.out]
  go_region_held3 (fun w' => ∀ o, w'.cell? ⟨w.heap.size, o, none⟩ = [Value.int .i64 0, .int .i64 s, .bool false, .bool true, .int .i64 v, .int .i64 y].toArray[o]?) (first | exact keepA (by assumption) (by assumption) | exact keepD (by assumption) | assumption)
    (first | (go_at_call 62; refine (impl_PutWord _ _ _).mono ?_; rintro e w' ⟨rfl, hb⟩))
  go_wp2_with fail
  rw [HE2.out]
  obtain ⟨W, HW⟩ : ∃ W : World, Hid (Below w.heap.size w W) := ⟨w, hide (Below.refl _ _)⟩
  go_loop [3] (fun o => ∃ (t : ByteArray) (j : Nat), o = .string t ∧ Hid (t = X ++ ones j ∧ j ≤ (4 - X.size % 4) % 4) ∧ t.size ≤ 36) (fun o => 40 - strSize o)
  case atStart => exact ⟨X, 0, rfl, hide ⟨(ones_zero X).symm, by omega⟩, by omega⟩
  case round =>
    obtain ⟨t, j, rfl, HT, ht⟩ := hrel
    have hsz := hide (show t.size = X.size + j by rw [HT.out.1, size_ones])
    by_cases h4 : t.size % 4 = 0
    · have g : ((t.size : Int) % 4 != 0) = false := by simp; omega
      have fin := hide (show t = padd X by
        have h1 := HT.out
        have h2 := hsz.out
        rw [h1.1, padd]
        congr 2
        omega)
      clear h4
      go_wp2
      go_ret
      exact ⟨by rw [← fin.out]; rfl, (by repeat (first | with_reducible exact Below.refl _ _ | with_reducible assumption | with_reducible refine Below.al ?_ _ | with_reducible refine Below.drew ?_ | with_reducible refine Below.seq ?_ (by assumption) | (with_reducible refine Below.setCell ?_ ?_ _); rotate_left; focus (first | exact Nat.le_refl _ | (simp; done) | (simp; omega))))⟩
    · have g : ((t.size : Int) % 4 != 0) = true := by simp; omega
      have HT2 := hide (show t ++ ⟨#[1]⟩ = X ++ ones (j + 1) ∧ j + 1 ≤ (4 - X.size % 4) % 4 by
        have h1 := HT.out
        have h2 := hsz.out
        exact ⟨by rw [h1.1, ones_step], by omega⟩)
      have hs2 := hide (show (t ++ ⟨#[1]⟩ : ByteArray).size = t.size + 1 by rw [ByteArray.size_append]; rfl)
      have ht2 := hide (show t.size + 1 ≤ 36 by
        have h1 := HT2.out.2
        have h2 := hsz.out
        omega)
      clear h4
      go_wp2
      go_round
      case rel => exact ⟨t ++ ⟨#[1]⟩, j + 1, rfl, HT2, by rw [hs2.out]; exact ht2.out⟩
      case measure => simp only [strSize]; rw [hs2.out]; omega
theorem impl_OT_0100 (s : Int) (w : World) (h : optOk 0 s false 0 0 = true) (hs : (s != -1) = true) (hs0 : 0 ≤ s) :
    Calls Try.prog 42 #[.agg #[.int .i64 0, .int .i64 s, .bool false, .bool false, .int .i64 0, .int .i64 0]] w fun e w' => e = .returned (.string (padd (optX 0 s false false 0 0))) ∧ Below w.heap.size w w' := by
  have H := hide h
  obtain ⟨X, HX⟩ : ∃ X, Hid (X = optX 0 s false false 0 0) := ⟨_, hide rfl⟩
  obtain ⟨R, HR⟩ : ∃ R, Hid (R = optR 0 s false) := ⟨_, hide rfl⟩
  rw [← HX.out]
  have zX : X.size ≤ 32 := by rw [HX.out]; exact size_optX _ _ _ _ _ _
  have zR : R.size ≤ 18 := by rw [HR.out]; exact size_optR _ _ _
  have HE := hide (show ((⟨#[]⟩ : ByteArray) ++ (⟨#[3, 3]⟩ ++ putWord s 1)) = R by rw [HR.out]; unfold optR; dsimp only; rw [if_neg (show ¬ s = -1 by simpa using hs)]; first | rfl | (simp only [ByteArray.append_assoc]; done) | (simp only [ByteArray.append_assoc]; rfl) | (simp [ByteArray.append_assoc]; done))
  have z1 := size_putWord_le s 1
  have HE2 := hide (show R = X by rw [HX.out, HR.out]; rfl)
  clear h
  go_enter Try.func42, Try.ntmps42
  go_wp2_with (first | (go_at_call 48; refine (impl_OptionsOk _ _ _ _ _ _ _).mono ?_; rintro e w1 ⟨rfl, hb1⟩; rw [H.out]; have hA := keepA hb1 (newA w _ _)) | (go_at_call 62; refine (impl_PutWord _ _ _).mono ?_; rintro e w1 ⟨rfl, hb1⟩; have hA := keepA hb1 (by assumption)))
  rw [HE.out]
  rw [HE2.out]
  obtain ⟨W, HW⟩ : ∃ W : World, Hid (Below w.heap.size w W) := ⟨w, hide (Below.refl _ _)⟩
  go_loop [3] (fun o => ∃ (t : ByteArray) (j : Nat), o = .string t ∧ Hid (t = X ++ ones j ∧ j ≤ (4 - X.size % 4) % 4) ∧ t.size ≤ 36) (fun o => 40 - strSize o)
  case atStart => exact ⟨X, 0, rfl, hide ⟨(ones_zero X).symm, by omega⟩, by omega⟩
  case round =>
    obtain ⟨t, j, rfl, HT, ht⟩ := hrel
    have hsz := hide (show t.size = X.size + j by rw [HT.out.1, size_ones])
    by_cases h4 : t.size % 4 = 0
    · have g : ((t.size : Int) % 4 != 0) = false := by simp; omega
      have fin := hide (show t = padd X by
        have h1 := HT.out
        have h2 := hsz.out
        rw [h1.1, padd]
        congr 2
        omega)
      clear h4
      go_wp2
      go_ret
      exact ⟨by rw [← fin.out]; rfl, (by repeat (first | with_reducible exact Below.refl _ _ | with_reducible assumption | with_reducible refine Below.al ?_ _ | with_reducible refine Below.drew ?_ | with_reducible refine Below.seq ?_ (by assumption) | (with_reducible refine Below.setCell ?_ ?_ _); rotate_left; focus (first | exact Nat.le_refl _ | (simp; done) | (simp; omega))))⟩
    · have g : ((t.size : Int) % 4 != 0) = true := by simp; omega
      have HT2 := hide (show t ++ ⟨#[1]⟩ = X ++ ones (j + 1) ∧ j + 1 ≤ (4 - X.size % 4) % 4 by
        have h1 := HT.out
        have h2 := hsz.out
        exact ⟨by rw [h1.1, ones_step], by omega⟩)
      have hs2 := hide (show (t ++ ⟨#[1]⟩ : ByteArray).size = t.size + 1 by rw [ByteArray.size_append]; rfl)
      have ht2 := hide (show t.size + 1 ≤ 36 by
        have h1 := HT2.out.2
        have h2 := hsz.out
        omega)
      clear h4
      go_wp2
      go_round
      case rel => exact ⟨t ++ ⟨#[1]⟩, j + 1, rfl, HT2, by rw [hs2.out]; exact ht2.out⟩
      case measure => simp only [strSize]; rw [hs2.out]; omega
theorem impl_OT_0011 (v y : Int) (w : World) (h : optOk 0 (-1) true v y = true) :
    Calls Try.prog 42 #[.agg #[.int .i64 0, .int .i64 (-1), .bool true, .bool true, .int .i64 v, .int .i64 y]] w fun e w' => e = .returned (.string (padd (optX 0 (-1) true true v y))) ∧ Below w.heap.size w w' := by
  have H := hide h
  obtain ⟨X, HX⟩ : ∃ X, Hid (X = optX 0 (-1) true true v y) := ⟨_, hide rfl⟩
  obtain ⟨R, HR⟩ : ∃ R, Hid (R = optR 0 (-1) true) := ⟨_, hide rfl⟩
  rw [← HX.out]
  have zX : X.size ≤ 32 := by rw [HX.out]; exact size_optX _ _ _ _ _ _
  have zR : R.size ≤ 18 := by rw [HR.out]; exact size_optR _ _ _
  have HE := hide (show ((⟨#[]⟩ : ByteArray) ++ ⟨#[4, 2]⟩) = R by rw [HR.out]; unfold optR; dsimp only; first | rfl | (simp only [ByteArray.append_assoc]; done) | (simp only [ByteArray.append_assoc]; rfl) | (simp [ByteArray.append_assoc]; done))
  have z2 := size_putWord_le v 4
  have z3 := size_putWord_le y 4
  have q0 : ¬9223372036854775807 < 2 + (putWord v 4).size := by omega
  have q1 : ¬9223372036854775807 < 2 + (putWord v 4).size + (putWord y 4).size := by omega
  have q2 : ¬9223372036854775807 < R.size + (2 + (putWord v 4).size + (putWord y 4).size) := by omega
  have HE2 := hide (show R ++ (⟨#[8, 10]⟩ ++ putWord v 4 ++ putWord y 4) = X by rw [HX.out, HR.out]; rfl)
  clear h
  go_enter Try.func42, Try.ntmps42
  go_wp2_with (first | (go_at_call 48; refine (impl_OptionsOk _ _ _ _ _ _ _).mono ?_; rintro e w1 ⟨rfl, hb1⟩; rw [H.out]; have hA := keepA hb1 (newA w _ _)) | (go_at_call 62; refine (impl_PutWord _ _ _).mono ?_; rintro e w1 ⟨rfl, hb1⟩; have hA := keepA hb1 (by assumption)))
  rw [HE.out]
  go_region_held3 (fun w' => ∀ o, w'.cell? ⟨w.heap.size, o, none⟩ = [Value.int .i64 0, .int .i64 (-1), .bool true, .bool true, .int .i64 v, .int .i64 y].toArray[o]?) (first | exact keepA (by assumption) (by assumption) | exact keepD (by assumption) | assumption)
    (first | (go_at_call 62; refine (impl_PutWord _ _ _).mono ?_; rintro e w' ⟨rfl, hb⟩))
  go_wp2_with fail
  rw [HE2.out]
  obtain ⟨W, HW⟩ : ∃ W : World, Hid (Below w.heap.size w W) := ⟨w, hide (Below.refl _ _)⟩
  go_loop [3] (fun o => ∃ (t : ByteArray) (j : Nat), o = .string t ∧ Hid (t = X ++ ones j ∧ j ≤ (4 - X.size % 4) % 4) ∧ t.size ≤ 36) (fun o => 40 - strSize o)
  case atStart => exact ⟨X, 0, rfl, hide ⟨(ones_zero X).symm, by omega⟩, by omega⟩
  case round =>
    obtain ⟨t, j, rfl, HT, ht⟩ := hrel
    have hsz := hide (show t.size = X.size + j by rw [HT.out.1, size_ones])
    by_cases h4 : t.size % 4 = 0
    · have g : ((t.size : Int) % 4 != 0) = false := by simp; omega
      have fin := hide (show t = padd X by
        have h1 := HT.out
        have h2 := hsz.out
        rw [h1.1, padd]
        congr 2
        omega)
      clear h4
      go_wp2
      go_ret
      exact ⟨by rw [← fin.out]; rfl, (by repeat (first | with_reducible exact Below.refl _ _ | with_reducible assumption | with_reducible refine Below.al ?_ _ | with_reducible refine Below.drew ?_ | with_reducible refine Below.seq ?_ (by assumption) | (with_reducible refine Below.setCell ?_ ?_ _); rotate_left; focus (first | exact Nat.le_refl _ | (simp; done) | (simp; omega))))⟩
    · have g : ((t.size : Int) % 4 != 0) = true := by simp; omega
      have HT2 := hide (show t ++ ⟨#[1]⟩ = X ++ ones (j + 1) ∧ j + 1 ≤ (4 - X.size % 4) % 4 by
        have h1 := HT.out
        have h2 := hsz.out
        exact ⟨by rw [h1.1, ones_step], by omega⟩)
      have hs2 := hide (show (t ++ ⟨#[1]⟩ : ByteArray).size = t.size + 1 by rw [ByteArray.size_append]; rfl)
      have ht2 := hide (show t.size + 1 ≤ 36 by
        have h1 := HT2.out.2
        have h2 := hsz.out
        omega)
      clear h4
      go_wp2
      go_round
      case rel => exact ⟨t ++ ⟨#[1]⟩, j + 1, rfl, HT2, by rw [hs2.out]; exact ht2.out⟩
      case measure => simp only [strSize]; rw [hs2.out]; omega
theorem impl_OT_0010 (w : World) (h : optOk 0 (-1) false 0 0 = true) :
    Calls Try.prog 42 #[.agg #[.int .i64 0, .int .i64 (-1), .bool true, .bool false, .int .i64 0, .int .i64 0]] w fun e w' => e = .returned (.string (padd (optX 0 (-1) true false 0 0))) ∧ Below w.heap.size w w' := by
  have H := hide h
  obtain ⟨X, HX⟩ : ∃ X, Hid (X = optX 0 (-1) true false 0 0) := ⟨_, hide rfl⟩
  obtain ⟨R, HR⟩ : ∃ R, Hid (R = optR 0 (-1) true) := ⟨_, hide rfl⟩
  rw [← HX.out]
  have zX : X.size ≤ 32 := by rw [HX.out]; exact size_optX _ _ _ _ _ _
  have zR : R.size ≤ 18 := by rw [HR.out]; exact size_optR _ _ _
  have HE := hide (show ((⟨#[]⟩ : ByteArray) ++ ⟨#[4, 2]⟩) = R by rw [HR.out]; unfold optR; dsimp only; first | rfl | (simp only [ByteArray.append_assoc]; done) | (simp only [ByteArray.append_assoc]; rfl) | (simp [ByteArray.append_assoc]; done))
  have HE2 := hide (show R = X by rw [HX.out, HR.out]; rfl)
  clear h
  go_enter Try.func42, Try.ntmps42
  go_wp2_with (first | (go_at_call 48; refine (impl_OptionsOk _ _ _ _ _ _ _).mono ?_; rintro e w1 ⟨rfl, hb1⟩; rw [H.out]; have hA := keepA hb1 (newA w _ _)) | (go_at_call 62; refine (impl_PutWord _ _ _).mono ?_; rintro e w1 ⟨rfl, hb1⟩; have hA := keepA hb1 (by assumption)))
  rw [HE.out]
  rw [HE2.out]
  obtain ⟨W, HW⟩ : ∃ W : World, Hid (Below w.heap.size w W) := ⟨w, hide (Below.refl _ _)⟩
  go_loop [3] (fun o => ∃ (t : ByteArray) (j : Nat), o = .string t ∧ Hid (t = X ++ ones j ∧ j ≤ (4 - X.size % 4) % 4) ∧ t.size ≤ 36) (fun o => 40 - strSize o)
  case atStart => exact ⟨X, 0, rfl, hide ⟨(ones_zero X).symm, by omega⟩, by omega⟩
  case round =>
    obtain ⟨t, j, rfl, HT, ht⟩ := hrel
    have hsz := hide (show t.size = X.size + j by rw [HT.out.1, size_ones])
    by_cases h4 : t.size % 4 = 0
    · have g : ((t.size : Int) % 4 != 0) = false := by simp; omega
      have fin := hide (show t = padd X by
        have h1 := HT.out
        have h2 := hsz.out
        rw [h1.1, padd]
        congr 2
        omega)
      clear h4
      go_wp2
      go_ret
      exact ⟨by rw [← fin.out]; rfl, (by repeat (first | with_reducible exact Below.refl _ _ | with_reducible assumption | with_reducible refine Below.al ?_ _ | with_reducible refine Below.drew ?_ | with_reducible refine Below.seq ?_ (by assumption) | (with_reducible refine Below.setCell ?_ ?_ _); rotate_left; focus (first | exact Nat.le_refl _ | (simp; done) | (simp; omega))))⟩
    · have g : ((t.size : Int) % 4 != 0) = true := by simp; omega
      have HT2 := hide (show t ++ ⟨#[1]⟩ = X ++ ones (j + 1) ∧ j + 1 ≤ (4 - X.size % 4) % 4 by
        have h1 := HT.out
        have h2 := hsz.out
        exact ⟨by rw [h1.1, ones_step], by omega⟩)
      have hs2 := hide (show (t ++ ⟨#[1]⟩ : ByteArray).size = t.size + 1 by rw [ByteArray.size_append]; rfl)
      have ht2 := hide (show t.size + 1 ≤ 36 by
        have h1 := HT2.out.2
        have h2 := hsz.out
        omega)
      clear h4
      go_wp2
      go_round
      case rel => exact ⟨t ++ ⟨#[1]⟩, j + 1, rfl, HT2, by rw [hs2.out]; exact ht2.out⟩
      case measure => simp only [strSize]; rw [hs2.out]; omega
theorem impl_OT_0001 (v y : Int) (w : World) (h : optOk 0 (-1) true v y = true) :
    Calls Try.prog 42 #[.agg #[.int .i64 0, .int .i64 (-1), .bool false, .bool true, .int .i64 v, .int .i64 y]] w fun e w' => e = .returned (.string (padd (optX 0 (-1) false true v y))) ∧ Below w.heap.size w w' := by
  have H := hide h
  obtain ⟨X, HX⟩ : ∃ X, Hid (X = optX 0 (-1) false true v y) := ⟨_, hide rfl⟩
  obtain ⟨R, HR⟩ : ∃ R, Hid (R = optR 0 (-1) false) := ⟨_, hide rfl⟩
  rw [← HX.out]
  have zX : X.size ≤ 32 := by rw [HX.out]; exact size_optX _ _ _ _ _ _
  have zR : R.size ≤ 18 := by rw [HR.out]; exact size_optR _ _ _
  have HE := hide (show (⟨#[]⟩ : ByteArray) = R by rw [HR.out]; unfold optR; dsimp only; first | rfl | (simp only [ByteArray.append_assoc]; done) | (simp only [ByteArray.append_assoc]; rfl) | (simp [ByteArray.append_assoc]; done))
  have z2 := size_putWord_le v 4
  have z3 := size_putWord_le y 4
  have q0 : ¬9223372036854775807 < 2 + (putWord v 4).size := by omega
  have q1 : ¬9223372036854775807 < 2 + (putWord v 4).size + (putWord y 4).size := by omega
  have q2 : ¬9223372036854775807 < R.size + (2 + (putWord v 4).size + (putWord y 4).size) := by omega
  have HE2 := hide (show R ++ (⟨#[8, 10]⟩ ++ putWord v 4 ++ putWord y 4) = X by rw [HX.out, HR.out]; rfl)
  clear h
  go_enter Try.func42, Try.ntmps42
  go_wp2_with (first | (go_at_call 48; refine (impl_OptionsOk _ _ _ _ _ _ _).mono ?_; rintro e w1 ⟨rfl, hb1⟩; rw [H.out]; have hA := keepA hb1 (newA w _ _)) | (go_at_call 62; refine (impl_PutWord _ _ _).mono ?_; rintro e w1 ⟨rfl, hb1⟩; have hA := keepA hb1 (by assumption)))
  rw [HE.out]
  go_region_held3 (fun w' => ∀ o, w'.cell? ⟨w.heap.size, o, none⟩ = [Value.int .i64 0, .int .i64 (-1), .bool false, .bool true, .int .i64 v, .int .i64 y].toArray[o]?) (first | exact keepA (by assumption) (by assumption) | exact keepD (by assumption) | assumption)
    (first | (go_at_call 62; refine (impl_PutWord _ _ _).mono ?_; rintro e w' ⟨rfl, hb⟩))
  go_wp2_with fail
  rw [HE2.out]
  obtain ⟨W, HW⟩ : ∃ W : World, Hid (Below w.heap.size w W) := ⟨w, hide (Below.refl _ _)⟩
  go_loop [3] (fun o => ∃ (t : ByteArray) (j : Nat), o = .string t ∧ Hid (t = X ++ ones j ∧ j ≤ (4 - X.size % 4) % 4) ∧ t.size ≤ 36) (fun o => 40 - strSize o)
  case atStart => exact ⟨X, 0, rfl, hide ⟨(ones_zero X).symm, by omega⟩, by omega⟩
  case round =>
    obtain ⟨t, j, rfl, HT, ht⟩ := hrel
    have hsz := hide (show t.size = X.size + j by rw [HT.out.1, size_ones])
    by_cases h4 : t.size % 4 = 0
    · have g : ((t.size : Int) % 4 != 0) = false := by simp; omega
      have fin := hide (show t = padd X by
        have h1 := HT.out
        have h2 := hsz.out
        rw [h1.1, padd]
        congr 2
        omega)
      clear h4
      go_wp2
      go_ret
      exact ⟨by rw [← fin.out]; rfl, (by repeat (first | with_reducible exact Below.refl _ _ | with_reducible assumption | with_reducible refine Below.al ?_ _ | with_reducible refine Below.drew ?_ | with_reducible refine Below.seq ?_ (by assumption) | (with_reducible refine Below.setCell ?_ ?_ _); rotate_left; focus (first | exact Nat.le_refl _ | (simp; done) | (simp; omega))))⟩
    · have g : ((t.size : Int) % 4 != 0) = true := by simp; omega
      have HT2 := hide (show t ++ ⟨#[1]⟩ = X ++ ones (j + 1) ∧ j + 1 ≤ (4 - X.size % 4) % 4 by
        have h1 := HT.out
        have h2 := hsz.out
        exact ⟨by rw [h1.1, ones_step], by omega⟩)
      have hs2 := hide (show (t ++ ⟨#[1]⟩ : ByteArray).size = t.size + 1 by rw [ByteArray.size_append]; rfl)
      have ht2 := hide (show t.size + 1 ≤ 36 by
        have h1 := HT2.out.2
        have h2 := hsz.out
        omega)
      clear h4
      go_wp2
      go_round
      case rel => exact ⟨t ++ ⟨#[1]⟩, j + 1, rfl, HT2, by rw [hs2.out]; exact ht2.out⟩
      case measure => simp only [strSize]; rw [hs2.out]; omega
theorem impl_OT_0000 (w : World) (h : optOk 0 (-1) false 0 0 = true) :
    Calls Try.prog 42 #[.agg #[.int .i64 0, .int .i64 (-1), .bool false, .bool false, .int .i64 0, .int .i64 0]] w fun e w' => e = .returned (.string (padd (optX 0 (-1) false false 0 0))) ∧ Below w.heap.size w w' := by
  have H := hide h
  obtain ⟨X, HX⟩ : ∃ X, Hid (X = optX 0 (-1) false false 0 0) := ⟨_, hide rfl⟩
  obtain ⟨R, HR⟩ : ∃ R, Hid (R = optR 0 (-1) false) := ⟨_, hide rfl⟩
  rw [← HX.out]
  have zX : X.size ≤ 32 := by rw [HX.out]; exact size_optX _ _ _ _ _ _
  have zR : R.size ≤ 18 := by rw [HR.out]; exact size_optR _ _ _
  have HE := hide (show (⟨#[]⟩ : ByteArray) = R by rw [HR.out]; unfold optR; dsimp only; first | rfl | (simp only [ByteArray.append_assoc]; done) | (simp only [ByteArray.append_assoc]; rfl) | (simp [ByteArray.append_assoc]; done))
  have HE2 := hide (show R = X by rw [HX.out, HR.out]; rfl)
  clear h
  go_enter Try.func42, Try.ntmps42
  go_wp2_with (first | (go_at_call 48; refine (impl_OptionsOk _ _ _ _ _ _ _).mono ?_; rintro e w1 ⟨rfl, hb1⟩; rw [H.out]; have hA := keepA hb1 (newA w _ _)) | (go_at_call 62; refine (impl_PutWord _ _ _).mono ?_; rintro e w1 ⟨rfl, hb1⟩; have hA := keepA hb1 (by assumption)))
  rw [HE.out]
  rw [HE2.out]
  obtain ⟨W, HW⟩ : ∃ W : World, Hid (Below w.heap.size w W) := ⟨w, hide (Below.refl _ _)⟩
  go_loop [3] (fun o => ∃ (t : ByteArray) (j : Nat), o = .string t ∧ Hid (t = X ++ ones j ∧ j ≤ (4 - X.size % 4) % 4) ∧ t.size ≤ 36) (fun o => 40 - strSize o)
  case atStart => exact ⟨X, 0, rfl, hide ⟨(ones_zero X).symm, by omega⟩, by omega⟩
  case round =>
    obtain ⟨t, j, rfl, HT, ht⟩ := hrel
    have hsz := hide (show t.size = X.size + j by rw [HT.out.1, size_ones])
    by_cases h4 : t.size % 4 = 0
    · have g : ((t.size : Int) % 4 != 0) = false := by simp; omega
      have fin := hide (show t = padd X by
        have h1 := HT.out
        have h2 := hsz.out
        rw [h1.1, padd]
        congr 2
        omega)
      clear h4
      go_wp2
      go_ret
      exact ⟨by rw [← fin.out]; rfl, (by repeat (first | with_reducible exact Below.refl _ _ | with_reducible assumption | with_reducible refine Below.al ?_ _ | with_reducible refine Below.drew ?_ | with_reducible refine Below.seq ?_ (by assumption) | (with_reducible refine Below.setCell ?_ ?_ _); rotate_left; focus (first | exact Nat.le_refl _ | (simp; done) | (simp; omega))))⟩
    · have g : ((t.size : Int) % 4 != 0) = true := by simp; omega
      have HT2 := hide (show t ++ ⟨#[1]⟩ = X ++ ones (j + 1) ∧ j + 1 ≤ (4 - X.size % 4) % 4 by
        have h1 := HT.out
        have h2 := hsz.out
        exact ⟨by rw [h1.1, ones_step], by omega⟩)
      have hs2 := hide (show (t ++ ⟨#[1]⟩ : ByteArray).size = t.size + 1 by rw [ByteArray.size_append]; rfl)
      have ht2 := hide (show t.size + 1 ≤ 36 by
        have h1 := HT2.out.2
        have h2 := hsz.out
        omega)
      clear h4
      go_wp2
      go_round
      case rel => exact ⟨t ++ ⟨#[1]⟩, j + 1, rfl, HT2, by rw [hs2.out]; exact ht2.out⟩
      case measure => simp only [strSize]; rw [hs2.out]; omega
theorem impl_OptionsText (m s : Int) (k st : Bool) (v y : Int) (w : World) :
    Calls Try.prog 42 #[.agg #[.int .i64 m, .int .i64 s, .bool k, .bool st, .int .i64 v, .int .i64 y]] w fun e w' => e = .returned (.string (optText m s k st v y)) ∧ Below w.heap.size w w' := by
  cases h : optOk m s st v y
  · have e : optText m s k st v y = ⟨#[]⟩ := by rw [optText, h]; rfl
    rw [e]
    have H := hide h
    clear h e
    go_enter Try.func42, Try.ntmps42
    go_wp2_with (go_at_call 48; refine (impl_OptionsOk _ _ _ _ _ _ _).mono ?_; rintro e w1 ⟨rfl, hb1⟩; rw [H.out])
    go_ret
    exact ⟨rfl, (by repeat (first | with_reducible exact Below.refl _ _ | with_reducible assumption | with_reducible refine Below.al ?_ _ | with_reducible refine Below.drew ?_ | with_reducible refine Below.seq ?_ (by assumption) | (with_reducible refine Below.setCell ?_ ?_ _); rotate_left; focus (first | exact Nat.le_refl _ | (simp; done) | (simp; omega))))⟩
  · have e : optText m s k st v y = padd (optX m s k st v y) := by rw [optText, h]; rfl
    rw [e]
    obtain ⟨s0, s1, hvy⟩ := optOk_s h
    by_cases hm : m = 0
    · subst hm
      by_cases hs : s = -1
      · subst hs
        cases st
        · obtain ⟨rfl, rfl⟩ := hvy rfl
          cases k
          · exact impl_OT_0000 w h
          · exact impl_OT_0010 w h
        · cases k
          · exact impl_OT_0001 v y w h
          · exact impl_OT_0011 v y w h
      · have hs' : (s != -1) = true := by simpa using hs
        cases st
        · obtain ⟨rfl, rfl⟩ := hvy rfl
          cases k
          · exact impl_OT_0100 s w h hs' (by omega)
          · exact impl_OT_0110 s w h hs' (by omega)
        · cases k
          · exact impl_OT_0101 s v y w h hs' (by omega)
          · exact impl_OT_0111 s v y w h hs' (by omega)
    · have hm' : (m != 0) = true := by simpa using hm
      by_cases hs : s = -1
      · subst hs
        cases st
        · obtain ⟨rfl, rfl⟩ := hvy rfl
          cases k
          · exact impl_OT_1000 m w h hm'
          · exact impl_OT_1010 m w h hm'
        · cases k
          · exact impl_OT_1001 m v y w h hm'
          · exact impl_OT_1011 m v y w h hm'
      · have hs' : (s != -1) = true := by simpa using hs
        cases st
        · obtain ⟨rfl, rfl⟩ := hvy rfl
          cases k
          · exact impl_OT_1100 m s w h hm' hs' (by omega)
          · exact impl_OT_1110 m s w h hm' hs' (by omega)
        · cases k
          · exact impl_OT_1101 m s v y w h hm' hs' (by omega)
          · exact impl_OT_1111 m s v y w h hm' hs' (by omega)
theorem spec_OT_1111 (m : Int) (s : Int) (v y : Int) (w : World) (h : optOk m s true v y = true) (hm : (m != 0) = true) (hs : (s != -1) = true) (hs0 : 0 ≤ s) :
    Calls Try.prog 43 #[.agg #[.int .i64 m, .int .i64 s, .bool true, .bool true, .int .i64 v, .int .i64 y]] w fun e w' => e = .returned (.string (padd (optX m s true true v y))) ∧ Below w.heap.size w w' := by
  have H := hide h
  obtain ⟨X, HX⟩ : ∃ X, Hid (X = optX m s true true v y) := ⟨_, hide rfl⟩
  obtain ⟨R, HR⟩ : ∃ R, Hid (R = optR m s true) := ⟨_, hide rfl⟩
  rw [← HX.out]
  have zX : X.size ≤ 32 := by rw [HX.out]; exact size_optX _ _ _ _ _ _
  have zR : R.size ≤ 18 := by rw [HR.out]; exact size_optR _ _ _
  have HE := hide (show ((((⟨#[]⟩ : ByteArray) ++ ⟨#[2, 4]⟩ ++ putWord m 2) ++ ⟨#[3, 3]⟩ ++ putWord s 1) ++ ⟨#[4, 2]⟩) = R by rw [HR.out]; unfold optR; dsimp only; rw [if_neg (show ¬ m = 0 by simpa using hm)]; rw [if_neg (show ¬ s = -1 by simpa using hs)]; first | rfl | (simp only [ByteArray.append_assoc]; done) | (simp only [ByteArray.append_assoc]; rfl) | (simp [ByteArray.append_assoc]; done))
  have z0 := size_putWord_le m 2
  have z1 := size_putWord_le s 1
  have z2 := size_putWord_le v 4
  have z3 := size_putWord_le y 4
  have q0 : ¬9223372036854775807 < R.size + 2 := by omega
  have q1 : ¬9223372036854775807 < R.size + 2 + (putWord v 4).size := by omega
  have q2 : ¬9223372036854775807 < R.size + 2 + (putWord v 4).size + (putWord y 4).size := by omega
  have HE2 := hide (show R ++ ⟨#[8, 10]⟩ ++ putWord v 4 ++ putWord y 4 = X by rw [HX.out, HR.out]; unfold optX; rw [if_pos rfl]; simp only [ByteArray.append_assoc])
  clear h
  go_enter Try.func43, Try.ntmps43
  go_wp2_with (first | (go_at_call 47; refine (spec_OptionsOk _ _ _ _ _ _ _).mono ?_; rintro e w1 ⟨rfl, hb1⟩; rw [H.out]; have hA := keepA hb1 (newA w _ _)) | (go_at_call 75; refine (spec_PutWord _ _ _).mono ?_; rintro e w1 ⟨rfl, hb1⟩; have hA := keepA hb1 (by assumption)))
  rw [HE.out]
  go_region_held3 (fun w' => ∀ o, w'.cell? ⟨w.heap.size, o, none⟩ = [Value.int .i64 m, .int .i64 s, .bool true, .bool true, .int .i64 v, .int .i64 y].toArray[o]?) (first | exact keepA (by assumption) (by assumption) | exact keepD (by assumption) | assumption)
    (first | (go_at_call 75; refine (spec_PutWord _ _ _).mono ?_; rintro e w' ⟨rfl, hb⟩))
  go_wp2_with fail
  rw [HE2.out]
  obtain ⟨W, HW⟩ : ∃ W : World, Hid (Below w.heap.size w W) := ⟨w, hide (Below.refl _ _)⟩
  go_loop [3] (fun o => ∃ (t : ByteArray) (j : Nat), o = .string t ∧ Hid (t = X ++ ones j ∧ j ≤ (4 - X.size % 4) % 4) ∧ t.size ≤ 36) (fun o => 40 - strSize o)
  case atStart => exact ⟨X, 0, rfl, hide ⟨(ones_zero X).symm, by omega⟩, by omega⟩
  case round =>
    obtain ⟨t, j, rfl, HT, ht⟩ := hrel
    have hsz := hide (show t.size = X.size + j by rw [HT.out.1, size_ones])
    by_cases h4 : t.size % 4 = 0
    · have g : ((t.size : Int) % 4 != 0) = false := by simp; omega
      have fin := hide (show t = padd X by
        have h1 := HT.out
        have h2 := hsz.out
        rw [h1.1, padd]
        congr 2
        omega)
      clear h4
      go_wp2
      go_ret
      exact ⟨by rw [← fin.out]; rfl, (by repeat (first | with_reducible exact Below.refl _ _ | with_reducible assumption | with_reducible refine Below.al ?_ _ | with_reducible refine Below.drew ?_ | with_reducible refine Below.seq ?_ (by assumption) | (with_reducible refine Below.setCell ?_ ?_ _); rotate_left; focus (first | exact Nat.le_refl _ | (simp; done) | (simp; omega))))⟩
    · have g : ((t.size : Int) % 4 != 0) = true := by simp; omega
      have HT2 := hide (show t ++ ⟨#[1]⟩ = X ++ ones (j + 1) ∧ j + 1 ≤ (4 - X.size % 4) % 4 by
        have h1 := HT.out
        have h2 := hsz.out
        exact ⟨by rw [h1.1, ones_step], by omega⟩)
      have hs2 := hide (show (t ++ ⟨#[1]⟩ : ByteArray).size = t.size + 1 by rw [ByteArray.size_append]; rfl)
      have ht2 := hide (show t.size + 1 ≤ 36 by
        have h1 := HT2.out.2
        have h2 := hsz.out
        omega)
      clear h4
      go_wp2
      go_round
      case rel => exact ⟨t ++ ⟨#[1]⟩, j + 1, rfl, HT2, by rw [hs2.out]; exact ht2.out⟩
      case measure => simp only [strSize]; rw [hs2.out]; omega
theorem spec_OT_1110 (m : Int) (s : Int) (w : World) (h : optOk m s false 0 0 = true) (hm : (m != 0) = true) (hs : (s != -1) = true) (hs0 : 0 ≤ s) :
    Calls Try.prog 43 #[.agg #[.int .i64 m, .int .i64 s, .bool true, .bool false, .int .i64 0, .int .i64 0]] w fun e w' => e = .returned (.string (padd (optX m s true false 0 0))) ∧ Below w.heap.size w w' := by
  have H := hide h
  obtain ⟨X, HX⟩ : ∃ X, Hid (X = optX m s true false 0 0) := ⟨_, hide rfl⟩
  obtain ⟨R, HR⟩ : ∃ R, Hid (R = optR m s true) := ⟨_, hide rfl⟩
  rw [← HX.out]
  have zX : X.size ≤ 32 := by rw [HX.out]; exact size_optX _ _ _ _ _ _
  have zR : R.size ≤ 18 := by rw [HR.out]; exact size_optR _ _ _
  have HE := hide (show ((((⟨#[]⟩ : ByteArray) ++ ⟨#[2, 4]⟩ ++ putWord m 2) ++ ⟨#[3, 3]⟩ ++ putWord s 1) ++ ⟨#[4, 2]⟩) = R by rw [HR.out]; unfold optR; dsimp only; rw [if_neg (show ¬ m = 0 by simpa using hm)]; rw [if_neg (show ¬ s = -1 by simpa using hs)]; first | rfl | (simp only [ByteArray.append_assoc]; done) | (simp only [ByteArray.append_assoc]; rfl) | (simp [ByteArray.append_assoc]; done))
  have z0 := size_putWord_le m 2
  have z1 := size_putWord_le s 1
  have HE2 := hide (show R = X by rw [HX.out, HR.out]; rfl)
  clear h
  go_enter Try.func43, Try.ntmps43
  go_wp2_with (first | (go_at_call 47; refine (spec_OptionsOk _ _ _ _ _ _ _).mono ?_; rintro e w1 ⟨rfl, hb1⟩; rw [H.out]; have hA := keepA hb1 (newA w _ _)) | (go_at_call 75; refine (spec_PutWord _ _ _).mono ?_; rintro e w1 ⟨rfl, hb1⟩; have hA := keepA hb1 (by assumption)))
  rw [HE.out]
  rw [HE2.out]
  obtain ⟨W, HW⟩ : ∃ W : World, Hid (Below w.heap.size w W) := ⟨w, hide (Below.refl _ _)⟩
  go_loop [3] (fun o => ∃ (t : ByteArray) (j : Nat), o = .string t ∧ Hid (t = X ++ ones j ∧ j ≤ (4 - X.size % 4) % 4) ∧ t.size ≤ 36) (fun o => 40 - strSize o)
  case atStart => exact ⟨X, 0, rfl, hide ⟨(ones_zero X).symm, by omega⟩, by omega⟩
  case round =>
    obtain ⟨t, j, rfl, HT, ht⟩ := hrel
    have hsz := hide (show t.size = X.size + j by rw [HT.out.1, size_ones])
    by_cases h4 : t.size % 4 = 0
    · have g : ((t.size : Int) % 4 != 0) = false := by simp; omega
      have fin := hide (show t = padd X by
        have h1 := HT.out
        have h2 := hsz.out
        rw [h1.1, padd]
        congr 2
        omega)
      clear h4
      go_wp2
      go_ret
      exact ⟨by rw [← fin.out]; rfl, (by repeat (first | with_reducible exact Below.refl _ _ | with_reducible assumption | with_reducible refine Below.al ?_ _ | with_reducible refine Below.drew ?_ | with_reducible refine Below.seq ?_ (by assumption) | (with_reducible refine Below.setCell ?_ ?_ _); rotate_left; focus (first | exact Nat.le_refl _ | (simp; done) | (simp; omega))))⟩
    · have g : ((t.size : Int) % 4 != 0) = true := by simp; omega
      have HT2 := hide (show t ++ ⟨#[1]⟩ = X ++ ones (j + 1) ∧ j + 1 ≤ (4 - X.size % 4) % 4 by
        have h1 := HT.out
        have h2 := hsz.out
        exact ⟨by rw [h1.1, ones_step], by omega⟩)
      have hs2 := hide (show (t ++ ⟨#[1]⟩ : ByteArray).size = t.size + 1 by rw [ByteArray.size_append]; rfl)
      have ht2 := hide (show t.size + 1 ≤ 36 by
        have h1 := HT2.out.2
        have h2 := hsz.out
        omega)
      clear h4
      go_wp2
      go_round
      case rel => exact ⟨t ++ ⟨#[1]⟩, j + 1, rfl, HT2, by rw [hs2.out]; exact ht2.out⟩
      case measure => simp only [strSize]; rw [hs2.out]; omega
theorem spec_OT_1101 (m : Int) (s : Int) (v y : Int) (w : World) (h : optOk m s true v y = true) (hm : (m != 0) = true) (hs : (s != -1) = true) (hs0 : 0 ≤ s) :
    Calls Try.prog 43 #[.agg #[.int .i64 m, .int .i64 s, .bool false, .bool true, .int .i64 v, .int .i64 y]] w fun e w' => e = .returned (.string (padd (optX m s false true v y))) ∧ Below w.heap.size w w' := by
  have H := hide h
  obtain ⟨X, HX⟩ : ∃ X, Hid (X = optX m s false true v y) := ⟨_, hide rfl⟩
  obtain ⟨R, HR⟩ : ∃ R, Hid (R = optR m s false) := ⟨_, hide rfl⟩
  rw [← HX.out]
  have zX : X.size ≤ 32 := by rw [HX.out]; exact size_optX _ _ _ _ _ _
  have zR : R.size ≤ 18 := by rw [HR.out]; exact size_optR _ _ _
  have HE := hide (show (((⟨#[]⟩ : ByteArray) ++ ⟨#[2, 4]⟩ ++ putWord m 2) ++ ⟨#[3, 3]⟩ ++ putWord s 1) = R by rw [HR.out]; unfold optR; dsimp only; rw [if_neg (show ¬ m = 0 by simpa using hm)]; rw [if_neg (show ¬ s = -1 by simpa using hs)]; first | rfl | (simp only [ByteArray.append_assoc]; done) | (simp only [ByteArray.append_assoc]; rfl) | (simp [ByteArray.append_assoc]; done))
  have z0 := size_putWord_le m 2
  have z1 := size_putWord_le s 1
  have z2 := size_putWord_le v 4
  have z3 := size_putWord_le y 4
  have q0 : ¬9223372036854775807 < R.size + 2 := by omega
  have q1 : ¬9223372036854775807 < R.size + 2 + (putWord v 4).size := by omega
  have q2 : ¬9223372036854775807 < R.size + 2 + (putWord v 4).size + (putWord y 4).size := by omega
  have HE2 := hide (show R ++ ⟨#[8, 10]⟩ ++ putWord v 4 ++ putWord y 4 = X by rw [HX.out, HR.out]; unfold optX; rw [if_pos rfl]; simp only [ByteArray.append_assoc])
  clear h
  go_enter Try.func43, Try.ntmps43
  go_wp2_with (first | (go_at_call 47; refine (spec_OptionsOk _ _ _ _ _ _ _).mono ?_; rintro e w1 ⟨rfl, hb1⟩; rw [H.out]; have hA := keepA hb1 (newA w _ _)) | (go_at_call 75; refine (spec_PutWord _ _ _).mono ?_; rintro e w1 ⟨rfl, hb1⟩; have hA := keepA hb1 (by assumption)))
  rw [HE.out]
  go_region_held3 (fun w' => ∀ o, w'.cell? ⟨w.heap.size, o, none⟩ = [Value.int .i64 m, .int .i64 s, .bool false, .bool true, .int .i64 v, .int .i64 y].toArray[o]?) (first | exact keepA (by assumption) (by assumption) | exact keepD (by assumption) | assumption)
    (first | (go_at_call 75; refine (spec_PutWord _ _ _).mono ?_; rintro e w' ⟨rfl, hb⟩))
  go_wp2_with fail
  rw [HE2.out]
  obtain ⟨W, HW⟩ : ∃ W : World, Hid (Below w.heap.size w W) := ⟨w, hide (Below.refl _ _)⟩
  go_loop [3] (fun o => ∃ (t : ByteArray) (j : Nat), o = .string t ∧ Hid (t = X ++ ones j ∧ j ≤ (4 - X.size % 4) % 4) ∧ t.size ≤ 36) (fun o => 40 - strSize o)
  case atStart => exact ⟨X, 0, rfl, hide ⟨(ones_zero X).symm, by omega⟩, by omega⟩
  case round =>
    obtain ⟨t, j, rfl, HT, ht⟩ := hrel
    have hsz := hide (show t.size = X.size + j by rw [HT.out.1, size_ones])
    by_cases h4 : t.size % 4 = 0
    · have g : ((t.size : Int) % 4 != 0) = false := by simp; omega
      have fin := hide (show t = padd X by
        have h1 := HT.out
        have h2 := hsz.out
        rw [h1.1, padd]
        congr 2
        omega)
      clear h4
      go_wp2
      go_ret
      exact ⟨by rw [← fin.out]; rfl, (by repeat (first | with_reducible exact Below.refl _ _ | with_reducible assumption | with_reducible refine Below.al ?_ _ | with_reducible refine Below.drew ?_ | with_reducible refine Below.seq ?_ (by assumption) | (with_reducible refine Below.setCell ?_ ?_ _); rotate_left; focus (first | exact Nat.le_refl _ | (simp; done) | (simp; omega))))⟩
    · have g : ((t.size : Int) % 4 != 0) = true := by simp; omega
      have HT2 := hide (show t ++ ⟨#[1]⟩ = X ++ ones (j + 1) ∧ j + 1 ≤ (4 - X.size % 4) % 4 by
        have h1 := HT.out
        have h2 := hsz.out
        exact ⟨by rw [h1.1, ones_step], by omega⟩)
      have hs2 := hide (show (t ++ ⟨#[1]⟩ : ByteArray).size = t.size + 1 by rw [ByteArray.size_append]; rfl)
      have ht2 := hide (show t.size + 1 ≤ 36 by
        have h1 := HT2.out.2
        have h2 := hsz.out
        omega)
      clear h4
      go_wp2
      go_round
      case rel => exact ⟨t ++ ⟨#[1]⟩, j + 1, rfl, HT2, by rw [hs2.out]; exact ht2.out⟩
      case measure => simp only [strSize]; rw [hs2.out]; omega
theorem spec_OT_1100 (m : Int) (s : Int) (w : World) (h : optOk m s false 0 0 = true) (hm : (m != 0) = true) (hs : (s != -1) = true) (hs0 : 0 ≤ s) :
    Calls Try.prog 43 #[.agg #[.int .i64 m, .int .i64 s, .bool false, .bool false, .int .i64 0, .int .i64 0]] w fun e w' => e = .returned (.string (padd (optX m s false false 0 0))) ∧ Below w.heap.size w w' := by
  have H := hide h
  obtain ⟨X, HX⟩ : ∃ X, Hid (X = optX m s false false 0 0) := ⟨_, hide rfl⟩
  obtain ⟨R, HR⟩ : ∃ R, Hid (R = optR m s false) := ⟨_, hide rfl⟩
  rw [← HX.out]
  have zX : X.size ≤ 32 := by rw [HX.out]; exact size_optX _ _ _ _ _ _
  have zR : R.size ≤ 18 := by rw [HR.out]; exact size_optR _ _ _
  have HE := hide (show (((⟨#[]⟩ : ByteArray) ++ ⟨#[2, 4]⟩ ++ putWord m 2) ++ ⟨#[3, 3]⟩ ++ putWord s 1) = R by rw [HR.out]; unfold optR; dsimp only; rw [if_neg (show ¬ m = 0 by simpa using hm)]; rw [if_neg (show ¬ s = -1 by simpa using hs)]; first | rfl | (simp only [ByteArray.append_assoc]; done) | (simp only [ByteArray.append_assoc]; rfl) | (simp [ByteArray.append_assoc]; done))
  have z0 := size_putWord_le m 2
  have z1 := size_putWord_le s 1
  have HE2 := hide (show R = X by rw [HX.out, HR.out]; rfl)
  clear h
  go_enter Try.func43, Try.ntmps43
  go_wp2_with (first | (go_at_call 47; refine (spec_OptionsOk _ _ _ _ _ _ _).mono ?_; rintro e w1 ⟨rfl, hb1⟩; rw [H.out]; have hA := keepA hb1 (newA w _ _)) | (go_at_call 75; refine (spec_PutWord _ _ _).mono ?_; rintro e w1 ⟨rfl, hb1⟩; have hA := keepA hb1 (by assumption)))
  rw [HE.out]
  rw [HE2.out]
  obtain ⟨W, HW⟩ : ∃ W : World, Hid (Below w.heap.size w W) := ⟨w, hide (Below.refl _ _)⟩
  go_loop [3] (fun o => ∃ (t : ByteArray) (j : Nat), o = .string t ∧ Hid (t = X ++ ones j ∧ j ≤ (4 - X.size % 4) % 4) ∧ t.size ≤ 36) (fun o => 40 - strSize o)
  case atStart => exact ⟨X, 0, rfl, hide ⟨(ones_zero X).symm, by omega⟩, by omega⟩
  case round =>
    obtain ⟨t, j, rfl, HT, ht⟩ := hrel
    have hsz := hide (show t.size = X.size + j by rw [HT.out.1, size_ones])
    by_cases h4 : t.size % 4 = 0
    · have g : ((t.size : Int) % 4 != 0) = false := by simp; omega
      have fin := hide (show t = padd X by
        have h1 := HT.out
        have h2 := hsz.out
        rw [h1.1, padd]
        congr 2
        omega)
      clear h4
      go_wp2
      go_ret
      exact ⟨by rw [← fin.out]; rfl, (by repeat (first | with_reducible exact Below.refl _ _ | with_reducible assumption | with_reducible refine Below.al ?_ _ | with_reducible refine Below.drew ?_ | with_reducible refine Below.seq ?_ (by assumption) | (with_reducible refine Below.setCell ?_ ?_ _); rotate_left; focus (first | exact Nat.le_refl _ | (simp; done) | (simp; omega))))⟩
    · have g : ((t.size : Int) % 4 != 0) = true := by simp; omega
      have HT2 := hide (show t ++ ⟨#[1]⟩ = X ++ ones (j + 1) ∧ j + 1 ≤ (4 - X.size % 4) % 4 by
        have h1 := HT.out
        have h2 := hsz.out
        exact ⟨by rw [h1.1, ones_step], by omega⟩)
      have hs2 := hide (show (t ++ ⟨#[1]⟩ : ByteArray).size = t.size + 1 by rw [ByteArray.size_append]; rfl)
      have ht2 := hide (show t.size + 1 ≤ 36 by
        have h1 := HT2.out.2
        have h2 := hsz.out
        omega)
      clear h4
      go_wp2
      go_round
      case rel => exact ⟨t ++ ⟨#[1]⟩, j + 1, rfl, HT2, by rw [hs2.out]; exact ht2.out⟩
      case measure => simp only [strSize]; rw [hs2.out]; omega
theorem spec_OT_1011 (m : Int) (v y : Int) (w : World) (h : optOk m (-1) true v y = true) (hm : (m != 0) = true) :
    Calls Try.prog 43 #[.agg #[.int .i64 m, .int .i64 (-1), .bool true, .bool true, .int .i64 v, .int .i64 y]] w fun e w' => e = .returned (.string (padd (optX m (-1) true true v y))) ∧ Below w.heap.size w w' := by
  have H := hide h
  obtain ⟨X, HX⟩ : ∃ X, Hid (X = optX m (-1) true true v y) := ⟨_, hide rfl⟩
  obtain ⟨R, HR⟩ : ∃ R, Hid (R = optR m (-1) true) := ⟨_, hide rfl⟩
  rw [← HX.out]
  have zX : X.size ≤ 32 := by rw [HX.out]; exact size_optX _ _ _ _ _ _
  have zR : R.size ≤ 18 := by rw [HR.out]; exact size_optR _ _ _
  have HE := hide (show (((⟨#[]⟩ : ByteArray) ++ ⟨#[2, 4]⟩ ++ putWord m 2) ++ ⟨#[4, 2]⟩) = R by rw [HR.out]; unfold optR; dsimp only; rw [if_neg (show ¬ m = 0 by simpa using hm)]; first | rfl | (simp only [ByteArray.append_assoc]; done) | (simp only [ByteArray.append_assoc]; rfl) | (simp [ByteArray.append_assoc]; done))
  have z0 := size_putWord_le m 2
  have z2 := size_putWord_le v 4
  have z3 := size_putWord_le y 4
  have q0 : ¬9223372036854775807 < R.size + 2 := by omega
  have q1 : ¬9223372036854775807 < R.size + 2 + (putWord v 4).size := by omega
  have q2 : ¬9223372036854775807 < R.size + 2 + (putWord v 4).size + (putWord y 4).size := by omega
  have HE2 := hide (show R ++ ⟨#[8, 10]⟩ ++ putWord v 4 ++ putWord y 4 = X by rw [HX.out, HR.out]; unfold optX; rw [if_pos rfl]; simp only [ByteArray.append_assoc])
  clear h
  go_enter Try.func43, Try.ntmps43
  go_wp2_with (first | (go_at_call 47; refine (spec_OptionsOk _ _ _ _ _ _ _).mono ?_; rintro e w1 ⟨rfl, hb1⟩; rw [H.out]; have hA := keepA hb1 (newA w _ _)) | (go_at_call 75; refine (spec_PutWord _ _ _).mono ?_; rintro e w1 ⟨rfl, hb1⟩; have hA := keepA hb1 (by assumption)))
  rw [HE.out]
  go_region_held3 (fun w' => ∀ o, w'.cell? ⟨w.heap.size, o, none⟩ = [Value.int .i64 m, .int .i64 (-1), .bool true, .bool true, .int .i64 v, .int .i64 y].toArray[o]?) (first | exact keepA (by assumption) (by assumption) | exact keepD (by assumption) | assumption)
    (first | (go_at_call 75; refine (spec_PutWord _ _ _).mono ?_; rintro e w' ⟨rfl, hb⟩))
  go_wp2_with fail
  rw [HE2.out]
  obtain ⟨W, HW⟩ : ∃ W : World, Hid (Below w.heap.size w W) := ⟨w, hide (Below.refl _ _)⟩
  go_loop [3] (fun o => ∃ (t : ByteArray) (j : Nat), o = .string t ∧ Hid (t = X ++ ones j ∧ j ≤ (4 - X.size % 4) % 4) ∧ t.size ≤ 36) (fun o => 40 - strSize o)
  case atStart => exact ⟨X, 0, rfl, hide ⟨(ones_zero X).symm, by omega⟩, by omega⟩
  case round =>
    obtain ⟨t, j, rfl, HT, ht⟩ := hrel
    have hsz := hide (show t.size = X.size + j by rw [HT.out.1, size_ones])
    by_cases h4 : t.size % 4 = 0
    · have g : ((t.size : Int) % 4 != 0) = false := by simp; omega
      have fin := hide (show t = padd X by
        have h1 := HT.out
        have h2 := hsz.out
        rw [h1.1, padd]
        congr 2
        omega)
      clear h4
      go_wp2
      go_ret
      exact ⟨by rw [← fin.out]; rfl, (by repeat (first | with_reducible exact Below.refl _ _ | with_reducible assumption | with_reducible refine Below.al ?_ _ | with_reducible refine Below.drew ?_ | with_reducible refine Below.seq ?_ (by assumption) | (with_reducible refine Below.setCell ?_ ?_ _); rotate_left; focus (first | exact Nat.le_refl _ | (simp; done) | (simp; omega))))⟩
    · have g : ((t.size : Int) % 4 != 0) = true := by simp; omega
      have HT2 := hide (show t ++ ⟨#[1]⟩ = X ++ ones (j + 1) ∧ j + 1 ≤ (4 - X.size % 4) % 4 by
        have h1 := HT.out
        have h2 := hsz.out
        exact ⟨by rw [h1.1, ones_step], by omega⟩)
      have hs2 := hide (show (t ++ ⟨#[1]⟩ : ByteArray).size = t.size + 1 by rw [ByteArray.size_append]; rfl)
      have ht2 := hide (show t.size + 1 ≤ 36 by
        have h1 := HT2.out.2
        have h2 := hsz.out
        omega)
      clear h4
      go_wp2
      go_round
      case rel => exact ⟨t ++ ⟨#[1]⟩, j + 1, rfl, HT2, by rw [hs2.out]; exact ht2.out⟩
      case measure => simp only [strSize]; rw [hs2.out]; omega
theorem spec_OT_1010 (m : Int) (w : World) (h : optOk m (-1) false 0 0 = true) (hm : (m != 0) = true) :
    Calls Try.prog 43 #[.agg #[.int .i64 m, .int .i64 (-1), .bool true, .bool false, .int .i64 0, .int .i64 0]] w fun e w' => e = .returned (.string (padd (optX m (-1) true false 0 0))) ∧ Below w.heap.size w w' := by
  have H := hide h
  obtain ⟨X, HX⟩ : ∃ X, Hid (X = optX m (-1) true false 0 0) := ⟨_, hide rfl⟩
  obtain ⟨R, HR⟩ : ∃ R, Hid (R = optR m (-1) true) := ⟨_, hide rfl⟩
  rw [← HX.out]
  have zX : X.size ≤ 32 := by rw [HX.out]; exact size_optX _ _ _ _ _ _
  have zR : R.size ≤ 18 := by rw [HR.out]; exact size_optR _ _ _
  have HE := hide (show (((⟨#[]⟩ : ByteArray) ++ ⟨#[2, 4]⟩ ++ putWord m 2) ++ ⟨#[4, 2]⟩) = R by rw [HR.out]; unfold optR; dsimp only; rw [if_neg (show ¬ m = 0 by simpa using hm)]; first | rfl | (simp only [ByteArray.append_assoc]; done) | (simp only [ByteArray.append_assoc]; rfl) | (simp [ByteArray.append_assoc]; done))
  have z0 := size_putWord_le m 2
  have HE2 := hide (show R = X by rw [HX.out, HR.out]; rfl)
  clear h
  go_enter Try.func43, Try.ntmps43
  go_wp2_with (first | (go_at_call 47; refine (spec_OptionsOk _ _ _ _ _ _ _).mono ?_; rintro e w1 ⟨rfl, hb1⟩; rw [H.out]; have hA := keepA hb1 (newA w _ _)) | (go_at_call 75; refine (spec_PutWord _ _ _).mono ?_; rintro e w1 ⟨rfl, hb1⟩; have hA := keepA hb1 (by assumption)))
  rw [HE.out]
  rw [HE2.out]
  obtain ⟨W, HW⟩ : ∃ W : World, Hid (Below w.heap.size w W) := ⟨w, hide (Below.refl _ _)⟩
  go_loop [3] (fun o => ∃ (t : ByteArray) (j : Nat), o = .string t ∧ Hid (t = X ++ ones j ∧ j ≤ (4 - X.size % 4) % 4) ∧ t.size ≤ 36) (fun o => 40 - strSize o)
  case atStart => exact ⟨X, 0, rfl, hide ⟨(ones_zero X).symm, by omega⟩, by omega⟩
  case round =>
    obtain ⟨t, j, rfl, HT, ht⟩ := hrel
    have hsz := hide (show t.size = X.size + j by rw [HT.out.1, size_ones])
    by_cases h4 : t.size % 4 = 0
    · have g : ((t.size : Int) % 4 != 0) = false := by simp; omega
      have fin := hide (show t = padd X by
        have h1 := HT.out
        have h2 := hsz.out
        rw [h1.1, padd]
        congr 2
        omega)
      clear h4
      go_wp2
      go_ret
      exact ⟨by rw [← fin.out]; rfl, (by repeat (first | with_reducible exact Below.refl _ _ | with_reducible assumption | with_reducible refine Below.al ?_ _ | with_reducible refine Below.drew ?_ | with_reducible refine Below.seq ?_ (by assumption) | (with_reducible refine Below.setCell ?_ ?_ _); rotate_left; focus (first | exact Nat.le_refl _ | (simp; done) | (simp; omega))))⟩
    · have g : ((t.size : Int) % 4 != 0) = true := by simp; omega
      have HT2 := hide (show t ++ ⟨#[1]⟩ = X ++ ones (j + 1) ∧ j + 1 ≤ (4 - X.size % 4) % 4 by
        have h1 := HT.out
        have h2 := hsz.out
        exact ⟨by rw [h1.1, ones_step], by omega⟩)
      have hs2 := hide (show (t ++ ⟨#[1]⟩ : ByteArray).size = t.size + 1 by rw [ByteArray.size_append]; rfl)
      have ht2 := hide (show t.size + 1 ≤ 36 by
        have h1 := HT2.out.2
        have h2 := hsz.out
        omega)
      clear h4
      go_wp2
      go_round
      case rel => exact ⟨t ++ ⟨#[1]⟩, j + 1, rfl, HT2, by rw [hs2.out]; exact ht2.out⟩
      case measure => simp only [strSize]; rw [hs2.out]; omega
theorem spec_OT_1001 (m : Int) (v y : Int) (w : World) (h : optOk m (-1) true v y = true) (hm : (m != 0) = true) :
    Calls Try.prog 43 #[.agg #[.int .i64 m, .int .i64 (-1), .bool false, .bool true, .int .i64 v, .int .i64 y]] w fun e w' => e = .returned (.string (padd (optX m (-1) false true v y))) ∧ Below w.heap.size w w' := by
  have H := hide h
  obtain ⟨X, HX⟩ : ∃ X, Hid (X = optX m (-1) false true v y) := ⟨_, hide rfl⟩
  obtain ⟨R, HR⟩ : ∃ R, Hid (R = optR m (-1) false) := ⟨_, hide rfl⟩
  rw [← HX.out]
  have zX : X.size ≤ 32 := by rw [HX.out]; exact size_optX _ _ _ _ _ _
  have zR : R.size ≤ 18 := by rw [HR.out]; exact size_optR _ _ _
  have HE := hide (show ((⟨#[]⟩ : ByteArray) ++ ⟨#[2, 4]⟩ ++ putWord m 2) = R by rw [HR.out]; unfold optR; dsimp only; rw [if_neg (show ¬ m = 0 by simpa using hm)]; first | rfl | (simp only [ByteArray.append_assoc]; done) | (simp only [ByteArray.append_assoc]; rfl) | (simp [ByteArray.append_assoc]; done))
  have z0 := size_putWord_le m 2
  have z2 := size_putWord_le v 4
  have z3 := size_putWord_le y 4
  have q0 : ¬9223372036854775807 < R.size + 2 := by omega
  have q1 : ¬9223372036854775807 < R.size + 2 + (putWord v 4).size := by omega
  have q2 : ¬9223372036854775807 < R.size + 2 + (putWord v 4).size + (putWord y 4).size := by omega
  have HE2 := hide (show R ++ ⟨#[8, 10]⟩ ++ putWord v 4 ++ putWord y 4 = X by rw [HX.out, HR.out]; unfold optX; rw [if_pos rfl]; simp only [ByteArray.append_assoc])
  clear h
  go_enter Try.func43, Try.ntmps43
  go_wp2_with (first | (go_at_call 47; refine (spec_OptionsOk _ _ _ _ _ _ _).mono ?_; rintro e w1 ⟨rfl, hb1⟩; rw [H.out]; have hA := keepA hb1 (newA w _ _)) | (go_at_call 75; refine (spec_PutWord _ _ _).mono ?_; rintro e w1 ⟨rfl, hb1⟩; have hA := keepA hb1 (by assumption)))
  rw [HE.out]
  go_region_held3 (fun w' => ∀ o, w'.cell? ⟨w.heap.size, o, none⟩ = [Value.int .i64 m, .int .i64 (-1), .bool false, .bool true, .int .i64 v, .int .i64 y].toArray[o]?) (first | exact keepA (by assumption) (by assumption) | exact keepD (by assumption) | assumption)
    (first | (go_at_call 75; refine (spec_PutWord _ _ _).mono ?_; rintro e w' ⟨rfl, hb⟩))
  go_wp2_with fail
  rw [HE2.out]
  obtain ⟨W, HW⟩ : ∃ W : World, Hid (Below w.heap.size w W) := ⟨w, hide (Below.refl _ _)⟩
  go_loop [3] (fun o => ∃ (t : ByteArray) (j : Nat), o = .string t ∧ Hid (t = X ++ ones j ∧ j ≤ (4 - X.size % 4) % 4) ∧ t.size ≤ 36) (fun o => 40 - strSize o)
  case atStart => exact ⟨X, 0, rfl, hide ⟨(ones_zero X).symm, by omega⟩, by omega⟩
  case round =>
    obtain ⟨t, j, rfl, HT, ht⟩ := hrel
    have hsz := hide (show t.size = X.size + j by rw [HT.out.1, size_ones])
    by_cases h4 : t.size % 4 = 0
    · have g : ((t.size : Int) % 4 != 0) = false := by simp; omega
      have fin := hide (show t = padd X by
        have h1 := HT.out
        have h2 := hsz.out
        rw [h1.1, padd]
        congr 2
        omega)
      clear h4
      go_wp2
      go_ret
      exact ⟨by rw [← fin.out]; rfl, (by repeat (first | with_reducible exact Below.refl _ _ | with_reducible assumption | with_reducible refine Below.al ?_ _ | with_reducible refine Below.drew ?_ | with_reducible refine Below.seq ?_ (by assumption) | (with_reducible refine Below.setCell ?_ ?_ _); rotate_left; focus (first | exact Nat.le_refl _ | (simp; done) | (simp; omega))))⟩
    · have g : ((t.size : Int) % 4 != 0) = true := by simp; omega
      have HT2 := hide (show t ++ ⟨#[1]⟩ = X ++ ones (j + 1) ∧ j + 1 ≤ (4 - X.size % 4) % 4 by
        have h1 := HT.out
        have h2 := hsz.out
        exact ⟨by rw [h1.1, ones_step], by omega⟩)
      have hs2 := hide (show (t ++ ⟨#[1]⟩ : ByteArray).size = t.size + 1 by rw [ByteArray.size_append]; rfl)
      have ht2 := hide (show t.size + 1 ≤ 36 by
        have h1 := HT2.out.2
        have h2 := hsz.out
        omega)
      clear h4
      go_wp2
      go_round
      case rel => exact ⟨t ++ ⟨#[1]⟩, j + 1, rfl, HT2, by rw [hs2.out]; exact ht2.out⟩
      case measure => simp only [strSize]; rw [hs2.out]; omega
theorem spec_OT_1000 (m : Int) (w : World) (h : optOk m (-1) false 0 0 = true) (hm : (m != 0) = true) :
    Calls Try.prog 43 #[.agg #[.int .i64 m, .int .i64 (-1), .bool false, .bool false, .int .i64 0, .int .i64 0]] w fun e w' => e = .returned (.string (padd (optX m (-1) false false 0 0))) ∧ Below w.heap.size w w' := by
  have H := hide h
  obtain ⟨X, HX⟩ : ∃ X, Hid (X = optX m (-1) false false 0 0) := ⟨_, hide rfl⟩
  obtain ⟨R, HR⟩ : ∃ R, Hid (R = optR m (-1) false) := ⟨_, hide rfl⟩
  rw [← HX.out]
  have zX : X.size ≤ 32 := by rw [HX.out]; exact size_optX _ _ _ _ _ _
  have zR : R.size ≤ 18 := by rw [HR.out]; exact size_optR _ _ _
  have HE := hide (show ((⟨#[]⟩ : ByteArray) ++ ⟨#[2, 4]⟩ ++ putWord m 2) = R by rw [HR.out]; unfold optR; dsimp only; rw [if_neg (show ¬ m = 0 by simpa using hm)]; first | rfl | (simp only [ByteArray.append_assoc]; done) | (simp only [ByteArray.append_assoc]; rfl) | (simp [ByteArray.append_assoc]; done))
  have z0 := size_putWord_le m 2
  have HE2 := hide (show R = X by rw [HX.out, HR.out]; rfl)
  clear h
  go_enter Try.func43, Try.ntmps43
  go_wp2_with (first | (go_at_call 47; refine (spec_OptionsOk _ _ _ _ _ _ _).mono ?_; rintro e w1 ⟨rfl, hb1⟩; rw [H.out]; have hA := keepA hb1 (newA w _ _)) | (go_at_call 75; refine (spec_PutWord _ _ _).mono ?_; rintro e w1 ⟨rfl, hb1⟩; have hA := keepA hb1 (by assumption)))
  rw [HE.out]
  rw [HE2.out]
  obtain ⟨W, HW⟩ : ∃ W : World, Hid (Below w.heap.size w W) := ⟨w, hide (Below.refl _ _)⟩
  go_loop [3] (fun o => ∃ (t : ByteArray) (j : Nat), o = .string t ∧ Hid (t = X ++ ones j ∧ j ≤ (4 - X.size % 4) % 4) ∧ t.size ≤ 36) (fun o => 40 - strSize o)
  case atStart => exact ⟨X, 0, rfl, hide ⟨(ones_zero X).symm, by omega⟩, by omega⟩
  case round =>
    obtain ⟨t, j, rfl, HT, ht⟩ := hrel
    have hsz := hide (show t.size = X.size + j by rw [HT.out.1, size_ones])
    by_cases h4 : t.size % 4 = 0
    · have g : ((t.size : Int) % 4 != 0) = false := by simp; omega
      have fin := hide (show t = padd X by
        have h1 := HT.out
        have h2 := hsz.out
        rw [h1.1, padd]
        congr 2
        omega)
      clear h4
      go_wp2
      go_ret
      exact ⟨by rw [← fin.out]; rfl, (by repeat (first | with_reducible exact Below.refl _ _ | with_reducible assumption | with_reducible refine Below.al ?_ _ | with_reducible refine Below.drew ?_ | with_reducible refine Below.seq ?_ (by assumption) | (with_reducible refine Below.setCell ?_ ?_ _); rotate_left; focus (first | exact Nat.le_refl _ | (simp; done) | (simp; omega))))⟩
    · have g : ((t.size : Int) % 4 != 0) = true := by simp; omega
      have HT2 := hide (show t ++ ⟨#[1]⟩ = X ++ ones (j + 1) ∧ j + 1 ≤ (4 - X.size % 4) % 4 by
        have h1 := HT.out
        have h2 := hsz.out
        exact ⟨by rw [h1.1, ones_step], by omega⟩)
      have hs2 := hide (show (t ++ ⟨#[1]⟩ : ByteArray).size = t.size + 1 by rw [ByteArray.size_append]; rfl)
      have ht2 := hide (show t.size + 1 ≤ 36 by
        have h1 := HT2.out.2
        have h2 := hsz.out
        omega)
      clear h4
      go_wp2
      go_round
      case rel => exact ⟨t ++ ⟨#[1]⟩, j + 1, rfl, HT2, by rw [hs2.out]; exact ht2.out⟩
      case measure => simp only [strSize]; rw [hs2.out]; omega
theorem spec_OT_0111 (s : Int) (v y : Int) (w : World) (h : optOk 0 s true v y = true) (hs : (s != -1) = true) (hs0 : 0 ≤ s) :
    Calls Try.prog 43 #[.agg #[.int .i64 0, .int .i64 s, .bool true, .bool true, .int .i64 v, .int .i64 y]] w fun e w' => e = .returned (.string (padd (optX 0 s true true v y))) ∧ Below w.heap.size w w' := by
  have H := hide h
  obtain ⟨X, HX⟩ : ∃ X, Hid (X = optX 0 s true true v y) := ⟨_, hide rfl⟩
  obtain ⟨R, HR⟩ : ∃ R, Hid (R = optR 0 s true) := ⟨_, hide rfl⟩
  rw [← HX.out]
  have zX : X.size ≤ 32 := by rw [HX.out]; exact size_optX _ _ _ _ _ _
  have zR : R.size ≤ 18 := by rw [HR.out]; exact size_optR _ _ _
  have HE := hide (show (((⟨#[]⟩ : ByteArray) ++ ⟨#[3, 3]⟩ ++ putWord s 1) ++ ⟨#[4, 2]⟩) = R by rw [HR.out]; unfold optR; dsimp only; rw [if_neg (show ¬ s = -1 by simpa using hs)]; first | rfl | (simp only [ByteArray.append_assoc]; done) | (simp only [ByteArray.append_assoc]; rfl) | (simp [ByteArray.append_assoc]; done))
  have z1 := size_putWord_le s 1
  have z2 := size_putWord_le v 4
  have z3 := size_putWord_le y 4
  have q0 : ¬9223372036854775807 < R.size + 2 := by omega
  have q1 : ¬9223372036854775807 < R.size + 2 + (putWord v 4).size := by omega
  have q2 : ¬9223372036854775807 < R.size + 2 + (putWord v 4).size + (putWord y 4).size := by omega
  have HE2 := hide (show R ++ ⟨#[8, 10]⟩ ++ putWord v 4 ++ putWord y 4 = X by rw [HX.out, HR.out]; unfold optX; rw [if_pos rfl]; simp only [ByteArray.append_assoc])
  clear h
  go_enter Try.func43, Try.ntmps43
  go_wp2_with (first | (go_at_call 47; refine (spec_OptionsOk _ _ _ _ _ _ _).mono ?_; rintro e w1 ⟨rfl, hb1⟩; rw [H.out]; have hA := keepA hb1 (newA w _ _)) | (go_at_call 75; refine (spec_PutWord _ _ _).mono ?_; rintro e w1 ⟨rfl, hb1⟩; have hA := keepA hb1 (by assumption)))
  rw [HE.out]
  go_region_held3 (fun w' => ∀ o, w'.cell? ⟨w.heap.size, o, none⟩ = [Value.int .i64 0, .int .i64 s, .bool true, .bool true, .int .i64 v, .int .i64 y].toArray[o]?) (first | exact keepA (by assumption) (by assumption) | exact keepD (by assumption) | assumption)
    (first | (go_at_call 75; refine (spec_PutWord _ _ _).mono ?_; rintro e w' ⟨rfl, hb⟩))
  go_wp2_with fail
  rw [HE2.out]
  obtain ⟨W, HW⟩ : ∃ W : World, Hid (Below w.heap.size w W) := ⟨w, hide (Below.refl _ _)⟩
  go_loop [3] (fun o => ∃ (t : ByteArray) (j : Nat), o = .string t ∧ Hid (t = X ++ ones j ∧ j ≤ (4 - X.size % 4) % 4) ∧ t.size ≤ 36) (fun o => 40 - strSize o)
  case atStart => exact ⟨X, 0, rfl, hide ⟨(ones_zero X).symm, by omega⟩, by omega⟩
  case round =>
    obtain ⟨t, j, rfl, HT, ht⟩ := hrel
    have hsz := hide (show t.size = X.size + j by rw [HT.out.1, size_ones])
    by_cases h4 : t.size % 4 = 0
    · have g : ((t.size : Int) % 4 != 0) = false := by simp; omega
      have fin := hide (show t = padd X by
        have h1 := HT.out
        have h2 := hsz.out
        rw [h1.1, padd]
        congr 2
        omega)
      clear h4
      go_wp2
      go_ret
      exact ⟨by rw [← fin.out]; rfl, (by repeat (first | with_reducible exact Below.refl _ _ | with_reducible assumption | with_reducible refine Below.al ?_ _ | with_reducible refine Below.drew ?_ | with_reducible refine Below.seq ?_ (by assumption) | (with_reducible refine Below.setCell ?_ ?_ _); rotate_left; focus (first | exact Nat.le_refl _ | (simp; done) | (simp; omega))))⟩
    · have g : ((t.size : Int) % 4 != 0) = true := by simp; omega
      have HT2 := hide (show t ++ ⟨#[1]⟩ = X ++ ones (j + 1) ∧ j + 1 ≤ (4 - X.size % 4) % 4 by
        have h1 := HT.out
        have h2 := hsz.out
        exact ⟨by rw [h1.1, ones_step], by omega⟩)
      have hs2 := hide (show (t ++ ⟨#[1]⟩ : ByteArray).size = t.size + 1 by rw [ByteArray.size_append]; rfl)
      have ht2 := hide (show t.size + 1 ≤ 36 by
        have h1 := HT2.out.2
        have h2 := hsz.out
        omega)
      clear h4
      go_wp2
      go_round
      case rel => exact ⟨t ++ ⟨#[1]⟩, j + 1, rfl, HT2, by rw [hs2.out]; exact ht2.out⟩
      case measure => simp only [strSize]; rw [hs2.out]; omega
theorem spec_OT_0110 (s : Int) (w : World) (h : optOk 0 s false 0 0 = true) (hs : (s != -1) = true) (hs0 : 0 ≤ s) :
    Calls Try.prog 43 #[.agg #[.int .i64 0, .int .i64 s, .bool true, .bool false, .int .i64 0, .int .i64 0]] w fun e w' => e = .returned (.string (padd (optX 0 s true false 0 0))) ∧ Below w.heap.size w w' := by
  have H := hide h
  obtain ⟨X, HX⟩ : ∃ X, Hid (X = optX 0 s true false 0 0) := ⟨_, hide rfl⟩
  obtain ⟨R, HR⟩ : ∃ R, Hid (R = optR 0 s true) := ⟨_, hide rfl⟩
  rw [← HX.out]
  have zX : X.size ≤ 32 := by rw [HX.out]; exact size_optX _ _ _ _ _ _
  have zR : R.size ≤ 18 := by rw [HR.out]; exact size_optR _ _ _
  have HE := hide (show (((⟨#[]⟩ : ByteArray) ++ ⟨#[3, 3]⟩ ++ putWord s 1) ++ ⟨#[4, 2]⟩) = R by rw [HR.out]; unfold optR; dsimp only; rw [if_neg (show ¬ s = -1 by simpa using hs)]; first | rfl | (simp only [ByteArray.append_assoc]; done) | (simp only [ByteArray.append_assoc]; rfl) | (simp [ByteArray.append_assoc]; done))
  have z1 := size_putWord_le s 1
  have HE2 := hide (show R = X by rw [HX.out, HR.out]; rfl)
  clear h
  go_enter Try.func43, Try.ntmps43
  go_wp2_with (first | (go_at_call 47; refine (spec_OptionsOk _ _ _ _ _ _ _).mono ?_; rintro e w1 ⟨rfl, hb1⟩; rw [H.out]; have hA := keepA hb1 (newA w _ _)) | (go_at_call 75; refine (spec_PutWord _ _ _).mono ?_; rintro e w1 ⟨rfl, hb1⟩; have hA := keepA hb1 (by assumption)))
  rw [HE.out]
  rw [HE2.out]
  obtain ⟨W, HW⟩ : ∃ W : World, Hid (Below w.heap.size w W) := ⟨w, hide (Below.refl _ _)⟩
  go_loop [3] (fun o => ∃ (t : ByteArray) (j : Nat), o = .string t ∧ Hid (t = X ++ ones j ∧ j ≤ (4 - X.size % 4) % 4) ∧ t.size ≤ 36) (fun o => 40 - strSize o)
  case atStart => exact ⟨X, 0, rfl, hide ⟨(ones_zero X).symm, by omega⟩, by omega⟩
  case round =>
    obtain ⟨t, j, rfl, HT, ht⟩ := hrel
    have hsz := hide (show t.size = X.size + j by rw [HT.out.1, size_ones])
    by_cases h4 : t.size % 4 = 0
    · have g : ((t.size : Int) % 4 != 0) = false := by simp; omega
      have fin := hide (show t = padd X by
        have h1 := HT.out
        have h2 := hsz.out
        rw [h1.1, padd]
        congr 2
        omega)
      clear h4
      go_wp2
      go_ret
      exact ⟨by rw [← fin.out]; rfl, (by repeat (first | with_reducible exact Below.refl _ _ | with_reducible assumption | with_reducible refine Below.al ?_ _ | with_reducible refine Below.drew ?_ | with_reducible refine Below.seq ?_ (by assumption) | (with_reducible refine Below.setCell ?_ ?_ _); rotate_left; focus (first | exact Nat.le_refl _ | (simp; done) | (simp; omega))))⟩
    · have g : ((t.size : Int) % 4 != 0) = true := by simp; omega
      have HT2 := hide (show t ++ ⟨#[1]⟩ = X ++ ones (j + 1) ∧ j + 1 ≤ (4 - X.size % 4) % 4 by
        have h1 := HT.out
        have h2 := hsz.out
        exact ⟨by rw [h1.1, ones_step], by omega⟩)
      have hs2 := hide (show (t ++ ⟨#[1]⟩ : ByteArray).size = t.size + 1 by rw [ByteArray.size_append]; rfl)
      have ht2 := hide (show t.size + 1 ≤ 36 by
        have h1 := HT2.out.2
        have h2 := hsz.out
        omega)
      clear h4
      go_wp2
      go_round
      case rel => exact ⟨t ++ ⟨#[1]⟩, j + 1, rfl, HT2, by rw [hs2.out]; exact ht2.out⟩
      case measure => simp only [strSize]; rw [hs2.out]; omega
theorem spec_OT_0101 (s : Int) (v y : Int) (w : World) (h : optOk 0 s true v y = true) (hs : (s != -1) = true) (hs0 : 0 ≤ s) :
    Calls Try.prog 43 #[.agg #[.int .i64 0, .int .i64 s, .bool false, .bool true, .int .i64 v, .int .i64 y]] w fun e w' => e = .returned (.string (padd (optX 0 s false true v y))) ∧ Below w.heap.size w w' := by
  have H := hide h
  obtain ⟨X, HX⟩ : ∃ X, Hid (X = optX 0 s false true v y) := ⟨_, hide rfl⟩
  obtain ⟨R, HR⟩ : ∃ R, Hid (R = optR 0 s false) := ⟨_, hide rfl⟩
  rw [← HX.out]
  have zX : X.size ≤ 32 := by rw [HX.out]; exact size_optX _ _ _ _ _ _
  have zR : R.size ≤ 18 := by rw [HR.out]; exact size_optR _ _ _
  have HE := hide (show ((⟨#[]⟩ : ByteArray) ++ ⟨#[3, 3]⟩ ++ putWord s 1) = R by rw [HR.out]; unfold optR; dsimp only; rw [if_neg (show ¬ s = -1 by simpa using hs)]; first | rfl | (simp only [ByteArray.append_assoc]; done) | (simp only [ByteArray.append_assoc]; rfl) | (simp [ByteArray.append_assoc]; done))
  have z1 := size_putWord_le s 1
  have z2 := size_putWord_le v 4
  have z3 := size_putWord_le y 4
  have q0 : ¬9223372036854775807 < R.size + 2 := by omega
  have q1 : ¬9223372036854775807 < R.size + 2 + (putWord v 4).size := by omega
  have q2 : ¬9223372036854775807 < R.size + 2 + (putWord v 4).size + (putWord y 4).size := by omega
  have HE2 := hide (show R ++ ⟨#[8, 10]⟩ ++ putWord v 4 ++ putWord y 4 = X by rw [HX.out, HR.out]; unfold optX; rw [if_pos rfl]; simp only [ByteArray.append_assoc])
  clear h
  go_enter Try.func43, Try.ntmps43
  go_wp2_with (first | (go_at_call 47; refine (spec_OptionsOk _ _ _ _ _ _ _).mono ?_; rintro e w1 ⟨rfl, hb1⟩; rw [H.out]; have hA := keepA hb1 (newA w _ _)) | (go_at_call 75; refine (spec_PutWord _ _ _).mono ?_; rintro e w1 ⟨rfl, hb1⟩; have hA := keepA hb1 (by assumption)))
  rw [HE.out]
  go_region_held3 (fun w' => ∀ o, w'.cell? ⟨w.heap.size, o, none⟩ = [Value.int .i64 0, .int .i64 s, .bool false, .bool true, .int .i64 v, .int .i64 y].toArray[o]?) (first | exact keepA (by assumption) (by assumption) | exact keepD (by assumption) | assumption)
    (first | (go_at_call 75; refine (spec_PutWord _ _ _).mono ?_; rintro e w' ⟨rfl, hb⟩))
  go_wp2_with fail
  rw [HE2.out]
  obtain ⟨W, HW⟩ : ∃ W : World, Hid (Below w.heap.size w W) := ⟨w, hide (Below.refl _ _)⟩
  go_loop [3] (fun o => ∃ (t : ByteArray) (j : Nat), o = .string t ∧ Hid (t = X ++ ones j ∧ j ≤ (4 - X.size % 4) % 4) ∧ t.size ≤ 36) (fun o => 40 - strSize o)
  case atStart => exact ⟨X, 0, rfl, hide ⟨(ones_zero X).symm, by omega⟩, by omega⟩
  case round =>
    obtain ⟨t, j, rfl, HT, ht⟩ := hrel
    have hsz := hide (show t.size = X.size + j by rw [HT.out.1, size_ones])
    by_cases h4 : t.size % 4 = 0
    · have g : ((t.size : Int) % 4 != 0) = false := by simp; omega
      have fin := hide (show t = padd X by
        have h1 := HT.out
        have h2 := hsz.out
        rw [h1.1, padd]
        congr 2
        omega)
      clear h4
      go_wp2
      go_ret
      exact ⟨by rw [← fin.out]; rfl, (by repeat (first | with_reducible exact Below.refl _ _ | with_reducible assumption | with_reducible refine Below.al ?_ _ | with_reducible refine Below.drew ?_ | with_reducible refine Below.seq ?_ (by assumption) | (with_reducible refine Below.setCell ?_ ?_ _); rotate_left; focus (first | exact Nat.le_refl _ | (simp; done) | (simp; omega))))⟩
    · have g : ((t.size : Int) % 4 != 0) = true := by simp; omega
      have HT2 := hide (show t ++ ⟨#[1]⟩ = X ++ ones (j + 1) ∧ j + 1 ≤ (4 - X.size % 4) % 4 by
        have h1 := HT.out
        have h2 := hsz.out
        exact ⟨by rw [h1.1, ones_step], by omega⟩)
      have hs2 := hide (show (t ++ ⟨#[1]⟩ : ByteArray).size = t.size + 1 by rw [ByteArray.size_append]; rfl)
      have ht2 := hide (show t.size + 1 ≤ 36 by
        have h1 := HT2.out.2
        have h2 := hsz.out
        omega)
      clear h4
      go_wp2
      go_round
      case rel => exact ⟨t ++ ⟨#[1]⟩, j + 1, rfl, HT2, by rw [hs2.out]; exact ht2.out⟩
      case measure => simp only [strSize]; rw [hs2.out]; omega
theorem spec_OT_0100 (s : Int) (w : World) (h : optOk 0 s false 0 0 = true) (hs : (s != -1) = true) (hs0 : 0 ≤ s) :
    Calls Try.prog 43 #[.agg #[.int .i64 0, .int .i64 s, .bool false, .bool false, .int .i64 0, .int .i64 0]] w fun e w' => e = .returned (.string (padd (optX 0 s false false 0 0))) ∧ Below w.heap.size w w' := by
  have H := hide h
  obtain ⟨X, HX⟩ : ∃ X, Hid (X = optX 0 s false false 0 0) := ⟨_, hide rfl⟩
  obtain ⟨R, HR⟩ : ∃ R, Hid (R = optR 0 s false) := ⟨_, hide rfl⟩
  rw [← HX.out]
  have zX : X.size ≤ 32 := by rw [HX.out]; exact size_optX _ _ _ _ _ _
  have zR : R.size ≤ 18 := by rw [HR.out]; exact size_optR _ _ _
  have HE := hide (show ((⟨#[]⟩ : ByteArray) ++ ⟨#[3, 3]⟩ ++ putWord s 1) = R by rw [HR.out]; unfold optR; dsimp only; rw [if_neg (show ¬ s = -1 by simpa using hs)]; first | rfl | (simp only [ByteArray.append_assoc]; done) | (simp only [ByteArray.append_assoc]; rfl) | (simp [ByteArray.append_assoc]; done))
  have z1 := size_putWord_le s 1
  have HE2 := hide (show R = X by rw [HX.out, HR.out]; rfl)
  clear h
  go_enter Try.func43, Try.ntmps43
  go_wp2_with (first | (go_at_call 47; refine (spec_OptionsOk _ _ _ _ _ _ _).mono ?_; rintro e w1 ⟨rfl, hb1⟩; rw [H.out]; have hA := keepA hb1 (newA w _ _)) | (go_at_call 75; refine (spec_PutWord _ _ _).mono ?_; rintro e w1 ⟨rfl, hb1⟩; have hA := keepA hb1 (by assumption)))
  rw [HE.out]
  rw [HE2.out]
  obtain ⟨W, HW⟩ : ∃ W : World, Hid (Below w.heap.size w W) := ⟨w, hide (Below.refl _ _)⟩
  go_loop [3] (fun o => ∃ (t : ByteArray) (j : Nat), o = .string t ∧ Hid (t = X ++ ones j ∧ j ≤ (4 - X.size % 4) % 4) ∧ t.size ≤ 36) (fun o => 40 - strSize o)
  case atStart => exact ⟨X, 0, rfl, hide ⟨(ones_zero X).symm, by omega⟩, by omega⟩
  case round =>
    obtain ⟨t, j, rfl, HT, ht⟩ := hrel
    have hsz := hide (show t.size = X.size + j by rw [HT.out.1, size_ones])
    by_cases h4 : t.size % 4 = 0
    · have g : ((t.size : Int) % 4 != 0) = false := by simp; omega
      have fin := hide (show t = padd X by
        have h1 := HT.out
        have h2 := hsz.out
        rw [h1.1, padd]
        congr 2
        omega)
      clear h4
      go_wp2
      go_ret
      exact ⟨by rw [← fin.out]; rfl, (by repeat (first | with_reducible exact Below.refl _ _ | with_reducible assumption | with_reducible refine Below.al ?_ _ | with_reducible refine Below.drew ?_ | with_reducible refine Below.seq ?_ (by assumption) | (with_reducible refine Below.setCell ?_ ?_ _); rotate_left; focus (first | exact Nat.le_refl _ | (simp; done) | (simp; omega))))⟩
    · have g : ((t.size : Int) % 4 != 0) = true := by simp; omega
      have HT2 := hide (show t ++ ⟨#[1]⟩ = X ++ ones (j + 1) ∧ j + 1 ≤ (4 - X.size % 4) % 4 by
        have h1 := HT.out
        have h2 := hsz.out
        exact ⟨by rw [h1.1, ones_step], by omega⟩)
      have hs2 := hide (show (t ++ ⟨#[1]⟩ : ByteArray).size = t.size + 1 by rw [ByteArray.size_append]; rfl)
      have ht2 := hide (show t.size + 1 ≤ 36 by
        have h1 := HT2.out.2
        have h2 := hsz.out
        omega)
      clear h4
      go_wp2
      go_round
      case rel => exact ⟨t ++ ⟨#[1]⟩, j + 1, rfl, HT2, by rw [hs2.out]; exact ht2.out⟩
      case measure => simp only [strSize]; rw [hs2.out]; omega
theorem spec_OT_0011 (v y : Int) (w : World) (h : optOk 0 (-1) true v y = true) :
    Calls Try.prog 43 #[.agg #[.int .i64 0, .int .i64 (-1), .bool true, .bool true, .int .i64 v, .int .i64 y]] w fun e w' => e = .returned (.string (padd (optX 0 (-1) true true v y))) ∧ Below w.heap.size w w' := by
  have H := hide h
  obtain ⟨X, HX⟩ : ∃ X, Hid (X = optX 0 (-1) true true v y) := ⟨_, hide rfl⟩
  obtain ⟨R, HR⟩ : ∃ R, Hid (R = optR 0 (-1) true) := ⟨_, hide rfl⟩
  rw [← HX.out]
  have zX : X.size ≤ 32 := by rw [HX.out]; exact size_optX _ _ _ _ _ _
  have zR : R.size ≤ 18 := by rw [HR.out]; exact size_optR _ _ _
  have HE := hide (show ((⟨#[]⟩ : ByteArray) ++ ⟨#[4, 2]⟩) = R by rw [HR.out]; unfold optR; dsimp only; first | rfl | (simp only [ByteArray.append_assoc]; done) | (simp only [ByteArray.append_assoc]; rfl) | (simp [ByteArray.append_assoc]; done))
  have z2 := size_putWord_le v 4
  have z3 := size_putWord_le y 4
  have q0 : ¬9223372036854775807 < R.size + 2 := by omega
  have q1 : ¬9223372036854775807 < R.size + 2 + (putWord v 4).size := by omega
  have q2 : ¬9223372036854775807 < R.size + 2 + (putWord v 4).size + (putWord y 4).size := by omega
  have HE2 := hide (show R ++ ⟨#[8, 10]⟩ ++ putWord v 4 ++ putWord y 4 = X by rw [HX.out, HR.out]; unfold optX; rw [if_pos rfl]; simp only [ByteArray.append_assoc])
  clear h
  go_enter Try.func43, Try.ntmps43
  go_wp2_with (first | (go_at_call 47; refine (spec_OptionsOk _ _ _ _ _ _ _).mono ?_; rintro e w1 ⟨rfl, hb1⟩; rw [H.out]; have hA := keepA hb1 (newA w _ _)) | (go_at_call 75; refine (spec_PutWord _ _ _).mono ?_; rintro e w1 ⟨rfl, hb1⟩; have hA := keepA hb1 (by assumption)))
  rw [HE.out]
  go_region_held3 (fun w' => ∀ o, w'.cell? ⟨w.heap.size, o, none⟩ = [Value.int .i64 0, .int .i64 (-1), .bool true, .bool true, .int .i64 v, .int .i64 y].toArray[o]?) (first | exact keepA (by assumption) (by assumption) | exact keepD (by assumption) | assumption)
    (first | (go_at_call 75; refine (spec_PutWord _ _ _).mono ?_; rintro e w' ⟨rfl, hb⟩))
  go_wp2_with fail
  rw [HE2.out]
  obtain ⟨W, HW⟩ : ∃ W : World, Hid (Below w.heap.size w W) := ⟨w, hide (Below.refl _ _)⟩
  go_loop [3] (fun o => ∃ (t : ByteArray) (j : Nat), o = .string t ∧ Hid (t = X ++ ones j ∧ j ≤ (4 - X.size % 4) % 4) ∧ t.size ≤ 36) (fun o => 40 - strSize o)
  case atStart => exact ⟨X, 0, rfl, hide ⟨(ones_zero X).symm, by omega⟩, by omega⟩
  case round =>
    obtain ⟨t, j, rfl, HT, ht⟩ := hrel
    have hsz := hide (show t.size = X.size + j by rw [HT.out.1, size_ones])
    by_cases h4 : t.size % 4 = 0
    · have g : ((t.size : Int) % 4 != 0) = false := by simp; omega
      have fin := hide (show t = padd X by
        have h1 := HT.out
        have h2 := hsz.out
        rw [h1.1, padd]
        congr 2
        omega)
      clear h4
      go_wp2
      go_ret
      exact ⟨by rw [← fin.out]; rfl, (by repeat (first | with_reducible exact Below.refl _ _ | with_reducible assumption | with_reducible refine Below.al ?_ _ | with_reducible refine Below.drew ?_ | with_reducible refine Below.seq ?_ (by assumption) | (with_reducible refine Below.setCell ?_ ?_ _); rotate_left; focus (first | exact Nat.le_refl _ | (simp; done) | (simp; omega))))⟩
    · have g : ((t.size : Int) % 4 != 0) = true := by simp; omega
      have HT2 := hide (show t ++ ⟨#[1]⟩ = X ++ ones (j + 1) ∧ j + 1 ≤ (4 - X.size % 4) % 4 by
        have h1 := HT.out
        have h2 := hsz.out
        exact ⟨by rw [h1.1, ones_step], by omega⟩)
      have hs2 := hide (show (t ++ ⟨#[1]⟩ : ByteArray).size = t.size + 1 by rw [ByteArray.size_append]; rfl)
      have ht2 := hide (show t.size + 1 ≤ 36 by
        have h1 := HT2.out.2
        have h2 := hsz.out
        omega)
      clear h4
      go_wp2
      go_round
      case rel => exact ⟨t ++ ⟨#[1]⟩, j + 1, rfl, HT2, by rw [hs2.out]; exact ht2.out⟩
      case measure => simp only [strSize]; rw [hs2.out]; omega
theorem spec_OT_0010 (w : World) (h : optOk 0 (-1) false 0 0 = true) :
    Calls Try.prog 43 #[.agg #[.int .i64 0, .int .i64 (-1), .bool true, .bool false, .int .i64 0, .int .i64 0]] w fun e w' => e = .returned (.string (padd (optX 0 (-1) true false 0 0))) ∧ Below w.heap.size w w' := by
  have H := hide h
  obtain ⟨X, HX⟩ : ∃ X, Hid (X = optX 0 (-1) true false 0 0) := ⟨_, hide rfl⟩
  obtain ⟨R, HR⟩ : ∃ R, Hid (R = optR 0 (-1) true) := ⟨_, hide rfl⟩
  rw [← HX.out]
  have zX : X.size ≤ 32 := by rw [HX.out]; exact size_optX _ _ _ _ _ _
  have zR : R.size ≤ 18 := by rw [HR.out]; exact size_optR _ _ _
  have HE := hide (show ((⟨#[]⟩ : ByteArray) ++ ⟨#[4, 2]⟩) = R by rw [HR.out]; unfold optR; dsimp only; first | rfl | (simp only [ByteArray.append_assoc]; done) | (simp only [ByteArray.append_assoc]; rfl) | (simp [ByteArray.append_assoc]; done))
  have HE2 := hide (show R = X by rw [HX.out, HR.out]; rfl)
  clear h
  go_enter Try.func43, Try.ntmps43
  go_wp2_with (first | (go_at_call 47; refine (spec_OptionsOk _ _ _ _ _ _ _).mono ?_; rintro e w1 ⟨rfl, hb1⟩; rw [H.out]; have hA := keepA hb1 (newA w _ _)) | (go_at_call 75; refine (spec_PutWord _ _ _).mono ?_; rintro e w1 ⟨rfl, hb1⟩; have hA := keepA hb1 (by assumption)))
  rw [HE.out]
  rw [HE2.out]
  obtain ⟨W, HW⟩ : ∃ W : World, Hid (Below w.heap.size w W) := ⟨w, hide (Below.refl _ _)⟩
  go_loop [3] (fun o => ∃ (t : ByteArray) (j : Nat), o = .string t ∧ Hid (t = X ++ ones j ∧ j ≤ (4 - X.size % 4) % 4) ∧ t.size ≤ 36) (fun o => 40 - strSize o)
  case atStart => exact ⟨X, 0, rfl, hide ⟨(ones_zero X).symm, by omega⟩, by omega⟩
  case round =>
    obtain ⟨t, j, rfl, HT, ht⟩ := hrel
    have hsz := hide (show t.size = X.size + j by rw [HT.out.1, size_ones])
    by_cases h4 : t.size % 4 = 0
    · have g : ((t.size : Int) % 4 != 0) = false := by simp; omega
      have fin := hide (show t = padd X by
        have h1 := HT.out
        have h2 := hsz.out
        rw [h1.1, padd]
        congr 2
        omega)
      clear h4
      go_wp2
      go_ret
      exact ⟨by rw [← fin.out]; rfl, (by repeat (first | with_reducible exact Below.refl _ _ | with_reducible assumption | with_reducible refine Below.al ?_ _ | with_reducible refine Below.drew ?_ | with_reducible refine Below.seq ?_ (by assumption) | (with_reducible refine Below.setCell ?_ ?_ _); rotate_left; focus (first | exact Nat.le_refl _ | (simp; done) | (simp; omega))))⟩
    · have g : ((t.size : Int) % 4 != 0) = true := by simp; omega
      have HT2 := hide (show t ++ ⟨#[1]⟩ = X ++ ones (j + 1) ∧ j + 1 ≤ (4 - X.size % 4) % 4 by
        have h1 := HT.out
        have h2 := hsz.out
        exact ⟨by rw [h1.1, ones_step], by omega⟩)
      have hs2 := hide (show (t ++ ⟨#[1]⟩ : ByteArray).size = t.size + 1 by rw [ByteArray.size_append]; rfl)
      have ht2 := hide (show t.size + 1 ≤ 36 by
        have h1 := HT2.out.2
        have h2 := hsz.out
        omega)
      clear h4
      go_wp2
      go_round
      case rel => exact ⟨t ++ ⟨#[1]⟩, j + 1, rfl, HT2, by rw [hs2.out]; exact ht2.out⟩
      case measure => simp only [strSize]; rw [hs2.out]; omega
theorem spec_OT_0001 (v y : Int) (w : World) (h : optOk 0 (-1) true v y = true) :
    Calls Try.prog 43 #[.agg #[.int .i64 0, .int .i64 (-1), .bool false, .bool true, .int .i64 v, .int .i64 y]] w fun e w' => e = .returned (.string (padd (optX 0 (-1) false true v y))) ∧ Below w.heap.size w w' := by
  have H := hide h
  obtain ⟨X, HX⟩ : ∃ X, Hid (X = optX 0 (-1) false true v y) := ⟨_, hide rfl⟩
  obtain ⟨R, HR⟩ : ∃ R, Hid (R = optR 0 (-1) false) := ⟨_, hide rfl⟩
  rw [← HX.out]
  have zX : X.size ≤ 32 := by rw [HX.out]; exact size_optX _ _ _ _ _ _
  have zR : R.size ≤ 18 := by rw [HR.out]; exact size_optR _ _ _
  have HE := hide (show (⟨#[]⟩ : ByteArray) = R by rw [HR.out]; unfold optR; dsimp only; first | rfl | (simp only [ByteArray.append_assoc]; done) | (simp only [ByteArray.append_assoc]; rfl) | (simp [ByteArray.append_assoc]; done))
  have z2 := size_putWord_le v 4
  have z3 := size_putWord_le y 4
  have q0 : ¬9223372036854775807 < R.size + 2 := by omega
  have q1 : ¬9223372036854775807 < R.size + 2 + (putWord v 4).size := by omega
  have q2 : ¬9223372036854775807 < R.size + 2 + (putWord v 4).size + (putWord y 4).size := by omega
  have HE2 := hide (show R ++ ⟨#[8, 10]⟩ ++ putWord v 4 ++ putWord y 4 = X by rw [HX.out, HR.out]; unfold optX; rw [if_pos rfl]; simp only [ByteArray.append_assoc])
  clear h
  go_enter Try.func43, Try.ntmps43
  go_wp2_with (first | (go_at_call 47; refine (spec_OptionsOk _ _ _ _ _ _ _).mono ?_; rintro e w1 ⟨rfl, hb1⟩; rw [H.out]; have hA := keepA hb1 (newA w _ _)) | (go_at_call 75; refine (spec_PutWord _ _ _).mono ?_; rintro e w1 ⟨rfl, hb1⟩; have hA := keepA hb1 (by assumption)))
  rw [HE.out]
  go_region_held3 (fun w' => ∀ o, w'.cell? ⟨w.heap.size, o, none⟩ = [Value.int .i64 0, .int .i64 (-1), .bool false, .bool true, .int .i64 v, .int .i64 y].toArray[o]?) (first | exact keepA (by assumption) (by assumption) | exact keepD (by assumption) | assumption)
    (first | (go_at_call 75; refine (spec_PutWord _ _ _).mono ?_; rintro e w' ⟨rfl, hb⟩))
  go_wp2_with fail
  rw [HE2.out]
  obtain ⟨W, HW⟩ : ∃ W : World, Hid (Below w.heap.size w W) := ⟨w, hide (Below.refl _ _)⟩
  go_loop [3] (fun o => ∃ (t : ByteArray) (j : Nat), o = .string t ∧ Hid (t = X ++ ones j ∧ j ≤ (4 - X.size % 4) % 4) ∧ t.size ≤ 36) (fun o => 40 - strSize o)
  case atStart => exact ⟨X, 0, rfl, hide ⟨(ones_zero X).symm, by omega⟩, by omega⟩
  case round =>
    obtain ⟨t, j, rfl, HT, ht⟩ := hrel
    have hsz := hide (show t.size = X.size + j by rw [HT.out.1, size_ones])
    by_cases h4 : t.size % 4 = 0
    · have g : ((t.size : Int) % 4 != 0) = false := by simp; omega
      have fin := hide (show t = padd X by
        have h1 := HT.out
        have h2 := hsz.out
        rw [h1.1, padd]
        congr 2
        omega)
      clear h4
      go_wp2
      go_ret
      exact ⟨by rw [← fin.out]; rfl, (by repeat (first | with_reducible exact Below.refl _ _ | with_reducible assumption | with_reducible refine Below.al ?_ _ | with_reducible refine Below.drew ?_ | with_reducible refine Below.seq ?_ (by assumption) | (with_reducible refine Below.setCell ?_ ?_ _); rotate_left; focus (first | exact Nat.le_refl _ | (simp; done) | (simp; omega))))⟩
    · have g : ((t.size : Int) % 4 != 0) = true := by simp; omega
      have HT2 := hide (show t ++ ⟨#[1]⟩ = X ++ ones (j + 1) ∧ j + 1 ≤ (4 - X.size % 4) % 4 by
        have h1 := HT.out
        have h2 := hsz.out
        exact ⟨by rw [h1.1, ones_step], by omega⟩)
      have hs2 := hide (show (t ++ ⟨#[1]⟩ : ByteArray).size = t.size + 1 by rw [ByteArray.size_append]; rfl)
      have ht2 := hide (show t.size + 1 ≤ 36 by
        have h1 := HT2.out.2
        have h2 := hsz.out
        omega)
      clear h4
      go_wp2
      go_round
      case rel => exact ⟨t ++ ⟨#[1]⟩, j + 1, rfl, HT2, by rw [hs2.out]; exact ht2.out⟩
      case measure => simp only [strSize]; rw [hs2.out]; omega
theorem spec_OT_0000 (w : World) (h : optOk 0 (-1) false 0 0 = true) :
    Calls Try.prog 43 #[.agg #[.int .i64 0, .int .i64 (-1), .bool false, .bool false, .int .i64 0, .int .i64 0]] w fun e w' => e = .returned (.string (padd (optX 0 (-1) false false 0 0))) ∧ Below w.heap.size w w' := by
  have H := hide h
  obtain ⟨X, HX⟩ : ∃ X, Hid (X = optX 0 (-1) false false 0 0) := ⟨_, hide rfl⟩
  obtain ⟨R, HR⟩ : ∃ R, Hid (R = optR 0 (-1) false) := ⟨_, hide rfl⟩
  rw [← HX.out]
  have zX : X.size ≤ 32 := by rw [HX.out]; exact size_optX _ _ _ _ _ _
  have zR : R.size ≤ 18 := by rw [HR.out]; exact size_optR _ _ _
  have HE := hide (show (⟨#[]⟩ : ByteArray) = R by rw [HR.out]; unfold optR; dsimp only; first | rfl | (simp only [ByteArray.append_assoc]; done) | (simp only [ByteArray.append_assoc]; rfl) | (simp [ByteArray.append_assoc]; done))
  have HE2 := hide (show R = X by rw [HX.out, HR.out]; rfl)
  clear h
  go_enter Try.func43, Try.ntmps43
  go_wp2_with (first | (go_at_call 47; refine (spec_OptionsOk _ _ _ _ _ _ _).mono ?_; rintro e w1 ⟨rfl, hb1⟩; rw [H.out]; have hA := keepA hb1 (newA w _ _)) | (go_at_call 75; refine (spec_PutWord _ _ _).mono ?_; rintro e w1 ⟨rfl, hb1⟩; have hA := keepA hb1 (by assumption)))
  rw [HE.out]
  rw [HE2.out]
  obtain ⟨W, HW⟩ : ∃ W : World, Hid (Below w.heap.size w W) := ⟨w, hide (Below.refl _ _)⟩
  go_loop [3] (fun o => ∃ (t : ByteArray) (j : Nat), o = .string t ∧ Hid (t = X ++ ones j ∧ j ≤ (4 - X.size % 4) % 4) ∧ t.size ≤ 36) (fun o => 40 - strSize o)
  case atStart => exact ⟨X, 0, rfl, hide ⟨(ones_zero X).symm, by omega⟩, by omega⟩
  case round =>
    obtain ⟨t, j, rfl, HT, ht⟩ := hrel
    have hsz := hide (show t.size = X.size + j by rw [HT.out.1, size_ones])
    by_cases h4 : t.size % 4 = 0
    · have g : ((t.size : Int) % 4 != 0) = false := by simp; omega
      have fin := hide (show t = padd X by
        have h1 := HT.out
        have h2 := hsz.out
        rw [h1.1, padd]
        congr 2
        omega)
      clear h4
      go_wp2
      go_ret
      exact ⟨by rw [← fin.out]; rfl, (by repeat (first | with_reducible exact Below.refl _ _ | with_reducible assumption | with_reducible refine Below.al ?_ _ | with_reducible refine Below.drew ?_ | with_reducible refine Below.seq ?_ (by assumption) | (with_reducible refine Below.setCell ?_ ?_ _); rotate_left; focus (first | exact Nat.le_refl _ | (simp; done) | (simp; omega))))⟩
    · have g : ((t.size : Int) % 4 != 0) = true := by simp; omega
      have HT2 := hide (show t ++ ⟨#[1]⟩ = X ++ ones (j + 1) ∧ j + 1 ≤ (4 - X.size % 4) % 4 by
        have h1 := HT.out
        have h2 := hsz.out
        exact ⟨by rw [h1.1, ones_step], by omega⟩)
      have hs2 := hide (show (t ++ ⟨#[1]⟩ : ByteArray).size = t.size + 1 by rw [ByteArray.size_append]; rfl)
      have ht2 := hide (show t.size + 1 ≤ 36 by
        have h1 := HT2.out.2
        have h2 := hsz.out
        omega)
      clear h4
      go_wp2
      go_round
      case rel => exact ⟨t ++ ⟨#[1]⟩, j + 1, rfl, HT2, by rw [hs2.out]; exact ht2.out⟩
      case measure => simp only [strSize]; rw [hs2.out]; omega
theorem spec_OptionsText (m s : Int) (k st : Bool) (v y : Int) (w : World) :
    Calls Try.prog 43 #[.agg #[.int .i64 m, .int .i64 s, .bool k, .bool st, .int .i64 v, .int .i64 y]] w fun e w' => e = .returned (.string (optText m s k st v y)) ∧ Below w.heap.size w w' := by
  cases h : optOk m s st v y
  · have e : optText m s k st v y = ⟨#[]⟩ := by rw [optText, h]; rfl
    rw [e]
    have H := hide h
    clear h e
    go_enter Try.func43, Try.ntmps43
    go_wp2_with (go_at_call 47; refine (spec_OptionsOk _ _ _ _ _ _ _).mono ?_; rintro e w1 ⟨rfl, hb1⟩; rw [H.out])
    go_ret
    exact ⟨rfl, (by repeat (first | with_reducible exact Below.refl _ _ | with_reducible assumption | with_reducible refine Below.al ?_ _ | with_reducible refine Below.drew ?_ | with_reducible refine Below.seq ?_ (by assumption) | (with_reducible refine Below.setCell ?_ ?_ _); rotate_left; focus (first | exact Nat.le_refl _ | (simp; done) | (simp; omega))))⟩
  · have e : optText m s k st v y = padd (optX m s k st v y) := by rw [optText, h]; rfl
    rw [e]
    obtain ⟨s0, s1, hvy⟩ := optOk_s h
    by_cases hm : m = 0
    · subst hm
      by_cases hs : s = -1
      · subst hs
        cases st
        · obtain ⟨rfl, rfl⟩ := hvy rfl
          cases k
          · exact spec_OT_0000 w h
          · exact spec_OT_0010 w h
        · cases k
          · exact spec_OT_0001 v y w h
          · exact spec_OT_0011 v y w h
      · have hs' : (s != -1) = true := by simpa using hs
        cases st
        · obtain ⟨rfl, rfl⟩ := hvy rfl
          cases k
          · exact spec_OT_0100 s w h hs' (by omega)
          · exact spec_OT_0110 s w h hs' (by omega)
        · cases k
          · exact spec_OT_0101 s v y w h hs' (by omega)
          · exact spec_OT_0111 s v y w h hs' (by omega)
    · have hm' : (m != 0) = true := by simpa using hm
      by_cases hs : s = -1
      · subst hs
        cases st
        · obtain ⟨rfl, rfl⟩ := hvy rfl
          cases k
          · exact spec_OT_1000 m w h hm'
          · exact spec_OT_1010 m w h hm'
        · cases k
          · exact spec_OT_1001 m v y w h hm'
          · exact spec_OT_1011 m v y w h hm'
      · have hs' : (s != -1) = true := by simpa using hs
        cases st
        · obtain ⟨rfl, rfl⟩ := hvy rfl
          cases k
          · exact spec_OT_1100 m s w h hm' hs' (by omega)
          · exact spec_OT_1110 m s w h hm' hs' (by omega)
        · cases k
          · exact spec_OT_1101 m s v y w h hm' hs' (by omega)
          · exact spec_OT_1111 m s v y w h hm' hs' (by omega)
end Go.Proofs.Ytahffinjglmhhaa
