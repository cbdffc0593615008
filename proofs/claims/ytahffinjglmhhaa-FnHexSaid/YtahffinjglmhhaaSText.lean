/-
  What SegmentText returns, and its law's walk.
-/
import Derived.Test.YtahffinjglmhhaaOText
namespace Go.Proofs.Ytahffinjglmhhaa
open Go.RowKit
set_option linter.unusedVariables false

def sgF (f t q a l n : Int) (o : Nat) : ByteArray := putWord f 2 ++ putWord t 2 ++ putWord q 4 ++ putWord a 4 ++ putWord ((20 + (o : Int)) / 4 * 16) 1 ++ putWord l 1 ++ putWord n 2
def sgB (o b : ByteArray) : ByteArray := ⟨#[0, 0]⟩ ++ o ++ b
def sgBody (f t q a l n : Int) (h o b : ByteArray) : ByteArray := sgF f t q a l n o.size ++ putWord (sumOf (h ++ sgF f t q a l n o.size ++ ⟨#[0, 0]⟩ ++ sgB o b)) 2 ++ sgB o b
def segText (f t q a l n m s : Int) (k st : Bool) (v y : Int) (b : ByteArray) (src dst : Int) : ByteArray :=
  if segOk f t q a l n m s st v y b && headOk src dst (20 + ((optText m s k st v y).size : Int) + (b.size : Int)) then
    sgBody f t q a l n (pseudo src dst (20 + ((optText m s k st v y).size : Int) + (b.size : Int))) (optText m s k st v y) b else ⟨#[]⟩
theorem size_optText (m s : Int) (k st : Bool) (v y : Int) : (optText m s k st v y).size ≤ 36 := by
  unfold optText
  split
  · have := size_optX m s k st v y
    unfold padd
    rw [size_ones]
    omega
  · show (⟨#[]⟩ : ByteArray).size ≤ 36
    decide
theorem segOk_b {f t q a l n m s : Int} {st : Bool} {v y : Int} {b : ByteArray} (h : segOk f t q a l n m s st v y b = true) : b.size ≤ 1420 := by
  simp only [segOk, Bool.and_eq_true, decide_eq_true_eq] at h
  omega
theorem pseudo_size {s d l : Int} (h : headOk s d l = true) : (pseudo s d l).size = 12 := by
  have h' := h
  rw [headOk, Bool.and_eq_true, Bool.and_eq_true] at h'
  obtain ⟨⟨a, b⟩, c⟩ := h'
  rw [pseudo, h, if_pos rfl]
  simp only [ByteArray.size_append, size_putWord_ok (show rng 4 1 6 = true by decide) a, size_putWord_ok (show rng 4 1 6 = true by decide) b, size_putWord_ok (show rng 2 1 6 = true by decide) c]
  rfl
theorem str_ne0 (s : ByteArray) (h : 0 < s.size) : (s.toList == []) = false ∧ s.toList.isEmpty = false ∧ ¬ s.toList = [] := by
  have h1 : s.toList ≠ [] := fun e => by rw [toList_nil_iff] at e; omega
  cases hs : s.toList with
  | nil => exact absurd hs h1
  | cons a b => exact ⟨rfl, rfl, by simp⟩

set_option maxHeartbeats 1600000 in
theorem spec_SegmentText (f t q a l n m s : Int) (k st : Bool) (v y : Int) (b : ByteArray) (src dst : Int) (w : World) :
    Calls Try.prog 90 #[.agg #[.int .i64 f, .int .i64 t, .int .i64 q, .int .i64 a, .int .i64 l, .int .i64 n, .int .i64 m, .int .i64 s, .bool k, .bool st, .int .i64 v, .int .i64 y, .string b], .int .i64 src, .int .i64 dst] w fun e w' => e = .returned (.string (segText f t q a l n m s k st v y b src dst)) ∧ Below w.heap.size w w' := by
  cases h : segOk f t q a l n m s st v y b
  · have e : segText f t q a l n m s k st v y b src dst = ⟨#[]⟩ := by rw [segText, h]; rfl
    rw [e]
    have H := hide h
    clear h e
    go_enter Try.func90, Try.ntmps90
    go_wp2_with (go_at_call 95; refine (spec_SegmentOk _ _ _ _ _ _ _ _ _ _ _ _ _ _).mono ?_; rintro e w1 ⟨rfl, hb1⟩; rw [H.out])
    go_ret
    exact ⟨rfl, (by repeat (first | with_reducible exact Below.refl _ _ | with_reducible assumption | with_reducible refine Below.al ?_ _ | with_reducible refine Below.drew ?_ | with_reducible refine Below.seq ?_ (by assumption) | (with_reducible refine Below.setCell ?_ ?_ _); rotate_left; focus (first | exact Nat.le_refl _ | (simp; done) | (simp; omega))))⟩
  have hbs := segOk_b h
  have H := hide h
  obtain ⟨O, HO⟩ : ∃ O, Hid (O = optText m s k st v y) := ⟨_, hide rfl⟩
  have zO : O.size ≤ 36 := by rw [HO.out]; exact size_optText _ _ _ _ _ _
  cases hh : headOk src dst (20 + (O.size : Int) + (b.size : Int))
  · have e : segText f t q a l n m s k st v y b src dst = ⟨#[]⟩ := by rw [segText, h, ← HO.out, hh]; rfl
    rw [e]
    have HP := hide (show pseudo src dst (20 + (O.size : Int) + (b.size : Int)) = ⟨#[]⟩ by rw [pseudo, hh]; rfl)
    clear h e hh
    go_enter Try.func90, Try.ntmps90
    go_wp2_with (first
      | (go_at_call 95; refine (spec_SegmentOk _ _ _ _ _ _ _ _ _ _ _ _ _ _).mono ?_; rintro e w1 ⟨rfl, hb1⟩; rw [H.out]; have hA := keepA hb1 (newA w _ _))
      | (go_at_call 43; refine (spec_OptionsText _ _ _ _ _ _ _).mono ?_; rintro e w1 ⟨rfl, hb1⟩; rw [← HO.out]; have hA := keepA hb1 (by assumption))
      | (go_at_call 93; refine (spec_PseudoHead _ _ _ _).mono ?_; rintro e w1 ⟨rfl, hb1⟩; rw [HP.out]; have hA := keepA hb1 (by assumption)))
    go_ret
    exact ⟨rfl, (by repeat (first | with_reducible exact Below.refl _ _ | with_reducible assumption | with_reducible refine Below.al ?_ _ | with_reducible refine Below.drew ?_ | with_reducible refine Below.seq ?_ (by assumption) | (with_reducible refine Below.setCell ?_ ?_ _); rotate_left; focus (first | exact Nat.le_refl _ | (simp; done) | (simp; omega))))⟩
  · have hps := pseudo_size hh
    obtain ⟨P, HP0⟩ : ∃ P, Hid (P = pseudo src dst (20 + (O.size : Int) + (b.size : Int))) := ⟨_, hide rfl⟩
    have HP := hide HP0.out.symm
    have zP : P.size ≤ 12 ∧ 0 < P.size := by rw [HP0.out, hps]; decide
    obtain ⟨zP1, zP2⟩ := zP
    obtain ⟨n1, n2, n3⟩ := str_ne0 P zP2
    obtain ⟨F, HF⟩ : ∃ F, Hid (F = sgF f t q a l n O.size) := ⟨_, hide rfl⟩
    obtain ⟨B, HB⟩ : ∃ B, Hid (B = sgB O b) := ⟨_, hide rfl⟩
    have e : segText f t q a l n m s k st v y b src dst = F ++ putWord (sumOf (P ++ F ++ ⟨#[0, 0]⟩ ++ B)) 2 ++ B := by
      rw [segText, h, ← HO.out, hh, ← HP0.out]
      rw [HF.out, HB.out]
      rfl
    rw [e]
    have z0 := size_putWord_le f 2
    have z1 := size_putWord_le t 2
    have z2 := size_putWord_le q 4
    have z3 := size_putWord_le a 4
    have z4 := size_putWord_le ((20 + (O.size : Int)) / 4 * 16) 1
    have z5 := size_putWord_le l 1
    have z6 := size_putWord_le n 2
    have z7 := size_putWord_le (sumOf (P ++ F ++ ⟨#[0, 0]⟩ ++ B)) 2
    have zF : F.size ≤ 42 := by
      rw [HF.out]; unfold sgF
      simp only [ByteArray.size_append]; omega
    have c2 : (⟨#[0, 0]⟩ : ByteArray).size = 2 := rfl
    have zB : B.size ≤ 1458 := by
      rw [HB.out]; unfold sgB
      simp only [ByteArray.size_append, c2]; omega
    have hsum : (P ++ F ++ ⟨#[0, 0]⟩ ++ B).size ≤ 140737488355328 := by simp only [ByteArray.size_append, c2]; omega
    have Hsum := hide hsum
    clear c2
    have q0 : ¬9223372036854775807 < (putWord f 2).size + (putWord t 2).size := by omega
    have q1 : ¬9223372036854775807 < (putWord f 2).size + (putWord t 2).size + (putWord q 4).size := by omega
    have q2 : ¬9223372036854775807 < (putWord f 2).size + (putWord t 2).size + (putWord q 4).size + (putWord a 4).size := by omega
    have q3 : ¬9223372036854775807 < (putWord f 2).size + (putWord t 2).size + (putWord q 4).size + (putWord a 4).size + (putWord ((20 + (O.size : Int)) / 4 * 16) 1).size := by omega
    have q4 : ¬9223372036854775807 < (putWord f 2).size + (putWord t 2).size + (putWord q 4).size + (putWord a 4).size + (putWord ((20 + (O.size : Int)) / 4 * 16) 1).size + (putWord l 1).size := by omega
    have q5 : ¬9223372036854775807 < (putWord f 2).size + (putWord t 2).size + (putWord q 4).size + (putWord a 4).size + (putWord ((20 + (O.size : Int)) / 4 * 16) 1).size + (putWord l 1).size + (putWord n 2).size := by omega
    have x1 : IntKind.i64.wrap (20 + (O.size : Int)) = 20 + (O.size : Int) := IntWalk.i64_in _ ⟨by omega, by omega⟩
    have x2 : IntKind.i64.wrap ((20 + (O.size : Int)).tdiv 4) = (20 + (O.size : Int)) / 4 := IntWalk.i64_quo _ _ ⟨by omega, by omega, by omega⟩
    have x3 : IntKind.i64.wrap ((20 + (O.size : Int)) / 4 * 16) = (20 + (O.size : Int)) / 4 * 16 := IntWalk.i64_in _ ⟨by omega, by omega⟩
    have x4 : IntKind.i64.wrap ((20 + (O.size : Int)) / 4) = (20 + (O.size : Int)) / 4 := IntWalk.i64_in _ ⟨by omega, by omega⟩
    clear h e hh hps hsum
    go_enter Try.func90, Try.ntmps90
    go_wp2_with (first
      | (go_at_call 95; refine (spec_SegmentOk _ _ _ _ _ _ _ _ _ _ _ _ _ _).mono ?_; rintro e w1 ⟨rfl, hb1⟩; rw [H.out]; have hA := keepA hb1 (newA w _ _))
      | (go_at_call 43; refine (spec_OptionsText _ _ _ _ _ _ _).mono ?_; rintro e w1 ⟨rfl, hb1⟩; rw [← HO.out]; have hA := keepA hb1 (by assumption))
      | (go_at_call 93; refine (spec_PseudoHead _ _ _ _).mono ?_; rintro e w1 ⟨rfl, hb1⟩; rw [HP.out]; have hA := keepA hb1 (by assumption)))
    go_region_held3 (fun w' => ∀ o, w'.cell? ⟨w.heap.size, o, none⟩ = [Value.int .i64 f, .int .i64 t, .int .i64 q, .int .i64 a, .int .i64 l, .int .i64 n, .int .i64 m, .int .i64 s, .bool k, .bool st, .int .i64 v, .int .i64 y, .string b].toArray[o]?) (first | exact keepA (by assumption) (by assumption) | exact keepD (by assumption) | assumption)
      (first | (go_at_call 75; refine (spec_PutWord _ _ _).mono ?_; rintro e w' ⟨rfl, hb⟩))
    all_goals
      rw [show putWord f 2 ++ putWord t 2 ++ putWord q 4 ++ putWord a 4 ++ putWord ((20 + (O.size : Int)) / 4 * 16) 1 ++ putWord l 1 ++ putWord n 2 = F from HF.out.symm]
      clear q0 q1 q2 q3 q4 q5 x1 x2 x3 x4 z0 z1 z2 z3 z4 z5 z6
      go_wp2_with (first
        | (go_at_call 81; rw [show (⟨#[0, 0]⟩ : ByteArray) ++ O ++ b = B from HB.out.symm]; refine (spec_SumOf _ _ Hsum.out).mono ?_; rintro e w' ⟨rfl, rfl⟩)
        | (go_at_call 75; refine (spec_PutWord _ _ _).mono ?_; rintro e w' ⟨rfl, hb⟩))
      go_ret
      exact ⟨rfl, (by repeat (first | with_reducible exact Below.refl _ _ | with_reducible assumption | with_reducible refine Below.al ?_ _ | with_reducible refine Below.drew ?_ | with_reducible refine Below.seq ?_ (by assumption) | (with_reducible refine Below.setCell ?_ ?_ _); rotate_left; focus (first | exact Nat.le_refl _ | (simp; done) | (simp; omega))))⟩
end Go.Proofs.Ytahffinjglmhhaa
