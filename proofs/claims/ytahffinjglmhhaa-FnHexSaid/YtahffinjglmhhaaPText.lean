/-
  What PacketText returns, and its law's walk.
-/
import Derived.Test.YtahffinjglmhhaaText
import Derived.Test.YtahffinjglmhhaaApp
import Derived.Test.YtahffinjglmhhaaOpen
namespace Go.Proofs.Ytahffinjglmhhaa
open Go.RowKit
set_option linter.unusedVariables false

/-- The head of a packet ahead of its sum, and behind it. -/
def pkF (t p i : Int) (n : Nat) : ByteArray := ⟨#[69, 0]⟩ ++ putWord (20 + (n : Int)) 2 ++ putWord i 2 ++ ⟨#[0, 0]⟩ ++ putWord t 1 ++ putWord p 1
def pkB (s d : Int) : ByteArray := putWord s 4 ++ putWord d 4
def pktText (s d t p i : Int) (b : ByteArray) : ByteArray :=
  if pktOk s d t p i b then pkF t p i b.size ++ putWord (sumOf (pkF t p i b.size ++ pkB s d)) 2 ++ pkB s d ++ b else ⟨#[]⟩
theorem pktOk_parts {s d t p i : Int} {b : ByteArray} (h : pktOk s d t p i b = true) : wordOk s 32 = true ∧ wordOk d 32 = true ∧ rng t 1 255 = true ∧ wordOk p 8 = true ∧ wordOk i 16 = true ∧ b.size ≤ 1480 := by
  simp only [pktOk, Bool.and_eq_true, decide_eq_true_eq] at h
  obtain ⟨⟨⟨⟨⟨a, b⟩, c⟩, d⟩, e⟩, f⟩ := h
  exact ⟨a, b, c, d, e, by omega⟩
theorem pkF_size {s d t p i : Int} {b : ByteArray} (h : pktOk s d t p i b = true) : (pkF t p i b.size).size = 10 := by
  obtain ⟨a1, a2, a3, a4, a5, a6⟩ := pktOk_parts h
  obtain ⟨c1, c2⟩ := rng_true.1 a3
  have e1 := size_pw (20 + (b.size : Int)) 2 (by decide) (wordOk_small (by decide) (by omega) (show _ ≤ (2 : Int) ^ 16 - 1 by omega))
  have e2 := size_pw i 2 (by decide) a5
  have e3 := size_pw t 1 (by decide) (wordOk_small (by decide) (by omega) (show _ ≤ (2 : Int) ^ 8 - 1 by omega))
  have e4 := size_pw p 1 (by decide) a4
  unfold pkF
  simp only [ByteArray.size_append, e1, e2, e3, e4]
  rfl
theorem pk_sum {s d t p i : Int} {b : ByteArray} (h : pktOk s d t p i b = true) : sumOf (pkF t p i b.size ++ ⟨#[0, 0]⟩ ++ pkB s d) = sumOf (pkF t p i b.size ++ pkB s d) := by
  have e := pkF_size h
  unfold sumOf
  rw [wordSum_app _ _ (by rw [ByteArray.size_append, e]; rfl), wordSum_app _ _ (by rw [e]), wordSum_zero2, wordSum_app _ _ (by rw [e])]
  rw [Int.add_zero]

set_option maxHeartbeats 800000 in
theorem impl_PacketText (s d t p i : Int) (b : ByteArray) (w : World) :
    Calls Try.prog 32 #[.agg #[.int .i64 s, .int .i64 d, .int .i64 t, .int .i64 p, .int .i64 i, .string b]] w fun e w' => e = .returned (.string (pktText s d t p i b)) ∧ Below w.heap.size w w' := by
  cases h : pktOk s d t p i b
  · have e : pktText s d t p i b = ⟨#[]⟩ := by rw [pktText, h]; rfl
    rw [e]
    have H := hide h
    clear h e
    go_enter Try.func32, Try.ntmps32
    go_wp2_with (go_at_call 34; refine (impl_PacketOk _ _ _ _ _ _ _).mono ?_; rintro e w1 ⟨rfl, hb1⟩; rw [H.out])
    go_ret
    exact ⟨rfl, (by repeat (first | with_reducible exact Below.refl _ _ | with_reducible assumption | with_reducible refine Below.al ?_ _ | with_reducible refine Below.drew ?_ | with_reducible refine Below.seq ?_ (by assumption) | (with_reducible refine Below.setCell ?_ ?_ _); rotate_left; focus (first | exact Nat.le_refl _ | (simp; done) | (simp; omega))))⟩
  · obtain ⟨_, _, _, _, _, hbs⟩ := pktOk_parts h
    have hF := pkF_size h
    obtain ⟨F, HF⟩ : ∃ F, Hid (F = pkF t p i b.size) := ⟨_, hide rfl⟩
    obtain ⟨B, HB⟩ : ∃ B, Hid (B = pkB s d) := ⟨_, hide rfl⟩
    have e : pktText s d t p i b = F ++ putWord (sumOf (F ++ ⟨#[0, 0]⟩ ++ B)) 2 ++ B ++ b := by
      rw [pktText, if_pos h, HF.out, HB.out]; rw [pk_sum h]
    rw [e]
    have zF : F.size = 10 := by rw [HF.out]; exact hF
    have zF1 : F.size ≤ 10 := by omega
    clear zF
    have zB : B.size ≤ 12 := by
      rw [HB.out]
      unfold pkB
      have := size_putWord_le s 4
      have := size_putWord_le d 4
      rw [ByteArray.size_append]; omega
    have H := hide h
    have z0 := size_putWord_le (20 + (b.size : Int)) 2
    have z1 := size_putWord_le i 2
    have z2 := size_putWord_le t 1
    have z3 := size_putWord_le p 1
    have z4 := size_putWord_le s 4
    have z5 := size_putWord_le d 4
    have z6 := size_putWord_le (sumOf (F ++ ⟨#[0, 0]⟩ ++ B)) 2
    have q0 : ¬9223372036854775807 < 2 + (putWord (20 + (b.size : Int)) 2).size := by omega
    have q1 : ¬9223372036854775807 < 2 + (putWord (20 + (b.size : Int)) 2).size + (putWord i 2).size := by omega
    have q2 : ¬9223372036854775807 < 2 + (putWord (20 + (b.size : Int)) 2).size + (putWord i 2).size + 2 := by omega
    have q3 : ¬9223372036854775807 < 2 + (putWord (20 + (b.size : Int)) 2).size + (putWord i 2).size + 2 + (putWord t 1).size := by omega
    have q4 : ¬9223372036854775807 < 2 + (putWord (20 + (b.size : Int)) 2).size + (putWord i 2).size + 2 + (putWord t 1).size + (putWord p 1).size := by omega
    have q5 : ¬9223372036854775807 < (putWord s 4).size + (putWord d 4).size := by omega
    have q6 : ¬9223372036854775807 < F.size + 2 := by omega
    have q7 : ¬9223372036854775807 < F.size + 2 + B.size := by omega
    have q8 : ¬9223372036854775807 < F.size + (putWord (sumOf (F ++ ⟨#[0, 0]⟩ ++ B)) 2).size := by omega
    have q9 : ¬9223372036854775807 < F.size + (putWord (sumOf (F ++ ⟨#[0, 0]⟩ ++ B)) 2).size + B.size := by omega
    have qa : ¬9223372036854775807 < F.size + (putWord (sumOf (F ++ ⟨#[0, 0]⟩ ++ B)) 2).size + B.size + b.size := by omega
    have qb : ¬9223372036854775807 < F.size + B.size := by omega
    have hw1 : IntKind.i64.wrap (20 + (b.size : Int)) = 20 + (b.size : Int) := IntWalk.i64_in _ ⟨by omega, by omega⟩
    have hsum : (F ++ ⟨#[0, 0]⟩ ++ B).size ≤ 140737488355328 := by simp only [ByteArray.size_append]; have : (⟨#[0, 0]⟩ : ByteArray).size = 2 := rfl; omega
    have Hsum := hide hsum
    clear h e hF hsum
    go_enter Try.func32, Try.ntmps32
    go_wp2_with (go_at_call 34; refine (impl_PacketOk _ _ _ _ _ _ _).mono ?_; rintro e w1 ⟨rfl, hb1⟩; rw [H.out])
    have hA := keepA hb1 (newA w _ _)
    have hB1 : Below w.heap.size w w1 := (by repeat (first | with_reducible exact Below.refl _ _ | with_reducible assumption | with_reducible refine Below.al ?_ _ | with_reducible refine Below.drew ?_ | with_reducible refine Below.seq ?_ (by assumption) | (with_reducible refine Below.setCell ?_ ?_ _); rotate_left; focus (first | exact Nat.le_refl _ | (simp; done) | (simp; omega))))
    clear hb1
    go_region_held3 (fun w' => ∀ o, w'.cell? ⟨w.heap.size, o, none⟩ = [Value.int .i64 s, .int .i64 d, .int .i64 t, .int .i64 p, .int .i64 i, .string b].toArray[o]?) (first | exact keepA (by assumption) (by assumption) | exact keepD (by assumption) | assumption)
      (first | (go_at_call 62; refine (impl_PutWord _ _ _).mono ?_; rintro e w' ⟨rfl, hb⟩))
    all_goals
      rw [show (⟨#[69, 0]⟩ : ByteArray) ++ putWord (20 + (b.size : Int)) 2 ++ putWord i 2 ++ ⟨#[0, 0]⟩ ++ putWord t 1 ++ putWord p 1 = F from HF.out.symm]
      go_wp2_with fail
      go_region_held3 (fun w' => ∀ o, w'.cell? ⟨w.heap.size, o, none⟩ = [Value.int .i64 s, .int .i64 d, .int .i64 t, .int .i64 p, .int .i64 i, .string b].toArray[o]?) (first | exact keepA (by assumption) (by assumption) | exact keepD (by assumption) | assumption)
        (first | (go_at_call 62; refine (impl_PutWord _ _ _).mono ?_; rintro e w' ⟨rfl, hb⟩))
    all_goals
      rw [show putWord s 4 ++ putWord d 4 = B from HB.out.symm]
      go_wp2_with fail
      go_region_held3 (fun w' => ∀ o, w'.cell? ⟨w.heap.size, o, none⟩ = [Value.int .i64 s, .int .i64 d, .int .i64 t, .int .i64 p, .int .i64 i, .string b].toArray[o]?) (first | exact keepA (by assumption) (by assumption) | exact keepD (by assumption) | assumption)
        (first | (go_at_call 62; refine (impl_PutWord _ _ _).mono ?_; rintro e w' ⟨rfl, hb⟩) | (go_at_call 79; refine (impl_SumOf _ _ Hsum.out).mono ?_; rintro e w' ⟨rfl, rfl⟩))
    all_goals
      go_wp2
      go_ret
      exact ⟨rfl, (by repeat (first | with_reducible exact Below.refl _ _ | with_reducible assumption | with_reducible refine Below.al ?_ _ | with_reducible refine Below.drew ?_ | with_reducible refine Below.seq ?_ (by assumption) | (with_reducible refine Below.setCell ?_ ?_ _); rotate_left; focus (first | exact Nat.le_refl _ | (simp; done) | (simp; omega))))⟩
set_option maxHeartbeats 800000 in
theorem spec_PacketText (s d t p i : Int) (b : ByteArray) (w : World) :
    Calls Try.prog 33 #[.agg #[.int .i64 s, .int .i64 d, .int .i64 t, .int .i64 p, .int .i64 i, .string b]] w fun e w' => e = .returned (.string (pktText s d t p i b)) ∧ Below w.heap.size w w' := by
  cases h : pktOk s d t p i b
  · have e : pktText s d t p i b = ⟨#[]⟩ := by rw [pktText, h]; rfl
    rw [e]
    have H := hide h
    clear h e
    go_enter Try.func33, Try.ntmps33
    go_wp2_with (go_at_call 80; refine (spec_PacketOk _ _ _ _ _ _ _).mono ?_; rintro e w1 ⟨rfl, hb1⟩; rw [H.out])
    go_ret
    exact ⟨rfl, (by repeat (first | with_reducible exact Below.refl _ _ | with_reducible assumption | with_reducible refine Below.al ?_ _ | with_reducible refine Below.drew ?_ | with_reducible refine Below.seq ?_ (by assumption) | (with_reducible refine Below.setCell ?_ ?_ _); rotate_left; focus (first | exact Nat.le_refl _ | (simp; done) | (simp; omega))))⟩
  · obtain ⟨_, _, _, _, _, hbs⟩ := pktOk_parts h
    have hF := pkF_size h
    obtain ⟨F, HF⟩ : ∃ F, Hid (F = pkF t p i b.size) := ⟨_, hide rfl⟩
    obtain ⟨B, HB⟩ : ∃ B, Hid (B = pkB s d) := ⟨_, hide rfl⟩
    have e : pktText s d t p i b = F ++ putWord (sumOf (F ++ B)) 2 ++ B ++ b := by
      rw [pktText, if_pos h, HF.out, HB.out]
    rw [e]
    have zF : F.size = 10 := by rw [HF.out]; exact hF
    have zF1 : F.size ≤ 10 := by omega
    clear zF
    have zB : B.size ≤ 12 := by
      rw [HB.out]
      unfold pkB
      have := size_putWord_le s 4
      have := size_putWord_le d 4
      rw [ByteArray.size_append]; omega
    have H := hide h
    have z0 := size_putWord_le (20 + (b.size : Int)) 2
    have z1 := size_putWord_le i 2
    have z2 := size_putWord_le t 1
    have z3 := size_putWord_le p 1
    have z4 := size_putWord_le s 4
    have z5 := size_putWord_le d 4
    have z6 := size_putWord_le (sumOf (F ++ B)) 2
    have q0 : ¬9223372036854775807 < 2 + (putWord (20 + (b.size : Int)) 2).size := by omega
    have q1 : ¬9223372036854775807 < 2 + (putWord (20 + (b.size : Int)) 2).size + (putWord i 2).size := by omega
    have q2 : ¬9223372036854775807 < 2 + (putWord (20 + (b.size : Int)) 2).size + (putWord i 2).size + 2 := by omega
    have q3 : ¬9223372036854775807 < 2 + (putWord (20 + (b.size : Int)) 2).size + (putWord i 2).size + 2 + (putWord t 1).size := by omega
    have q4 : ¬9223372036854775807 < 2 + (putWord (20 + (b.size : Int)) 2).size + (putWord i 2).size + 2 + (putWord t 1).size + (putWord p 1).size := by omega
    have q5 : ¬9223372036854775807 < (putWord s 4).size + (putWord d 4).size := by omega
    have q6 : ¬9223372036854775807 < F.size + 2 := by omega
    have q7 : ¬9223372036854775807 < F.size + 2 + B.size := by omega
    have q8 : ¬9223372036854775807 < F.size + (putWord (sumOf (F ++ B)) 2).size := by omega
    have q9 : ¬9223372036854775807 < F.size + (putWord (sumOf (F ++ B)) 2).size + B.size := by omega
    have qa : ¬9223372036854775807 < F.size + (putWord (sumOf (F ++ B)) 2).size + B.size + b.size := by omega
    have qb : ¬9223372036854775807 < F.size + B.size := by omega
    have hw1 : IntKind.i64.wrap (20 + (b.size : Int)) = 20 + (b.size : Int) := IntWalk.i64_in _ ⟨by omega, by omega⟩
    have hsum : (F ++ B).size ≤ 140737488355328 := by simp only [ByteArray.size_append]; omega
    have Hsum := hide hsum
    clear h e hF hsum
    go_enter Try.func33, Try.ntmps33
    go_wp2_with (go_at_call 80; refine (spec_PacketOk _ _ _ _ _ _ _).mono ?_; rintro e w1 ⟨rfl, hb1⟩; rw [H.out])
    have hA := keepA hb1 (newA w _ _)
    have hB1 : Below w.heap.size w w1 := (by repeat (first | with_reducible exact Below.refl _ _ | with_reducible assumption | with_reducible refine Below.al ?_ _ | with_reducible refine Below.drew ?_ | with_reducible refine Below.seq ?_ (by assumption) | (with_reducible refine Below.setCell ?_ ?_ _); rotate_left; focus (first | exact Nat.le_refl _ | (simp; done) | (simp; omega))))
    clear hb1
    go_region_held3 (fun w' => ∀ o, w'.cell? ⟨w.heap.size, o, none⟩ = [Value.int .i64 s, .int .i64 d, .int .i64 t, .int .i64 p, .int .i64 i, .string b].toArray[o]?) (first | exact keepA (by assumption) (by assumption) | exact keepD (by assumption) | assumption)
      (first | (go_at_call 75; refine (spec_PutWord _ _ _).mono ?_; rintro e w' ⟨rfl, hb⟩))
    all_goals
      rw [show (⟨#[69, 0]⟩ : ByteArray) ++ putWord (20 + (b.size : Int)) 2 ++ putWord i 2 ++ ⟨#[0, 0]⟩ ++ putWord t 1 ++ putWord p 1 = F from HF.out.symm]
      go_wp2_with fail
      go_region_held3 (fun w' => ∀ o, w'.cell? ⟨w.heap.size, o, none⟩ = [Value.int .i64 s, .int .i64 d, .int .i64 t, .int .i64 p, .int .i64 i, .string b].toArray[o]?) (first | exact keepA (by assumption) (by assumption) | exact keepD (by assumption) | assumption)
        (first | (go_at_call 75; refine (spec_PutWord _ _ _).mono ?_; rintro e w' ⟨rfl, hb⟩))
    all_goals
      rw [show putWord s 4 ++ putWord d 4 = B from HB.out.symm]
      go_wp2_with fail
      go_region_held3 (fun w' => ∀ o, w'.cell? ⟨w.heap.size, o, none⟩ = [Value.int .i64 s, .int .i64 d, .int .i64 t, .int .i64 p, .int .i64 i, .string b].toArray[o]?) (first | exact keepA (by assumption) (by assumption) | exact keepD (by assumption) | assumption)
        (first | (go_at_call 75; refine (spec_PutWord _ _ _).mono ?_; rintro e w' ⟨rfl, hb⟩) | (go_at_call 81; refine (spec_SumOf _ _ Hsum.out).mono ?_; rintro e w' ⟨rfl, rfl⟩))
    all_goals
      go_wp2
      go_ret
      exact ⟨rfl, (by repeat (first | with_reducible exact Below.refl _ _ | with_reducible assumption | with_reducible refine Below.al ?_ _ | with_reducible refine Below.drew ?_ | with_reducible refine Below.seq ?_ (by assumption) | (with_reducible refine Below.setCell ?_ ?_ _); rotate_left; focus (first | exact Nat.le_refl _ | (simp; done) | (simp; omega))))⟩
end Go.Proofs.Ytahffinjglmhhaa
