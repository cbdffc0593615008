/-
  What the checks of frames, messages, packets, options and segments return.
-/
import Derived.Test.YtmbiajpbadfegaaNum
namespace Go.Proofs.Ytmbiajpbadfegaa
open Go.RowKit
set_option linter.unusedVariables false

def frameOk (d s t : Int) (b : ByteArray) : Bool := wordOk d 48 && wordOk s 48 && rng t 1536 65535 && decide ((b.size : Int) ≤ 1586)
def arpOk (k sh si dh di : Int) : Bool := rng k 1 2 && wordOk sh 48 && wordOk dh 48 && wordOk si 32 && wordOk di 32
def pktOk (s d t p i : Int) (b : ByteArray) : Bool := wordOk s 32 && wordOk d 32 && rng t 1 255 && wordOk p 8 && wordOk i 16 && decide ((b.size : Int) ≤ 1480)
def optOk (m s : Int) (st : Bool) (v e : Int) : Bool := (st || (v == 0 && e == 0)) && wordOk m 16 && rng s (-1) 14 && wordOk v 32 && wordOk e 32
def segOk (f t q a l n m s : Int) (st : Bool) (v e : Int) (b : ByteArray) : Bool :=
  wordOk f 16 && wordOk t 16 && wordOk n 16 && wordOk q 32 && wordOk a 32 && wordOk l 6 && optOk m s st v e && decide ((b.size : Int) ≤ 1420)

theorem impl_OptionsOk (m s : Int) (k st : Bool) (v e : Int) (w : World) :
    Calls Try.prog 43 #[.agg #[.int .i64 m, .int .i64 s, .bool k, .bool st, .int .i64 v, .int .i64 e]] w fun e' w' => e' = .returned (.bool (optOk m s st v e)) ∧ Below w.heap.size w w' := by
  cases st
  · cases h1 : v == 0
    · have g1 : (v != 0) = true := by simp [bne, h1]
      go_enter Try.func43, Try.ntmps43
      go_wp2
      go_ret
      exact ⟨ret_bool (by simp [optOk, h1]), (by repeat (first | with_reducible exact Below.refl _ _ | with_reducible assumption | with_reducible refine Below.al ?_ _ | with_reducible refine Below.drew ?_ | with_reducible refine Below.seq ?_ (by assumption) | (with_reducible refine Below.setCell ?_ ?_ _); rotate_left; focus (first | exact Nat.le_refl _ | (simp; done) | (simp; omega))))⟩
    · have g1 : (v != 0) = false := by simp [bne, h1]
      cases h2 : e == 0
      · have g2 : (e != 0) = true := by simp [bne, h2]
        go_enter Try.func43, Try.ntmps43
        go_wp2
        go_ret
        exact ⟨ret_bool (by simp [optOk, h2]), (by repeat (first | with_reducible exact Below.refl _ _ | with_reducible assumption | with_reducible refine Below.al ?_ _ | with_reducible refine Below.drew ?_ | with_reducible refine Below.seq ?_ (by assumption) | (with_reducible refine Below.setCell ?_ ?_ _); rotate_left; focus (first | exact Nat.le_refl _ | (simp; done) | (simp; omega))))⟩
      · have g2 : (e != 0) = false := by simp [bne, h2]
        have fin := hide (show optOk m s false v e = (wordOk m 16 && rng s (-1) 14 && wordOk v 32 && wordOk e 32) by rw [optOk, h1, h2]; rfl)
        have g3 : v = 0 := by simpa using h1
        have g4 : e = 0 := by simpa using h2
        subst g3 g4
        clear h1 h2 g1 g2
        go_enter Try.func43, Try.ntmps43
        go_wp2_with (first | (go_at_call 44; refine (within_any _ _ _ _).mono ?_; rintro e w1 ⟨rfl, rfl⟩) | (go_at_call 42; refine (impl_WordOk _ _ _).mono ?_; rintro e w1 ⟨rfl, rfl⟩))
        all_goals (go_ret; exact ⟨ret_bool (by rw [fin.out]; simp [*]), (by repeat (first | with_reducible exact Below.refl _ _ | with_reducible assumption | with_reducible refine Below.al ?_ _ | with_reducible refine Below.drew ?_ | with_reducible refine Below.seq ?_ (by assumption) | (with_reducible refine Below.setCell ?_ ?_ _); rotate_left; focus (first | exact Nat.le_refl _ | (simp; done) | (simp; omega))))⟩)
  · go_enter Try.func43, Try.ntmps43
    go_wp2_with (first | (go_at_call 44; refine (within_any _ _ _ _).mono ?_; rintro e w1 ⟨rfl, rfl⟩) | (go_at_call 42; refine (impl_WordOk _ _ _).mono ?_; rintro e w1 ⟨rfl, rfl⟩))
    all_goals (go_ret; exact ⟨ret_bool (by simp [optOk, *]), (by repeat (first | with_reducible exact Below.refl _ _ | with_reducible assumption | with_reducible refine Below.al ?_ _ | with_reducible refine Below.drew ?_ | with_reducible refine Below.seq ?_ (by assumption) | (with_reducible refine Below.setCell ?_ ?_ _); rotate_left; focus (first | exact Nat.le_refl _ | (simp; done) | (simp; omega))))⟩)
theorem spec_OptionsOk (m s : Int) (k st : Bool) (v e : Int) (w : World) :
    Calls Try.prog 29 #[.agg #[.int .i64 m, .int .i64 s, .bool k, .bool st, .int .i64 v, .int .i64 e]] w fun e' w' => e' = .returned (.bool (optOk m s st v e)) ∧ Below w.heap.size w w' := by
  cases st
  · cases h1 : v == 0
    · have g1 : (v != 0) = true := by simp [bne, h1]
      go_enter Try.func29, Try.ntmps29
      go_wp2
      go_ret
      exact ⟨ret_bool (by simp [optOk, h1]), (by repeat (first | with_reducible exact Below.refl _ _ | with_reducible assumption | with_reducible refine Below.al ?_ _ | with_reducible refine Below.drew ?_ | with_reducible refine Below.seq ?_ (by assumption) | (with_reducible refine Below.setCell ?_ ?_ _); rotate_left; focus (first | exact Nat.le_refl _ | (simp; done) | (simp; omega))))⟩
    · have g1 : (v != 0) = false := by simp [bne, h1]
      cases h2 : e == 0
      · have g2 : (e != 0) = true := by simp [bne, h2]
        go_enter Try.func29, Try.ntmps29
        go_wp2
        go_ret
        exact ⟨ret_bool (by simp [optOk, h2]), (by repeat (first | with_reducible exact Below.refl _ _ | with_reducible assumption | with_reducible refine Below.al ?_ _ | with_reducible refine Below.drew ?_ | with_reducible refine Below.seq ?_ (by assumption) | (with_reducible refine Below.setCell ?_ ?_ _); rotate_left; focus (first | exact Nat.le_refl _ | (simp; done) | (simp; omega))))⟩
      · have g2 : (e != 0) = false := by simp [bne, h2]
        have fin := hide (show optOk m s false v e = (wordOk m 16 && rng s (-1) 14 && wordOk v 32 && wordOk e 32) by rw [optOk, h1, h2]; rfl)
        have g3 : v = 0 := by simpa using h1
        have g4 : e = 0 := by simpa using h2
        subst g3 g4
        clear h1 h2 g1 g2
        go_enter Try.func29, Try.ntmps29
        go_wp2_with (first | (go_at_call 30; refine (l1In_any _ _ _ _).mono ?_; rintro e w1 ⟨rfl, rfl⟩) | (go_at_call 10; refine (spec_WordOk _ _ _).mono ?_; rintro e w1 ⟨rfl, rfl⟩))
        all_goals (go_ret; exact ⟨ret_bool (by rw [fin.out]; simp [*]), (by repeat (first | with_reducible exact Below.refl _ _ | with_reducible assumption | with_reducible refine Below.al ?_ _ | with_reducible refine Below.drew ?_ | with_reducible refine Below.seq ?_ (by assumption) | (with_reducible refine Below.setCell ?_ ?_ _); rotate_left; focus (first | exact Nat.le_refl _ | (simp; done) | (simp; omega))))⟩)
  · go_enter Try.func29, Try.ntmps29
    go_wp2_with (first | (go_at_call 30; refine (l1In_any _ _ _ _).mono ?_; rintro e w1 ⟨rfl, rfl⟩) | (go_at_call 10; refine (spec_WordOk _ _ _).mono ?_; rintro e w1 ⟨rfl, rfl⟩))
    all_goals (go_ret; exact ⟨ret_bool (by simp [optOk, *]), (by repeat (first | with_reducible exact Below.refl _ _ | with_reducible assumption | with_reducible refine Below.al ?_ _ | with_reducible refine Below.drew ?_ | with_reducible refine Below.seq ?_ (by assumption) | (with_reducible refine Below.setCell ?_ ?_ _); rotate_left; focus (first | exact Nat.le_refl _ | (simp; done) | (simp; omega))))⟩)
theorem impl_SegmentOk (f t q a l n m s : Int) (k st : Bool) (v y : Int) (b : ByteArray) (w : World) :
    Calls Try.prog 20 #[.agg #[.int .i64 f, .int .i64 t, .int .i64 q, .int .i64 a, .int .i64 l, .int .i64 n, .int .i64 m, .int .i64 s, .bool k, .bool st, .int .i64 v, .int .i64 y, .string b]] w fun e w' => e = .returned (.bool (segOk f t q a l n m s st v y b)) ∧ Below w.heap.size w w' := by
  go_enter Try.func20, Try.ntmps20
  go_wp2_with (first | (go_at_call 44; refine (within_any _ _ _ _).mono ?_; rintro e w1 ⟨rfl, rfl⟩) | (go_at_call 42; refine (impl_WordOk _ _ _).mono ?_; rintro e w1 ⟨rfl, rfl⟩) | (go_at_call 43; refine (impl_OptionsOk _ _ _ _ _ _ _).mono ?_; rintro e w1 ⟨rfl, hb1⟩; obtain ⟨hc, hf⟩ := bcell hb1; have hz0 : w.heap.size < w1.heap.size := (by have := hb1.size; (try simp at this); omega)))
  all_goals (go_ret; exact ⟨ret_bool (by simp [segOk, *]), (by repeat (first | with_reducible exact Below.refl _ _ | with_reducible assumption | with_reducible refine Below.al ?_ _ | with_reducible refine Below.drew ?_ | with_reducible refine Below.seq ?_ (by assumption) | (with_reducible refine Below.setCell ?_ ?_ _); rotate_left; focus (first | exact Nat.le_refl _ | (simp; done) | (simp; omega))))⟩)
theorem spec_SegmentOk (f t q a l n m s : Int) (k st : Bool) (v y : Int) (b : ByteArray) (w : World) :
    Calls Try.prog 9 #[.agg #[.int .i64 f, .int .i64 t, .int .i64 q, .int .i64 a, .int .i64 l, .int .i64 n, .int .i64 m, .int .i64 s, .bool k, .bool st, .int .i64 v, .int .i64 y, .string b]] w fun e w' => e = .returned (.bool (segOk f t q a l n m s st v y b)) ∧ Below w.heap.size w w' := by
  go_enter Try.func9, Try.ntmps9
  go_wp2_with (first | (go_at_call 30; refine (l1In_any _ _ _ _).mono ?_; rintro e w1 ⟨rfl, rfl⟩) | (go_at_call 10; refine (spec_WordOk _ _ _).mono ?_; rintro e w1 ⟨rfl, rfl⟩) | (go_at_call 29; refine (spec_OptionsOk _ _ _ _ _ _ _).mono ?_; rintro e w1 ⟨rfl, hb1⟩; obtain ⟨hc, hf⟩ := bcell hb1; have hz0 : w.heap.size < w1.heap.size := (by have := hb1.size; (try simp at this); omega)))
  all_goals (go_ret; exact ⟨ret_bool (by simp [segOk, *]), (by repeat (first | with_reducible exact Below.refl _ _ | with_reducible assumption | with_reducible refine Below.al ?_ _ | with_reducible refine Below.drew ?_ | with_reducible refine Below.seq ?_ (by assumption) | (with_reducible refine Below.setCell ?_ ?_ _); rotate_left; focus (first | exact Nat.le_refl _ | (simp; done) | (simp; omega))))⟩)
theorem impl_NoOptions (w : World) :
    Calls Try.prog 49 #[] w fun e w' => e = .returned (.agg #[.int .i64 0, .int .i64 (-1), .bool false, .bool false, .int .i64 0, .int .i64 0]) ∧ Below w.heap.size w w' := by
  go_enter Try.func49, Try.ntmps49
  go_wp2
  simp [bodyPost, results, Try.results49, go_sem]
  exact (by repeat (first | with_reducible exact Below.refl _ _ | with_reducible assumption | with_reducible refine Below.al ?_ _ | with_reducible refine Below.drew ?_ | with_reducible refine Below.seq ?_ (by assumption) | (with_reducible refine Below.setCell ?_ ?_ _); rotate_left; focus (first | exact Nat.le_refl _ | (simp; done) | (simp; omega))))
theorem spec_NoOptions (w : World) :
    Calls Try.prog 58 #[] w fun e w' => e = .returned (.agg #[.int .i64 0, .int .i64 (-1), .bool false, .bool false, .int .i64 0, .int .i64 0]) ∧ Below w.heap.size w w' := by
  go_enter Try.func58, Try.ntmps58
  go_wp2
  simp [bodyPost, results, Try.results58, go_sem]
  exact (by repeat (first | with_reducible exact Below.refl _ _ | with_reducible assumption | with_reducible refine Below.al ?_ _ | with_reducible refine Below.drew ?_ | with_reducible refine Below.seq ?_ (by assumption) | (with_reducible refine Below.setCell ?_ ?_ _); rotate_left; focus (first | exact Nat.le_refl _ | (simp; done) | (simp; omega))))
def hasFl (l x : Int) : Bool := bits .and .i64 l x == x
def segLen (l : Int) (n : Nat) : Int := n + (if hasFl l 2 then 1 else 0) + (if hasFl l 1 then 1 else 0)
end Go.Proofs.Ytmbiajpbadfegaa
