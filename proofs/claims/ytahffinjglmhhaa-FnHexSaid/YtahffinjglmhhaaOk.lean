/-
  What the checks of frames, messages, packets, options and segments return.
-/
import Derived.Test.YtahffinjglmhhaaNum
namespace Go.Proofs.Ytahffinjglmhhaa
open Go.RowKit
set_option linter.unusedVariables false

def frameOk (d s t : Int) (b : ByteArray) : Bool := wordOk d 48 && wordOk s 48 && rng t 1536 65535 && decide ((b.size : Int) ≤ 1586)
def arpOk (k sh si dh di : Int) : Bool := rng k 1 2 && wordOk sh 48 && wordOk dh 48 && wordOk si 32 && wordOk di 32
def pktOk (s d t p i : Int) (b : ByteArray) : Bool := wordOk s 32 && wordOk d 32 && rng t 1 255 && wordOk p 8 && wordOk i 16 && decide ((b.size : Int) ≤ 1480)
def optOk (m s : Int) (st : Bool) (v e : Int) : Bool := (st || (v == 0 && e == 0)) && wordOk m 16 && rng s (-1) 14 && wordOk v 32 && wordOk e 32
def segOk (f t q a l n m s : Int) (st : Bool) (v e : Int) (b : ByteArray) : Bool :=
  wordOk f 16 && wordOk t 16 && wordOk n 16 && wordOk q 32 && wordOk a 32 && wordOk l 6 && optOk m s st v e && decide ((b.size : Int) ≤ 1420)

theorem impl_FrameOk (d s t : Int) (b : ByteArray) (w : World) :
    Calls Try.prog 30 #[.agg #[.int .i64 d, .int .i64 s, .int .i64 t, .string b]] w fun e w' => e = .returned (.bool (frameOk d s t b)) ∧ Below w.heap.size w w' := by
  go_enter Try.func30, Try.ntmps30
  go_wp2_with (first | (go_at_call 65; refine (within_any _ _ _ _).mono ?_; rintro e w1 ⟨rfl, rfl⟩) | (go_at_call 66; refine (impl_WordOk _ _ _).mono ?_; rintro e w1 ⟨rfl, rfl⟩))
  all_goals (go_ret; exact ⟨ret_bool (by simp [frameOk, *]), (by repeat (first | with_reducible exact Below.refl _ _ | with_reducible assumption | with_reducible refine Below.al ?_ _ | with_reducible refine Below.drew ?_ | with_reducible refine Below.seq ?_ (by assumption) | (with_reducible refine Below.setCell ?_ ?_ _); rotate_left; focus (first | exact Nat.le_refl _ | (simp; done) | (simp; omega))))⟩)
theorem spec_FrameOk (d s t : Int) (b : ByteArray) (w : World) :
    Calls Try.prog 74 #[.agg #[.int .i64 d, .int .i64 s, .int .i64 t, .string b]] w fun e w' => e = .returned (.bool (frameOk d s t b)) ∧ Below w.heap.size w w' := by
  go_enter Try.func74, Try.ntmps74
  go_wp2_with (first | (go_at_call 63; refine (l1In_any _ _ _ _).mono ?_; rintro e w1 ⟨rfl, rfl⟩) | (go_at_call 64; refine (spec_WordOk _ _ _).mono ?_; rintro e w1 ⟨rfl, rfl⟩))
  all_goals (go_ret; exact ⟨ret_bool (by simp [frameOk, *]), (by repeat (first | with_reducible exact Below.refl _ _ | with_reducible assumption | with_reducible refine Below.al ?_ _ | with_reducible refine Below.drew ?_ | with_reducible refine Below.seq ?_ (by assumption) | (with_reducible refine Below.setCell ?_ ?_ _); rotate_left; focus (first | exact Nat.le_refl _ | (simp; done) | (simp; omega))))⟩)
theorem impl_ArpOk (k sh si dh di : Int) (w : World) :
    Calls Try.prog 17 #[.agg #[.int .i64 k, .int .i64 sh, .int .i64 si, .int .i64 dh, .int .i64 di]] w fun e w' => e = .returned (.bool (arpOk k sh si dh di)) ∧ Below w.heap.size w w' := by
  go_enter Try.func17, Try.ntmps17
  go_wp2_with (first | (go_at_call 65; refine (within_any _ _ _ _).mono ?_; rintro e w1 ⟨rfl, rfl⟩) | (go_at_call 66; refine (impl_WordOk _ _ _).mono ?_; rintro e w1 ⟨rfl, rfl⟩))
  all_goals (go_ret; exact ⟨ret_bool (by simp [arpOk, *]), (by repeat (first | with_reducible exact Below.refl _ _ | with_reducible assumption | with_reducible refine Below.al ?_ _ | with_reducible refine Below.drew ?_ | with_reducible refine Below.seq ?_ (by assumption) | (with_reducible refine Below.setCell ?_ ?_ _); rotate_left; focus (first | exact Nat.le_refl _ | (simp; done) | (simp; omega))))⟩)
theorem spec_ArpOk (k sh si dh di : Int) (w : World) :
    Calls Try.prog 16 #[.agg #[.int .i64 k, .int .i64 sh, .int .i64 si, .int .i64 dh, .int .i64 di]] w fun e w' => e = .returned (.bool (arpOk k sh si dh di)) ∧ Below w.heap.size w w' := by
  go_enter Try.func16, Try.ntmps16
  go_wp2_with (first | (go_at_call 63; refine (l1In_any _ _ _ _).mono ?_; rintro e w1 ⟨rfl, rfl⟩) | (go_at_call 64; refine (spec_WordOk _ _ _).mono ?_; rintro e w1 ⟨rfl, rfl⟩))
  all_goals (go_ret; exact ⟨ret_bool (by simp [arpOk, *]), (by repeat (first | with_reducible exact Below.refl _ _ | with_reducible assumption | with_reducible refine Below.al ?_ _ | with_reducible refine Below.drew ?_ | with_reducible refine Below.seq ?_ (by assumption) | (with_reducible refine Below.setCell ?_ ?_ _); rotate_left; focus (first | exact Nat.le_refl _ | (simp; done) | (simp; omega))))⟩)
theorem impl_PacketOk (s d t p i : Int) (b : ByteArray) (w : World) :
    Calls Try.prog 34 #[.agg #[.int .i64 s, .int .i64 d, .int .i64 t, .int .i64 p, .int .i64 i, .string b]] w fun e w' => e = .returned (.bool (pktOk s d t p i b)) ∧ Below w.heap.size w w' := by
  go_enter Try.func34, Try.ntmps34
  go_wp2_with (first | (go_at_call 65; refine (within_any _ _ _ _).mono ?_; rintro e w1 ⟨rfl, rfl⟩) | (go_at_call 66; refine (impl_WordOk _ _ _).mono ?_; rintro e w1 ⟨rfl, rfl⟩))
  all_goals (go_ret; exact ⟨ret_bool (by simp [pktOk, *]), (by repeat (first | with_reducible exact Below.refl _ _ | with_reducible assumption | with_reducible refine Below.al ?_ _ | with_reducible refine Below.drew ?_ | with_reducible refine Below.seq ?_ (by assumption) | (with_reducible refine Below.setCell ?_ ?_ _); rotate_left; focus (first | exact Nat.le_refl _ | (simp; done) | (simp; omega))))⟩)
theorem spec_PacketOk (s d t p i : Int) (b : ByteArray) (w : World) :
    Calls Try.prog 80 #[.agg #[.int .i64 s, .int .i64 d, .int .i64 t, .int .i64 p, .int .i64 i, .string b]] w fun e w' => e = .returned (.bool (pktOk s d t p i b)) ∧ Below w.heap.size w w' := by
  go_enter Try.func80, Try.ntmps80
  go_wp2_with (first | (go_at_call 63; refine (l1In_any _ _ _ _).mono ?_; rintro e w1 ⟨rfl, rfl⟩) | (go_at_call 64; refine (spec_WordOk _ _ _).mono ?_; rintro e w1 ⟨rfl, rfl⟩))
  all_goals (go_ret; exact ⟨ret_bool (by simp [pktOk, *]), (by repeat (first | with_reducible exact Below.refl _ _ | with_reducible assumption | with_reducible refine Below.al ?_ _ | with_reducible refine Below.drew ?_ | with_reducible refine Below.seq ?_ (by assumption) | (with_reducible refine Below.setCell ?_ ?_ _); rotate_left; focus (first | exact Nat.le_refl _ | (simp; done) | (simp; omega))))⟩)
theorem impl_OptionsOk (m s : Int) (k st : Bool) (v e : Int) (w : World) :
    Calls Try.prog 48 #[.agg #[.int .i64 m, .int .i64 s, .bool k, .bool st, .int .i64 v, .int .i64 e]] w fun e' w' => e' = .returned (.bool (optOk m s st v e)) ∧ Below w.heap.size w w' := by
  cases st
  · cases h1 : v == 0
    · have g1 : (v != 0) = true := by simp [bne, h1]
      go_enter Try.func48, Try.ntmps48
      go_wp2
      go_ret
      exact ⟨ret_bool (by simp [optOk, h1]), (by repeat (first | with_reducible exact Below.refl _ _ | with_reducible assumption | with_reducible refine Below.al ?_ _ | with_reducible refine Below.drew ?_ | with_reducible refine Below.seq ?_ (by assumption) | (with_reducible refine Below.setCell ?_ ?_ _); rotate_left; focus (first | exact Nat.le_refl _ | (simp; done) | (simp; omega))))⟩
    · have g1 : (v != 0) = false := by simp [bne, h1]
      cases h2 : e == 0
      · have g2 : (e != 0) = true := by simp [bne, h2]
        go_enter Try.func48, Try.ntmps48
        go_wp2
        go_ret
        exact ⟨ret_bool (by simp [optOk, h2]), (by repeat (first | with_reducible exact Below.refl _ _ | with_reducible assumption | with_reducible refine Below.al ?_ _ | with_reducible refine Below.drew ?_ | with_reducible refine Below.seq ?_ (by assumption) | (with_reducible refine Below.setCell ?_ ?_ _); rotate_left; focus (first | exact Nat.le_refl _ | (simp; done) | (simp; omega))))⟩
      · have g2 : (e != 0) = false := by simp [bne, h2]
        have fin := hide (show optOk m s false v e = (wordOk m 16 && rng s (-1) 14 && wordOk v 32 && wordOk e 32) by rw [optOk, h1, h2]; rfl)
        have g3 : v = 0 := by simpa using h1
        have g4 : e = 0 := by simpa using h2
        subst g3 g4
        clear h1 h2 g1 g2
        go_enter Try.func48, Try.ntmps48
        go_wp2_with (first | (go_at_call 65; refine (within_any _ _ _ _).mono ?_; rintro e w1 ⟨rfl, rfl⟩) | (go_at_call 66; refine (impl_WordOk _ _ _).mono ?_; rintro e w1 ⟨rfl, rfl⟩))
        all_goals (go_ret; exact ⟨ret_bool (by rw [fin.out]; simp [*]), (by repeat (first | with_reducible exact Below.refl _ _ | with_reducible assumption | with_reducible refine Below.al ?_ _ | with_reducible refine Below.drew ?_ | with_reducible refine Below.seq ?_ (by assumption) | (with_reducible refine Below.setCell ?_ ?_ _); rotate_left; focus (first | exact Nat.le_refl _ | (simp; done) | (simp; omega))))⟩)
  · go_enter Try.func48, Try.ntmps48
    go_wp2_with (first | (go_at_call 65; refine (within_any _ _ _ _).mono ?_; rintro e w1 ⟨rfl, rfl⟩) | (go_at_call 66; refine (impl_WordOk _ _ _).mono ?_; rintro e w1 ⟨rfl, rfl⟩))
    all_goals (go_ret; exact ⟨ret_bool (by simp [optOk, *]), (by repeat (first | with_reducible exact Below.refl _ _ | with_reducible assumption | with_reducible refine Below.al ?_ _ | with_reducible refine Below.drew ?_ | with_reducible refine Below.seq ?_ (by assumption) | (with_reducible refine Below.setCell ?_ ?_ _); rotate_left; focus (first | exact Nat.le_refl _ | (simp; done) | (simp; omega))))⟩)
theorem spec_OptionsOk (m s : Int) (k st : Bool) (v e : Int) (w : World) :
    Calls Try.prog 47 #[.agg #[.int .i64 m, .int .i64 s, .bool k, .bool st, .int .i64 v, .int .i64 e]] w fun e' w' => e' = .returned (.bool (optOk m s st v e)) ∧ Below w.heap.size w w' := by
  cases st
  · cases h1 : v == 0
    · have g1 : (v != 0) = true := by simp [bne, h1]
      go_enter Try.func47, Try.ntmps47
      go_wp2
      go_ret
      exact ⟨ret_bool (by simp [optOk, h1]), (by repeat (first | with_reducible exact Below.refl _ _ | with_reducible assumption | with_reducible refine Below.al ?_ _ | with_reducible refine Below.drew ?_ | with_reducible refine Below.seq ?_ (by assumption) | (with_reducible refine Below.setCell ?_ ?_ _); rotate_left; focus (first | exact Nat.le_refl _ | (simp; done) | (simp; omega))))⟩
    · have g1 : (v != 0) = false := by simp [bne, h1]
      cases h2 : e == 0
      · have g2 : (e != 0) = true := by simp [bne, h2]
        go_enter Try.func47, Try.ntmps47
        go_wp2
        go_ret
        exact ⟨ret_bool (by simp [optOk, h2]), (by repeat (first | with_reducible exact Below.refl _ _ | with_reducible assumption | with_reducible refine Below.al ?_ _ | with_reducible refine Below.drew ?_ | with_reducible refine Below.seq ?_ (by assumption) | (with_reducible refine Below.setCell ?_ ?_ _); rotate_left; focus (first | exact Nat.le_refl _ | (simp; done) | (simp; omega))))⟩
      · have g2 : (e != 0) = false := by simp [bne, h2]
        have fin := hide (show optOk m s false v e = (wordOk m 16 && rng s (-1) 14 && wordOk v 32 && wordOk e 32) by rw [optOk, h1, h2]; rfl)
        have g3 : v = 0 := by simpa using h1
        have g4 : e = 0 := by simpa using h2
        subst g3 g4
        clear h1 h2 g1 g2
        go_enter Try.func47, Try.ntmps47
        go_wp2_with (first | (go_at_call 63; refine (l1In_any _ _ _ _).mono ?_; rintro e w1 ⟨rfl, rfl⟩) | (go_at_call 64; refine (spec_WordOk _ _ _).mono ?_; rintro e w1 ⟨rfl, rfl⟩))
        all_goals (go_ret; exact ⟨ret_bool (by rw [fin.out]; simp [*]), (by repeat (first | with_reducible exact Below.refl _ _ | with_reducible assumption | with_reducible refine Below.al ?_ _ | with_reducible refine Below.drew ?_ | with_reducible refine Below.seq ?_ (by assumption) | (with_reducible refine Below.setCell ?_ ?_ _); rotate_left; focus (first | exact Nat.le_refl _ | (simp; done) | (simp; omega))))⟩)
  · go_enter Try.func47, Try.ntmps47
    go_wp2_with (first | (go_at_call 63; refine (l1In_any _ _ _ _).mono ?_; rintro e w1 ⟨rfl, rfl⟩) | (go_at_call 64; refine (spec_WordOk _ _ _).mono ?_; rintro e w1 ⟨rfl, rfl⟩))
    all_goals (go_ret; exact ⟨ret_bool (by simp [optOk, *]), (by repeat (first | with_reducible exact Below.refl _ _ | with_reducible assumption | with_reducible refine Below.al ?_ _ | with_reducible refine Below.drew ?_ | with_reducible refine Below.seq ?_ (by assumption) | (with_reducible refine Below.setCell ?_ ?_ _); rotate_left; focus (first | exact Nat.le_refl _ | (simp; done) | (simp; omega))))⟩)
theorem impl_SegmentOk (f t q a l n m s : Int) (k st : Bool) (v y : Int) (b : ByteArray) (w : World) :
    Calls Try.prog 55 #[.agg #[.int .i64 f, .int .i64 t, .int .i64 q, .int .i64 a, .int .i64 l, .int .i64 n, .int .i64 m, .int .i64 s, .bool k, .bool st, .int .i64 v, .int .i64 y, .string b]] w fun e w' => e = .returned (.bool (segOk f t q a l n m s st v y b)) ∧ Below w.heap.size w w' := by
  go_enter Try.func55, Try.ntmps55
  go_wp2_with (first | (go_at_call 65; refine (within_any _ _ _ _).mono ?_; rintro e w1 ⟨rfl, rfl⟩) | (go_at_call 66; refine (impl_WordOk _ _ _).mono ?_; rintro e w1 ⟨rfl, rfl⟩) | (go_at_call 48; refine (impl_OptionsOk _ _ _ _ _ _ _).mono ?_; rintro e w1 ⟨rfl, hb1⟩; obtain ⟨hc, hf⟩ := bcell hb1; have hz0 : w.heap.size < w1.heap.size := (by have := hb1.size; (try simp at this); omega)))
  all_goals (go_ret; exact ⟨ret_bool (by simp [segOk, *]), (by repeat (first | with_reducible exact Below.refl _ _ | with_reducible assumption | with_reducible refine Below.al ?_ _ | with_reducible refine Below.drew ?_ | with_reducible refine Below.seq ?_ (by assumption) | (with_reducible refine Below.setCell ?_ ?_ _); rotate_left; focus (first | exact Nat.le_refl _ | (simp; done) | (simp; omega))))⟩)
theorem spec_SegmentOk (f t q a l n m s : Int) (k st : Bool) (v y : Int) (b : ByteArray) (w : World) :
    Calls Try.prog 95 #[.agg #[.int .i64 f, .int .i64 t, .int .i64 q, .int .i64 a, .int .i64 l, .int .i64 n, .int .i64 m, .int .i64 s, .bool k, .bool st, .int .i64 v, .int .i64 y, .string b]] w fun e w' => e = .returned (.bool (segOk f t q a l n m s st v y b)) ∧ Below w.heap.size w w' := by
  go_enter Try.func95, Try.ntmps95
  go_wp2_with (first | (go_at_call 63; refine (l1In_any _ _ _ _).mono ?_; rintro e w1 ⟨rfl, rfl⟩) | (go_at_call 64; refine (spec_WordOk _ _ _).mono ?_; rintro e w1 ⟨rfl, rfl⟩) | (go_at_call 47; refine (spec_OptionsOk _ _ _ _ _ _ _).mono ?_; rintro e w1 ⟨rfl, hb1⟩; obtain ⟨hc, hf⟩ := bcell hb1; have hz0 : w.heap.size < w1.heap.size := (by have := hb1.size; (try simp at this); omega)))
  all_goals (go_ret; exact ⟨ret_bool (by simp [segOk, *]), (by repeat (first | with_reducible exact Below.refl _ _ | with_reducible assumption | with_reducible refine Below.al ?_ _ | with_reducible refine Below.drew ?_ | with_reducible refine Below.seq ?_ (by assumption) | (with_reducible refine Below.setCell ?_ ?_ _); rotate_left; focus (first | exact Nat.le_refl _ | (simp; done) | (simp; omega))))⟩)
theorem impl_NoOptions (w : World) :
    Calls Try.prog 49 #[] w fun e w' => e = .returned (.agg #[.int .i64 0, .int .i64 (-1), .bool false, .bool false, .int .i64 0, .int .i64 0]) ∧ Below w.heap.size w w' := by
  go_enter Try.func49, Try.ntmps49
  go_wp2
  simp [bodyPost, results, Try.results49, go_sem]
  exact (by repeat (first | with_reducible exact Below.refl _ _ | with_reducible assumption | with_reducible refine Below.al ?_ _ | with_reducible refine Below.drew ?_ | with_reducible refine Below.seq ?_ (by assumption) | (with_reducible refine Below.setCell ?_ ?_ _); rotate_left; focus (first | exact Nat.le_refl _ | (simp; done) | (simp; omega))))
theorem spec_NoOptions (w : World) :
    Calls Try.prog 88 #[] w fun e w' => e = .returned (.agg #[.int .i64 0, .int .i64 (-1), .bool false, .bool false, .int .i64 0, .int .i64 0]) ∧ Below w.heap.size w w' := by
  go_enter Try.func88, Try.ntmps88
  go_wp2
  simp [bodyPost, results, Try.results88, go_sem]
  exact (by repeat (first | with_reducible exact Below.refl _ _ | with_reducible assumption | with_reducible refine Below.al ?_ _ | with_reducible refine Below.drew ?_ | with_reducible refine Below.seq ?_ (by assumption) | (with_reducible refine Below.setCell ?_ ?_ _); rotate_left; focus (first | exact Nat.le_refl _ | (simp; done) | (simp; omega))))
def hasFl (l x : Int) : Bool := bits .and .i64 l x == x
def segLen (l : Int) (n : Nat) : Int := n + (if hasFl l 2 then 1 else 0) + (if hasFl l 1 then 1 else 0)
theorem impl_Has (f t q a l n m s : Int) (k st : Bool) (v e : Int) (b : ByteArray) (x : Int) (w : World) :
    Calls Try.prog 96 #[.agg #[.int .i64 f, .int .i64 t, .int .i64 q, .int .i64 a, .int .i64 l, .int .i64 n, .int .i64 m, .int .i64 s, .bool k, .bool st, .int .i64 v, .int .i64 e, .string b], .int .i64 x] w fun e' w' => e' = .returned (.bool (hasFl l x)) ∧ Below w.heap.size w w' := by
  go_enter Try.func96, Try.ntmps96
  go_wp2
  go_ret
  exact ⟨rfl, (by repeat (first | with_reducible exact Below.refl _ _ | with_reducible assumption | with_reducible refine Below.al ?_ _ | with_reducible refine Below.drew ?_ | with_reducible refine Below.seq ?_ (by assumption) | (with_reducible refine Below.setCell ?_ ?_ _); rotate_left; focus (first | exact Nat.le_refl _ | (simp; done) | (simp; omega))))⟩
theorem impl_SegmentLen (f t q a l n m s : Int) (k st : Bool) (v e : Int) (b : ByteArray) (w : World) (hb : b.size ≤ 140737488355328) :
    Calls Try.prog 53 #[.agg #[.int .i64 f, .int .i64 t, .int .i64 q, .int .i64 a, .int .i64 l, .int .i64 n, .int .i64 m, .int .i64 s, .bool k, .bool st, .int .i64 v, .int .i64 e, .string b]] w fun e' w' => e' = .returned (.int .i64 (segLen l b.size)) ∧ Below w.heap.size w w' := by
  cases h2 : hasFl l 2 <;> cases h1 : hasFl l 1
  all_goals
    have H2 := hide h2
    have H1 := hide h1
    clear h2 h1
    go_enter Try.func53, Try.ntmps53
    go_wp2_with (go_at_call 96; refine (impl_Has _ _ _ _ _ _ _ _ _ _ _ _ _ _ _).mono ?_; rintro e w1 ⟨rfl, hb1⟩; (first | rw [H2.out] | rw [H1.out]); obtain ⟨hc, hf⟩ := bcell hb1; have hz0 : w.heap.size < w1.heap.size := by have := hb1.size; (try simp only [World.size_alloc] at this); omega)
    go_ret
    exact ⟨ret_int (by simp [segLen, H1.out, H2.out]), (by repeat (first | with_reducible exact Below.refl _ _ | with_reducible assumption | with_reducible refine Below.al ?_ _ | with_reducible refine Below.drew ?_ | with_reducible refine Below.seq ?_ (by assumption) | (with_reducible refine Below.setCell ?_ ?_ _); rotate_left; focus (first | exact Nat.le_refl _ | (simp; done) | (simp; omega))))⟩
theorem spec_Has (f t q a l n m s : Int) (k st : Bool) (v e : Int) (b : ByteArray) (x : Int) (w : World) :
    Calls Try.prog 97 #[.agg #[.int .i64 f, .int .i64 t, .int .i64 q, .int .i64 a, .int .i64 l, .int .i64 n, .int .i64 m, .int .i64 s, .bool k, .bool st, .int .i64 v, .int .i64 e, .string b], .int .i64 x] w fun e' w' => e' = .returned (.bool (hasFl l x)) ∧ Below w.heap.size w w' := by
  go_enter Try.func97, Try.ntmps97
  go_wp2
  go_ret
  exact ⟨rfl, (by repeat (first | with_reducible exact Below.refl _ _ | with_reducible assumption | with_reducible refine Below.al ?_ _ | with_reducible refine Below.drew ?_ | with_reducible refine Below.seq ?_ (by assumption) | (with_reducible refine Below.setCell ?_ ?_ _); rotate_left; focus (first | exact Nat.le_refl _ | (simp; done) | (simp; omega))))⟩
theorem spec_SegmentLen (f t q a l n m s : Int) (k st : Bool) (v e : Int) (b : ByteArray) (w : World) (hb : b.size ≤ 140737488355328) :
    Calls Try.prog 54 #[.agg #[.int .i64 f, .int .i64 t, .int .i64 q, .int .i64 a, .int .i64 l, .int .i64 n, .int .i64 m, .int .i64 s, .bool k, .bool st, .int .i64 v, .int .i64 e, .string b]] w fun e' w' => e' = .returned (.int .i64 (segLen l b.size)) ∧ Below w.heap.size w w' := by
  cases h2 : hasFl l 2 <;> cases h1 : hasFl l 1
  all_goals
    have H2 := hide h2
    have H1 := hide h1
    clear h2 h1
    go_enter Try.func54, Try.ntmps54
    go_wp2_with (go_at_call 97; refine (spec_Has _ _ _ _ _ _ _ _ _ _ _ _ _ _ _).mono ?_; rintro e w1 ⟨rfl, hb1⟩; (first | rw [H2.out] | rw [H1.out]); obtain ⟨hc, hf⟩ := bcell hb1; have hz0 : w.heap.size < w1.heap.size := by have := hb1.size; (try simp only [World.size_alloc] at this); omega)
    go_ret
    exact ⟨ret_int (by simp [segLen, H1.out, H2.out]), (by repeat (first | with_reducible exact Below.refl _ _ | with_reducible assumption | with_reducible refine Below.al ?_ _ | with_reducible refine Below.drew ?_ | with_reducible refine Below.seq ?_ (by assumption) | (with_reducible refine Below.setCell ?_ ?_ _); rotate_left; focus (first | exact Nat.le_refl _ | (simp; done) | (simp; omega))))⟩
end Go.Proofs.Ytahffinjglmhhaa
