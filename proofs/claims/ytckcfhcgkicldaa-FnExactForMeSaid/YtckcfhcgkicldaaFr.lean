/-
  What the small functions over frames and over reasons return, and the walks of their two laws.
-/
import Derived.Test.YtckcfhcgkicldaaOpen
namespace Go.Proofs.Ytckcfhcgkicldaa
open Go.RowKit
set_option linter.unusedVariables false

/-- ForMe's answer. -/
def forMe (d m : Int) : Bool := d == m || d == 281474976710655
theorem spec_ForMe (d s t : Int) (b : ByteArray) (m : Int) (w : World) :
    Calls Try.prog 26 #[.agg #[.int .i64 d, .int .i64 s, .int .i64 t, .string b], .int .i64 m] w fun e w' => e = .returned (.bool (forMe d m)) ∧ Below w.heap.size w w' := by
  cases h : d == m
  · have e : forMe d m = (d == 281474976710655) := by rw [forMe, h, Bool.false_or]
    rw [e]
    clear e
    go_enter Try.func26, Try.ntmps26
    go_wp2
    go_ret
    exact ⟨rfl, (by repeat (first | exact Below.refl _ _ | assumption | refine Below.al ?_ _ | refine Below.drew ?_ | refine Below.seq ?_ (by assumption) | refine Below.setCell ?_ (by first | exact Nat.le_refl _ | (simp; done) | (simp; omega)) _))⟩
  · have e : forMe d m = true := by rw [forMe, h, Bool.true_or]
    rw [e]
    clear e
    go_enter Try.func26, Try.ntmps26
    go_wp2
    go_ret
    exact ⟨rfl, (by repeat (first | exact Below.refl _ _ | assumption | refine Below.al ?_ _ | refine Below.drew ?_ | refine Below.seq ?_ (by assumption) | refine Below.setCell ?_ (by first | exact Nat.le_refl _ | (simp; done) | (simp; omega)) _))⟩
theorem impl_ForMe (d s t : Int) (b : ByteArray) (m : Int) (w : World) :
    Calls Try.prog 28 #[.agg #[.int .i64 d, .int .i64 s, .int .i64 t, .string b], .int .i64 m] w fun e w' => e = .returned (.bool (forMe d m)) ∧ Below w.heap.size w w' := by
  cases h : d == m
  · have e : forMe d m = (d == 281474976710655) := by rw [forMe, h, Bool.false_or]
    rw [e]
    clear e
    go_enter Try.func28, Try.ntmps28
    go_wp2
    go_ret
    exact ⟨rfl, (by repeat (first | exact Below.refl _ _ | assumption | refine Below.al ?_ _ | refine Below.drew ?_ | refine Below.seq ?_ (by assumption) | refine Below.setCell ?_ (by first | exact Nat.le_refl _ | (simp; done) | (simp; omega)) _))⟩
  · have e : forMe d m = true := by rw [forMe, h, Bool.true_or]
    rw [e]
    clear e
    go_enter Try.func28, Try.ntmps28
    go_wp2
    go_ret
    exact ⟨rfl, (by repeat (first | exact Below.refl _ _ | assumption | refine Below.al ?_ _ | refine Below.drew ?_ | refine Below.seq ?_ (by assumption) | refine Below.setCell ?_ (by first | exact Nat.le_refl _ | (simp; done) | (simp; omega)) _))⟩
theorem fnExactForMe_walk (a0 : Value) (a1 : Int) (w0 : IsFrame a0) (w1 : (Lit.int .i64 a1).wf = true) (w : World) :
    Calls Try.prog 9 #[a0, .int .i64 a1] w fun e w' => e = .returned (.bool true) ∧ Below w.heap.size w w' := by
  obtain ⟨d, s, t, b, rfl, _, _, _, hb⟩ := w0
  clear w1
  by_cases h : sz1 1048576 b.size < 0
  · go_enter Try.func9, Try.ntmps9
    go_wp2_with (go_at_call 25; refine (szFrame_any _ _ _ _ _ _ (by decide) (by decide) hb).mono ?_; rintro e w1 ⟨rfl, hb1⟩)
    go_ret
    exact ⟨rfl, (by repeat (first | exact Below.refl _ _ | assumption | refine Below.al ?_ _ | refine Below.drew ?_ | refine Below.seq ?_ (by assumption) | refine Below.setCell ?_ (by first | exact Nat.le_refl _ | (simp; done) | (simp; omega)) _))⟩
  · go_enter Try.func9, Try.ntmps9
    go_wp2_with (first
      | (go_at_call 25; refine (szFrame_any _ _ _ _ _ _ (by decide) (by decide) hb).mono ?_; rintro e w1 ⟨rfl, hb1⟩; obtain ⟨hc, hf⟩ := bcell hb1; have hz0 : w.heap.size < w1.heap.size := (by have := hb1.size; (try simp only [World.size_alloc] at this); omega))
      | (go_at_call 27; refine (toFrame_any _ _ _ _ _).mono ?_; rintro e w1 ⟨rfl, hb1⟩; obtain ⟨hc, hf⟩ := bcell hb1; have hz0 : w.heap.size < w1.heap.size := (by have := hb1.size; (try simp only [World.size_alloc] at this); omega))
      | (go_at_call 26; refine (spec_ForMe _ _ _ _ _ _).mono ?_; rintro e w1 ⟨rfl, hb1⟩; obtain ⟨hc, hf⟩ := bcell hb1; have hz0 : w.heap.size < w1.heap.size := (by have := hb1.size; (try simp only [World.size_alloc] at this); omega))
      | (go_at_call 28; refine (impl_ForMe _ _ _ _ _ _).mono ?_; rintro e w1 ⟨rfl, hb1⟩; obtain ⟨hc, hf⟩ := bcell hb1; have hz0 : w.heap.size < w1.heap.size := (by have := hb1.size; (try simp only [World.size_alloc] at this); omega)))
    go_ret
    exact ⟨rfl, (by repeat (first | exact Below.refl _ _ | assumption | refine Below.al ?_ _ | refine Below.drew ?_ | refine Below.seq ?_ (by assumption) | refine Below.setCell ?_ (by first | exact Nat.le_refl _ | (simp; done) | (simp; omega)) _))⟩
end Go.Proofs.Ytckcfhcgkicldaa
