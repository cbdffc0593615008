/-
  The walks of the laws over the checks, flags and lengths: each law returns true; what was in memory stays.
-/
import Derived.Test.YtcapkadknabfiaaOk
import Derived.Test.YtcapkadknabfiaaOpen
namespace Go.Proofs.Ytcapkadknabfiaa
open Go.RowKit
set_option linter.unusedVariables false


theorem fnExactSegmentOk_walk (a0 : Value) (w0 : IsSegment a0) (w : World) :
    Calls Try.prog 4 #[a0] w fun e w' => e = .returned (.bool true) ∧ Below w.heap.size w w' := by
  obtain ⟨f, t, q, a, l, n, m, s, k, st, y, e, b, rfl, _, _, _, _, _, _, _, _, _, _, hb⟩ := w0
  by_cases h : sz1 1048576 b.size < 0
  · go_enter Try.func4, Try.ntmps4
    go_wp2_with (go_at_call 24; refine (szSegment_any _ _ _ _ _ _ _ _ _ _ _ _ _ _ _ (by decide) (by decide) hb).mono ?_; rintro e w1 ⟨rfl, hb1⟩; obtain ⟨hc, hf⟩ := bcell hb1; have hz0 : w.heap.size < w1.heap.size := (by have := hb1.size; (try simp only [World.size_alloc] at this); omega))
    go_ret
    exact ⟨rfl, (by repeat (first | exact Below.refl _ _ | assumption | refine Below.al ?_ _ | refine Below.drew ?_ | refine Below.seq ?_ (by assumption) | refine Below.setCell ?_ (by first | exact Nat.le_refl _ | (simp; done) | (simp; omega)) _))⟩
  · have hb2 := sz1_bd _ h
    have hb3 : b.size ≤ 140737488355328 := by omega
    go_enter Try.func4, Try.ntmps4
    go_wp2_with (first
      | (go_at_call 24; refine (szSegment_any _ _ _ _ _ _ _ _ _ _ _ _ _ _ _ (by decide) (by decide) hb).mono ?_; rintro e w1 ⟨rfl, hb1⟩; obtain ⟨hc, hf⟩ := bcell hb1; have hz0 : w.heap.size < w1.heap.size := (by have := hb1.size; (try simp only [World.size_alloc] at this); omega))
      | (go_at_call 26; refine (toSegment_any _ _ _ _ _ _ _ _ _ _ _ _ _ _).mono ?_; rintro e w1 ⟨rfl, hb1⟩; obtain ⟨hc, hf⟩ := bcell hb1; have hz0 : w.heap.size < w1.heap.size := (by have := hb1.size; (try simp only [World.size_alloc] at this); omega))
      | (go_at_call 25; refine (spec_SegmentOk _ _ _ _ _ _ _ _ _ _ _ _ _ _).mono ?_; rintro e w1 ⟨rfl, hb1⟩; obtain ⟨hc, hf⟩ := bcell hb1; have hz0 : w.heap.size < w1.heap.size := (by have := hb1.size; (try simp only [World.size_alloc] at this); omega))
      | (go_at_call 27; refine (impl_SegmentOk _ _ _ _ _ _ _ _ _ _ _ _ _ _).mono ?_; rintro e w1 ⟨rfl, hb1⟩; obtain ⟨hc, hf⟩ := bcell hb1; have hz0 : w.heap.size < w1.heap.size := (by have := hb1.size; (try simp only [World.size_alloc] at this); omega)))
    go_ret
    exact ⟨rfl, (by repeat (first | exact Below.refl _ _ | assumption | refine Below.al ?_ _ | refine Below.drew ?_ | refine Below.seq ?_ (by assumption) | refine Below.setCell ?_ (by first | exact Nat.le_refl _ | (simp; done) | (simp; omega)) _))⟩
end Go.Proofs.Ytcapkadknabfiaa
