/-
  The walks of the laws over the texts of frames and messages: each law returns true; what was in memory stays.
-/
import Derived.Test.YtcapkadknabfiaaText
import Derived.Test.YtcapkadknabfiaaOpen
namespace Go.Proofs.Ytcapkadknabfiaa
open Go.RowKit
set_option linter.unusedVariables false


theorem fnExactFrameText_walk (a0 : Value) (w0 : IsFrame a0) (w : World) :
    Calls Try.prog 7 #[a0] w fun e w' => e = .returned (.bool true) ∧ Below w.heap.size w w' := by
  obtain ⟨d, s, t, b, rfl, _, _, _, hb⟩ := w0
  by_cases h : sz1 1048576 b.size < 0
  · go_enter Try.func7, Try.ntmps7
    go_wp2_with (go_at_call 35; refine (szFrame_any _ _ _ _ _ _ (by decide) (by decide) hb).mono ?_; rintro e w1 ⟨rfl, hb1⟩; obtain ⟨hc, hf⟩ := bcell hb1; have hz0 : w.heap.size < w1.heap.size := (by have := hb1.size; (try simp only [World.size_alloc] at this); omega))
    go_ret
    exact ⟨rfl, (by repeat (first | exact Below.refl _ _ | assumption | refine Below.al ?_ _ | refine Below.drew ?_ | refine Below.seq ?_ (by assumption) | refine Below.setCell ?_ (by first | exact Nat.le_refl _ | (simp; done) | (simp; omega)) _))⟩
  · have hb2 := sz1_bd _ h
    have hb3 : b.size ≤ 140737488355328 := by omega
    go_enter Try.func7, Try.ntmps7
    go_wp2_with (first
      | (go_at_call 35; refine (szFrame_any _ _ _ _ _ _ (by decide) (by decide) hb).mono ?_; rintro e w1 ⟨rfl, hb1⟩; obtain ⟨hc, hf⟩ := bcell hb1; have hz0 : w.heap.size < w1.heap.size := (by have := hb1.size; (try simp only [World.size_alloc] at this); omega))
      | (go_at_call 37; refine (toFrame_any _ _ _ _ _).mono ?_; rintro e w1 ⟨rfl, hb1⟩; obtain ⟨hc, hf⟩ := bcell hb1; have hz0 : w.heap.size < w1.heap.size := (by have := hb1.size; (try simp only [World.size_alloc] at this); omega))
      | (go_at_call 36; refine (spec_FrameText _ _ _ _ _ hb3).mono ?_; rintro e w1 ⟨rfl, hb1⟩; obtain ⟨hc, hf⟩ := bcell hb1; have hz0 : w.heap.size < w1.heap.size := (by have := hb1.size; (try simp only [World.size_alloc] at this); omega))
      | (go_at_call 38; refine (impl_FrameText _ _ _ _ _ hb3).mono ?_; rintro e w1 ⟨rfl, hb1⟩; obtain ⟨hc, hf⟩ := bcell hb1; have hz0 : w.heap.size < w1.heap.size := (by have := hb1.size; (try simp only [World.size_alloc] at this); omega)))
    go_ret
    exact ⟨rfl, (by repeat (first | exact Below.refl _ _ | assumption | refine Below.al ?_ _ | refine Below.drew ?_ | refine Below.seq ?_ (by assumption) | refine Below.setCell ?_ (by first | exact Nat.le_refl _ | (simp; done) | (simp; omega)) _))⟩
theorem fnExactArpText_walk (a0 : Value) (w0 : IsArp a0) (w : World) :
    Calls Try.prog 5 #[a0] w fun e w' => e = .returned (.bool true) ∧ Below w.heap.size w w' := by
  obtain ⟨k, sh, si, dh, di, rfl, _, _, _, _, _⟩ := w0
  go_enter Try.func5, Try.ntmps5
  go_wp2_with (first
      | (go_at_call 21; refine (toArp_any _ _ _ _ _ _).mono ?_; rintro e w1 ⟨rfl, hb1⟩; obtain ⟨hc, hf⟩ := bcell hb1; have hz0 : w.heap.size < w1.heap.size := (by have := hb1.size; (try simp only [World.size_alloc] at this); omega))
      | (go_at_call 28; refine (spec_ArpText _ _ _ _ _ _).mono ?_; rintro e w1 ⟨rfl, hb1⟩; obtain ⟨hc, hf⟩ := bcell hb1; have hz0 : w.heap.size < w1.heap.size := (by have := hb1.size; (try simp only [World.size_alloc] at this); omega))
      | (go_at_call 29; refine (impl_ArpText _ _ _ _ _ _).mono ?_; rintro e w1 ⟨rfl, hb1⟩; obtain ⟨hc, hf⟩ := bcell hb1; have hz0 : w.heap.size < w1.heap.size := (by have := hb1.size; (try simp only [World.size_alloc] at this); omega)))
  go_ret
  exact ⟨rfl, (by repeat (first | exact Below.refl _ _ | assumption | refine Below.al ?_ _ | refine Below.drew ?_ | refine Below.seq ?_ (by assumption) | refine Below.setCell ?_ (by first | exact Nat.le_refl _ | (simp; done) | (simp; omega)) _))⟩
end Go.Proofs.Ytcapkadknabfiaa
