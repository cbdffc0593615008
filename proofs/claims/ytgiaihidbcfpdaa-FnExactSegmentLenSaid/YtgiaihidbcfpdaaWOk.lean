/-
  The walks of the laws over the checks, flags and lengths: each law returns true; what was in memory stays.
-/
import Derived.Test.YtgiaihidbcfpdaaOk
import Derived.Test.YtgiaihidbcfpdaaOpen
namespace Go.Proofs.Ytgiaihidbcfpdaa
open Go.RowKit
set_option linter.unusedVariables false

theorem sz1_bd (n : Nat) (h : ¬ sz1 1048576 n < 0) : n ≤ 1048576 := by unfold sz1 at h; split at h <;> omega

theorem fnExactFrameOk_walk (a0 : Value) (w0 : IsFrame a0) (w : World) :
    Calls Try.prog 8 #[a0] w fun e w' => e = .returned (.bool true) ∧ Below w.heap.size w w' := by
  obtain ⟨d, s, t, b, rfl, _, _, _, hb⟩ := w0
  by_cases h : sz1 1048576 b.size < 0
  · go_enter Try.func8, Try.ntmps8
    go_wp2_with (go_at_call 33; refine (szFrame_any _ _ _ _ _ _ (by decide) (by decide) hb).mono ?_; rintro e w1 ⟨rfl, hb1⟩; obtain ⟨hc, hf⟩ := bcell hb1; have hz0 : w.heap.size < w1.heap.size := (by have := hb1.size; (try simp only [World.size_alloc] at this); omega))
    go_ret
    exact ⟨rfl, (by repeat (first | exact Below.refl _ _ | assumption | refine Below.al ?_ _ | refine Below.drew ?_ | refine Below.seq ?_ (by assumption) | refine Below.setCell ?_ (by first | exact Nat.le_refl _ | (simp; done) | (simp; omega)) _))⟩
  · have hb2 := sz1_bd _ h
    have hb3 : b.size ≤ 140737488355328 := by omega
    go_enter Try.func8, Try.ntmps8
    go_wp2_with (first
      | (go_at_call 33; refine (szFrame_any _ _ _ _ _ _ (by decide) (by decide) hb).mono ?_; rintro e w1 ⟨rfl, hb1⟩; obtain ⟨hc, hf⟩ := bcell hb1; have hz0 : w.heap.size < w1.heap.size := (by have := hb1.size; (try simp only [World.size_alloc] at this); omega))
      | (go_at_call 35; refine (toFrame_any _ _ _ _ _).mono ?_; rintro e w1 ⟨rfl, hb1⟩; obtain ⟨hc, hf⟩ := bcell hb1; have hz0 : w.heap.size < w1.heap.size := (by have := hb1.size; (try simp only [World.size_alloc] at this); omega))
      | (go_at_call 34; refine (spec_FrameOk _ _ _ _ _).mono ?_; rintro e w1 ⟨rfl, hb1⟩; obtain ⟨hc, hf⟩ := bcell hb1; have hz0 : w.heap.size < w1.heap.size := (by have := hb1.size; (try simp only [World.size_alloc] at this); omega))
      | (go_at_call 36; refine (impl_FrameOk _ _ _ _ _).mono ?_; rintro e w1 ⟨rfl, hb1⟩; obtain ⟨hc, hf⟩ := bcell hb1; have hz0 : w.heap.size < w1.heap.size := (by have := hb1.size; (try simp only [World.size_alloc] at this); omega)))
    go_ret
    exact ⟨rfl, (by repeat (first | exact Below.refl _ _ | assumption | refine Below.al ?_ _ | refine Below.drew ?_ | refine Below.seq ?_ (by assumption) | refine Below.setCell ?_ (by first | exact Nat.le_refl _ | (simp; done) | (simp; omega)) _))⟩
theorem fnExactArpOk_walk (a0 : Value) (w0 : IsArp a0) (w : World) :
    Calls Try.prog 5 #[a0] w fun e w' => e = .returned (.bool true) ∧ Below w.heap.size w w' := by
  obtain ⟨k, sh, si, dh, di, rfl, _, _, _, _, _⟩ := w0
  go_enter Try.func5, Try.ntmps5
  go_wp2_with (first
      | (go_at_call 26; refine (toArp_any _ _ _ _ _ _).mono ?_; rintro e w1 ⟨rfl, hb1⟩; obtain ⟨hc, hf⟩ := bcell hb1; have hz0 : w.heap.size < w1.heap.size := (by have := hb1.size; (try simp only [World.size_alloc] at this); omega))
      | (go_at_call 25; refine (spec_ArpOk _ _ _ _ _ _).mono ?_; rintro e w1 ⟨rfl, hb1⟩; obtain ⟨hc, hf⟩ := bcell hb1; have hz0 : w.heap.size < w1.heap.size := (by have := hb1.size; (try simp only [World.size_alloc] at this); omega))
      | (go_at_call 27; refine (impl_ArpOk _ _ _ _ _ _).mono ?_; rintro e w1 ⟨rfl, hb1⟩; obtain ⟨hc, hf⟩ := bcell hb1; have hz0 : w.heap.size < w1.heap.size := (by have := hb1.size; (try simp only [World.size_alloc] at this); omega)))
  go_ret
  exact ⟨rfl, (by repeat (first | exact Below.refl _ _ | assumption | refine Below.al ?_ _ | refine Below.drew ?_ | refine Below.seq ?_ (by assumption) | refine Below.setCell ?_ (by first | exact Nat.le_refl _ | (simp; done) | (simp; omega)) _))⟩
theorem fnExactPacketOk_walk (a0 : Value) (w0 : IsPacket a0) (w : World) :
    Calls Try.prog 11 #[a0] w fun e w' => e = .returned (.bool true) ∧ Below w.heap.size w w' := by
  obtain ⟨s, d, t, p, i, b, rfl, _, _, _, _, _, hb⟩ := w0
  by_cases h : sz1 1048576 b.size < 0
  · go_enter Try.func11, Try.ntmps11
    go_wp2_with (go_at_call 42; refine (szPacket_any _ _ _ _ _ _ _ _ (by decide) (by decide) hb).mono ?_; rintro e w1 ⟨rfl, hb1⟩; obtain ⟨hc, hf⟩ := bcell hb1; have hz0 : w.heap.size < w1.heap.size := (by have := hb1.size; (try simp only [World.size_alloc] at this); omega))
    go_ret
    exact ⟨rfl, (by repeat (first | exact Below.refl _ _ | assumption | refine Below.al ?_ _ | refine Below.drew ?_ | refine Below.seq ?_ (by assumption) | refine Below.setCell ?_ (by first | exact Nat.le_refl _ | (simp; done) | (simp; omega)) _))⟩
  · have hb2 := sz1_bd _ h
    have hb3 : b.size ≤ 140737488355328 := by omega
    go_enter Try.func11, Try.ntmps11
    go_wp2_with (first
      | (go_at_call 42; refine (szPacket_any _ _ _ _ _ _ _ _ (by decide) (by decide) hb).mono ?_; rintro e w1 ⟨rfl, hb1⟩; obtain ⟨hc, hf⟩ := bcell hb1; have hz0 : w.heap.size < w1.heap.size := (by have := hb1.size; (try simp only [World.size_alloc] at this); omega))
      | (go_at_call 44; refine (toPacket_any _ _ _ _ _ _ _).mono ?_; rintro e w1 ⟨rfl, hb1⟩; obtain ⟨hc, hf⟩ := bcell hb1; have hz0 : w.heap.size < w1.heap.size := (by have := hb1.size; (try simp only [World.size_alloc] at this); omega))
      | (go_at_call 43; refine (spec_PacketOk _ _ _ _ _ _ _).mono ?_; rintro e w1 ⟨rfl, hb1⟩; obtain ⟨hc, hf⟩ := bcell hb1; have hz0 : w.heap.size < w1.heap.size := (by have := hb1.size; (try simp only [World.size_alloc] at this); omega))
      | (go_at_call 45; refine (impl_PacketOk _ _ _ _ _ _ _).mono ?_; rintro e w1 ⟨rfl, hb1⟩; obtain ⟨hc, hf⟩ := bcell hb1; have hz0 : w.heap.size < w1.heap.size := (by have := hb1.size; (try simp only [World.size_alloc] at this); omega)))
    go_ret
    exact ⟨rfl, (by repeat (first | exact Below.refl _ _ | assumption | refine Below.al ?_ _ | refine Below.drew ?_ | refine Below.seq ?_ (by assumption) | refine Below.setCell ?_ (by first | exact Nat.le_refl _ | (simp; done) | (simp; omega)) _))⟩
theorem fnExactOptionsOk_walk (a0 : Value) (w0 : IsOptions a0) (w : World) :
    Calls Try.prog 10 #[a0] w fun e w' => e = .returned (.bool true) ∧ Below w.heap.size w w' := by
  obtain ⟨m, s, k, st, y, e, rfl, _, _, _, _⟩ := w0
  go_enter Try.func10, Try.ntmps10
  go_wp2_with (first
      | (go_at_call 40; refine (toOptions_any _ _ _ _ _ _ _).mono ?_; rintro e w1 ⟨rfl, hb1⟩; obtain ⟨hc, hf⟩ := bcell hb1; have hz0 : w.heap.size < w1.heap.size := (by have := hb1.size; (try simp only [World.size_alloc] at this); omega))
      | (go_at_call 39; refine (spec_OptionsOk _ _ _ _ _ _ _).mono ?_; rintro e w1 ⟨rfl, hb1⟩; obtain ⟨hc, hf⟩ := bcell hb1; have hz0 : w.heap.size < w1.heap.size := (by have := hb1.size; (try simp only [World.size_alloc] at this); omega))
      | (go_at_call 41; refine (impl_OptionsOk _ _ _ _ _ _ _).mono ?_; rintro e w1 ⟨rfl, hb1⟩; obtain ⟨hc, hf⟩ := bcell hb1; have hz0 : w.heap.size < w1.heap.size := (by have := hb1.size; (try simp only [World.size_alloc] at this); omega)))
  go_ret
  exact ⟨rfl, (by repeat (first | exact Below.refl _ _ | assumption | refine Below.al ?_ _ | refine Below.drew ?_ | refine Below.seq ?_ (by assumption) | refine Below.setCell ?_ (by first | exact Nat.le_refl _ | (simp; done) | (simp; omega)) _))⟩
theorem fnExactSegmentLen_walk (a0 : Value) (w0 : IsSegment a0) (w : World) :
    Calls Try.prog 19 #[a0] w fun e w' => e = .returned (.bool true) ∧ Below w.heap.size w w' := by
  obtain ⟨f, t, q, a, l, n, m, s, k, st, y, e, b, rfl, _, _, _, _, _, _, _, _, _, _, hb⟩ := w0
  by_cases h : sz1 1048576 b.size < 0
  · go_enter Try.func19, Try.ntmps19
    go_wp2_with (go_at_call 48; refine (szSegment_any _ _ _ _ _ _ _ _ _ _ _ _ _ _ _ (by decide) (by decide) hb).mono ?_; rintro e w1 ⟨rfl, hb1⟩; obtain ⟨hc, hf⟩ := bcell hb1; have hz0 : w.heap.size < w1.heap.size := (by have := hb1.size; (try simp only [World.size_alloc] at this); omega))
    go_ret
    exact ⟨rfl, (by repeat (first | exact Below.refl _ _ | assumption | refine Below.al ?_ _ | refine Below.drew ?_ | refine Below.seq ?_ (by assumption) | refine Below.setCell ?_ (by first | exact Nat.le_refl _ | (simp; done) | (simp; omega)) _))⟩
  · have hb2 := sz1_bd _ h
    have hb3 : b.size ≤ 140737488355328 := by omega
    go_enter Try.func19, Try.ntmps19
    go_wp2_with (first
      | (go_at_call 48; refine (szSegment_any _ _ _ _ _ _ _ _ _ _ _ _ _ _ _ (by decide) (by decide) hb).mono ?_; rintro e w1 ⟨rfl, hb1⟩; obtain ⟨hc, hf⟩ := bcell hb1; have hz0 : w.heap.size < w1.heap.size := (by have := hb1.size; (try simp only [World.size_alloc] at this); omega))
      | (go_at_call 50; refine (toSegment_any _ _ _ _ _ _ _ _ _ _ _ _ _ _).mono ?_; rintro e w1 ⟨rfl, hb1⟩; obtain ⟨hc, hf⟩ := bcell hb1; have hz0 : w.heap.size < w1.heap.size := (by have := hb1.size; (try simp only [World.size_alloc] at this); omega))
      | (go_at_call 62; refine (spec_SegmentLen _ _ _ _ _ _ _ _ _ _ _ _ _ _ hb3).mono ?_; rintro e w1 ⟨rfl, hb1⟩; obtain ⟨hc, hf⟩ := bcell hb1; have hz0 : w.heap.size < w1.heap.size := (by have := hb1.size; (try simp only [World.size_alloc] at this); omega))
      | (go_at_call 63; refine (impl_SegmentLen _ _ _ _ _ _ _ _ _ _ _ _ _ _ hb3).mono ?_; rintro e w1 ⟨rfl, hb1⟩; obtain ⟨hc, hf⟩ := bcell hb1; have hz0 : w.heap.size < w1.heap.size := (by have := hb1.size; (try simp only [World.size_alloc] at this); omega)))
    go_ret
    exact ⟨rfl, (by repeat (first | exact Below.refl _ _ | assumption | refine Below.al ?_ _ | refine Below.drew ?_ | refine Below.seq ?_ (by assumption) | refine Below.setCell ?_ (by first | exact Nat.le_refl _ | (simp; done) | (simp; omega)) _))⟩
theorem fnExactHas_walk (a0 : Value) (a1 : Int) (w0 : IsSegment a0) (w1 : (Lit.int .i64 a1).wf = true) (w : World) :
    Calls Try.prog 13 #[a0, .int .i64 a1] w fun e w' => e = .returned (.bool true) ∧ Below w.heap.size w w' := by
  obtain ⟨f, t, q, a, l, n, m, s, k, st, y, e, b, rfl, _, _, _, _, _, _, _, _, _, _, hb⟩ := w0
  by_cases h : sz1 1048576 b.size < 0
  · go_enter Try.func13, Try.ntmps13
    go_wp2_with (go_at_call 48; refine (szSegment_any _ _ _ _ _ _ _ _ _ _ _ _ _ _ _ (by decide) (by decide) hb).mono ?_; rintro e w1 ⟨rfl, hb1⟩; obtain ⟨hc, hf⟩ := bcell hb1; have hz0 : w.heap.size < w1.heap.size := (by have := hb1.size; (try simp only [World.size_alloc] at this); omega))
    go_ret
    exact ⟨rfl, (by repeat (first | exact Below.refl _ _ | assumption | refine Below.al ?_ _ | refine Below.drew ?_ | refine Below.seq ?_ (by assumption) | refine Below.setCell ?_ (by first | exact Nat.le_refl _ | (simp; done) | (simp; omega)) _))⟩
  · have hb2 := sz1_bd _ h
    have hb3 : b.size ≤ 140737488355328 := by omega
    go_enter Try.func13, Try.ntmps13
    go_wp2_with (first
      | (go_at_call 48; refine (szSegment_any _ _ _ _ _ _ _ _ _ _ _ _ _ _ _ (by decide) (by decide) hb).mono ?_; rintro e w1 ⟨rfl, hb1⟩; obtain ⟨hc, hf⟩ := bcell hb1; have hz0 : w.heap.size < w1.heap.size := (by have := hb1.size; (try simp only [World.size_alloc] at this); omega))
      | (go_at_call 50; refine (toSegment_any _ _ _ _ _ _ _ _ _ _ _ _ _ _).mono ?_; rintro e w1 ⟨rfl, hb1⟩; obtain ⟨hc, hf⟩ := bcell hb1; have hz0 : w.heap.size < w1.heap.size := (by have := hb1.size; (try simp only [World.size_alloc] at this); omega))
      | (go_at_call 49; refine (spec_Has _ _ _ _ _ _ _ _ _ _ _ _ _ _ _).mono ?_; rintro e w1 ⟨rfl, hb1⟩; obtain ⟨hc, hf⟩ := bcell hb1; have hz0 : w.heap.size < w1.heap.size := (by have := hb1.size; (try simp only [World.size_alloc] at this); omega))
      | (go_at_call 51; refine (impl_Has _ _ _ _ _ _ _ _ _ _ _ _ _ _ _).mono ?_; rintro e w1 ⟨rfl, hb1⟩; obtain ⟨hc, hf⟩ := bcell hb1; have hz0 : w.heap.size < w1.heap.size := (by have := hb1.size; (try simp only [World.size_alloc] at this); omega)))
    go_ret
    exact ⟨rfl, (by repeat (first | exact Below.refl _ _ | assumption | refine Below.al ?_ _ | refine Below.drew ?_ | refine Below.seq ?_ (by assumption) | refine Below.setCell ?_ (by first | exact Nat.le_refl _ | (simp; done) | (simp; omega)) _))⟩
theorem fnExactNoOptions_walk (w : World) :
    Calls Try.prog 7 #[] w fun e w' => e = .returned (.bool true) ∧ Below w.heap.size w w' := by
  go_enter Try.func7, Try.ntmps7
  (go_wp2_with fail; refine (spec_NoOptions _).mono ?_; rintro e w1 ⟨rfl, hb1⟩; obtain ⟨hc1, hf1⟩ := bcell hb1; try have hz1_0 : w.heap.size < w1.heap.size := (by have := hb1.size; (try simp only [World.size_alloc] at this); omega); try have hz1_x : w.heap.size + 1 < w1.heap.size := (by have := hb1.size; (try simp only [World.size_alloc] at this); omega))
  (go_wp2_with fail; refine (impl_NoOptions _).mono ?_; rintro e w2 ⟨rfl, hb2⟩; obtain ⟨hc2, hf2⟩ := bcell hb2; try have hz2_1 : w1.heap.size < w2.heap.size := (by have := hb2.size; (try simp only [World.size_alloc] at this); omega); try have hz2_0 : w.heap.size < w2.heap.size := (by have := hb2.size; (try simp only [World.size_alloc] at this); omega); try have hz2_x : w.heap.size + 1 < w2.heap.size := (by have := hb2.size; (try simp only [World.size_alloc] at this); omega))
  (go_wp2_with fail; refine (eqOptions_same _ _ _ _ _ _ _).mono ?_; rintro e w3 ⟨rfl, hb3⟩; obtain ⟨hc3, hf3⟩ := bcell hb3; try have hz3_2 : w2.heap.size < w3.heap.size := (by have := hb3.size; (try simp only [World.size_alloc] at this); omega); try have hz3_1 : w1.heap.size < w3.heap.size := (by have := hb3.size; (try simp only [World.size_alloc] at this); omega); try have hz3_0 : w.heap.size < w3.heap.size := (by have := hb3.size; (try simp only [World.size_alloc] at this); omega); try have hz3_x : w.heap.size + 1 < w3.heap.size := (by have := hb3.size; (try simp only [World.size_alloc] at this); omega))
  go_wp2
  go_ret
  exact ⟨rfl, (by repeat (first | exact Below.refl _ _ | assumption | refine Below.al ?_ _ | refine Below.drew ?_ | refine Below.seq ?_ (by assumption) | refine Below.setCell ?_ (by first | exact Nat.le_refl _ | (simp; done) | (simp; omega)) _))⟩
end Go.Proofs.Ytgiaihidbcfpdaa
