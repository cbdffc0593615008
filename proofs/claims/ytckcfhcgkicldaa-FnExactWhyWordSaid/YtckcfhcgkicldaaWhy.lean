/-
  The words for a packet's fate: what WhyWord returns, and its law's walk.
-/
import Derived.Test.YtckcfhcgkicldaaNum
namespace Go.Proofs.Ytckcfhcgkicldaa
open Go.RowKit
set_option linter.unusedVariables false

def whyL : List ByteArray := [⟨#[111, 107]⟩, ⟨#[115, 104, 111, 114, 116]⟩, ⟨#[118, 101, 114, 115, 105, 111, 110]⟩, ⟨#[115, 117, 109]⟩, ⟨#[108, 101, 110, 103, 116, 104]⟩, ⟨#[102, 114, 97, 103, 109, 101, 110, 116]⟩, ⟨#[116, 116, 108]⟩]
def whyWord (c : Int) : ByteArray := if rng c 0 6 then whyL.getD c.toNat ⟨#[]⟩ else ⟨#[63]⟩
theorem why_cases (c : Int) (h : rng c 0 6 = true) : c = 0 ∨ c = 1 ∨ c = 2 ∨ c = 3 ∨ c = 4 ∨ c = 5 ∨ c = 6 := by
  obtain ⟨a, b⟩ := rng_true.1 h
  omega
theorem spec_WhyWord (c : Int) (w : World) :
    Calls Try.prog 23 #[.int .i64 c] w fun e w' => e = .returned (.string (whyWord c)) ∧ Below w.heap.size w w' := by
  cases h : rng c 0 6
  · have e : whyWord c = ⟨#[63]⟩ := by rw [whyWord, h]; rfl
    rw [e]
    have H := hide h
    clear h e
    go_enter Try.func23, Try.ntmps23
    go_wp2_with (go_at_call 44; refine (l1In_any _ _ _ _).mono ?_; rintro e w1 ⟨rfl, rfl⟩; rw [H.out])
    go_ret
    exact ⟨rfl, (by repeat (first | with_reducible exact Below.refl _ _ | with_reducible assumption | with_reducible refine Below.al ?_ _ | with_reducible refine Below.drew ?_ | with_reducible refine Below.seq ?_ (by assumption) | (with_reducible refine Below.setCell ?_ ?_ _); rotate_left; focus (first | exact Nat.le_refl _ | (simp; done) | (simp; omega))))⟩
  · rcases why_cases c h with rfl | rfl | rfl | rfl | rfl | rfl | rfl
    all_goals
      have H := hide h
      clear h
      go_enter Try.func23, Try.ntmps23
      go_wp2_with (go_at_call 44; refine (l1In_any _ _ _ _).mono ?_; rintro e w1 ⟨rfl, rfl⟩; rw [H.out])
      go_ret
      exact ⟨rfl, (by repeat (first | with_reducible exact Below.refl _ _ | with_reducible assumption | with_reducible refine Below.al ?_ _ | with_reducible refine Below.drew ?_ | with_reducible refine Below.seq ?_ (by assumption) | (with_reducible refine Below.setCell ?_ ?_ _); rotate_left; focus (first | exact Nat.le_refl _ | (simp; done) | (simp; omega))))⟩
theorem impl_WhyWord (c : Int) (w : World) :
    Calls Try.prog 24 #[.int .i64 c] w fun e w' => e = .returned (.string (whyWord c)) ∧ Below w.heap.size w w' := by
  cases h : rng c 0 6
  · have e : whyWord c = ⟨#[63]⟩ := by rw [whyWord, h]; rfl
    rw [e]
    have H := hide h
    clear h e
    go_enter Try.func24, Try.ntmps24
    go_wp2_with (go_at_call 45; refine (within_any _ _ _ _).mono ?_; rintro e w1 ⟨rfl, rfl⟩; rw [H.out])
    go_ret
    exact ⟨rfl, (by repeat (first | with_reducible exact Below.refl _ _ | with_reducible assumption | with_reducible refine Below.al ?_ _ | with_reducible refine Below.drew ?_ | with_reducible refine Below.seq ?_ (by assumption) | (with_reducible refine Below.setCell ?_ ?_ _); rotate_left; focus (first | exact Nat.le_refl _ | (simp; done) | (simp; omega))))⟩
  · rcases why_cases c h with rfl | rfl | rfl | rfl | rfl | rfl | rfl
    all_goals
      have H := hide h
      clear h
      go_enter Try.func24, Try.ntmps24
      go_wp2_with (go_at_call 45; refine (within_any _ _ _ _).mono ?_; rintro e w1 ⟨rfl, rfl⟩; rw [H.out])
      go_ret
      exact ⟨rfl, (by repeat (first | with_reducible exact Below.refl _ _ | with_reducible assumption | with_reducible refine Below.al ?_ _ | with_reducible refine Below.drew ?_ | with_reducible refine Below.seq ?_ (by assumption) | (with_reducible refine Below.setCell ?_ ?_ _); rotate_left; focus (first | exact Nat.le_refl _ | (simp; done) | (simp; omega))))⟩
theorem fnExactWhyWord_walk (a0 : Int) (w0 : (Lit.int .i64 a0).wf = true) (w : World) :
    Calls Try.prog 8 #[.int .i64 a0] w fun e w' => e = .returned (.bool true) ∧ Below w.heap.size w w' := by
  clear w0
  go_enter Try.func8, Try.ntmps8
  go_wp2_with (first | (go_at_call 23; refine (spec_WhyWord _ _).mono ?_; rintro e w1 ⟨rfl, hb1⟩) | (go_at_call 24; refine (impl_WhyWord _ _).mono ?_; rintro e w1 ⟨rfl, hb1⟩))
  go_ret
  exact ⟨rfl, (by repeat (first | with_reducible exact Below.refl _ _ | with_reducible assumption | with_reducible refine Below.al ?_ _ | with_reducible refine Below.drew ?_ | with_reducible refine Below.seq ?_ (by assumption) | (with_reducible refine Below.setCell ?_ ?_ _); rotate_left; focus (first | exact Nat.le_refl _ | (simp; done) | (simp; omega))))⟩
end Go.Proofs.Ytckcfhcgkicldaa
