/-
  The words for a packet's fate: what WhyWord returns, and its law's walk.
-/
import Derived.Test.YtahffinjglmhhaaNum
namespace Go.Proofs.Ytahffinjglmhhaa
open Go.RowKit
set_option linter.unusedVariables false

def whyL : List ByteArray := [⟨#[111, 107]⟩, ⟨#[115, 104, 111, 114, 116]⟩, ⟨#[118, 101, 114, 115, 105, 111, 110]⟩, ⟨#[115, 117, 109]⟩, ⟨#[108, 101, 110, 103, 116, 104]⟩, ⟨#[102, 114, 97, 103, 109, 101, 110, 116]⟩, ⟨#[116, 116, 108]⟩]
def whyWord (c : Int) : ByteArray := if rng c 0 6 then whyL.getD c.toNat ⟨#[]⟩ else ⟨#[63]⟩
theorem why_cases (c : Int) (h : rng c 0 6 = true) : c = 0 ∨ c = 1 ∨ c = 2 ∨ c = 3 ∨ c = 4 ∨ c = 5 ∨ c = 6 := by
  obtain ⟨a, b⟩ := rng_true.1 h
  omega
theorem spec_WhyWord (c : Int) (w : World) :
    Calls Try.prog 40 #[.int .i64 c] w fun e w' => e = .returned (.string (whyWord c)) ∧ Below w.heap.size w w' := by
  cases h : rng c 0 6
  · have e : whyWord c = ⟨#[63]⟩ := by rw [whyWord, h]; rfl
    rw [e]
    have H := hide h
    clear h e
    go_enter Try.func40, Try.ntmps40
    go_wp2_with (go_at_call 63; refine (l1In_any _ _ _ _).mono ?_; rintro e w1 ⟨rfl, rfl⟩; rw [H.out])
    go_ret
    exact ⟨rfl, (by repeat (first | with_reducible exact Below.refl _ _ | with_reducible assumption | with_reducible refine Below.al ?_ _ | with_reducible refine Below.drew ?_ | with_reducible refine Below.seq ?_ (by assumption) | (with_reducible refine Below.setCell ?_ ?_ _); rotate_left; focus (first | exact Nat.le_refl _ | (simp; done) | (simp; omega))))⟩
  · rcases why_cases c h with rfl | rfl | rfl | rfl | rfl | rfl | rfl
    all_goals
      have H := hide h
      clear h
      go_enter Try.func40, Try.ntmps40
      go_wp2_with (go_at_call 63; refine (l1In_any _ _ _ _).mono ?_; rintro e w1 ⟨rfl, rfl⟩; rw [H.out])
      go_ret
      exact ⟨rfl, (by repeat (first | with_reducible exact Below.refl _ _ | with_reducible assumption | with_reducible refine Below.al ?_ _ | with_reducible refine Below.drew ?_ | with_reducible refine Below.seq ?_ (by assumption) | (with_reducible refine Below.setCell ?_ ?_ _); rotate_left; focus (first | exact Nat.le_refl _ | (simp; done) | (simp; omega))))⟩
theorem impl_WhyWord (c : Int) (w : World) :
    Calls Try.prog 39 #[.int .i64 c] w fun e w' => e = .returned (.string (whyWord c)) ∧ Below w.heap.size w w' := by
  cases h : rng c 0 6
  · have e : whyWord c = ⟨#[63]⟩ := by rw [whyWord, h]; rfl
    rw [e]
    have H := hide h
    clear h e
    go_enter Try.func39, Try.ntmps39
    go_wp2_with (go_at_call 65; refine (within_any _ _ _ _).mono ?_; rintro e w1 ⟨rfl, rfl⟩; rw [H.out])
    go_ret
    exact ⟨rfl, (by repeat (first | with_reducible exact Below.refl _ _ | with_reducible assumption | with_reducible refine Below.al ?_ _ | with_reducible refine Below.drew ?_ | with_reducible refine Below.seq ?_ (by assumption) | (with_reducible refine Below.setCell ?_ ?_ _); rotate_left; focus (first | exact Nat.le_refl _ | (simp; done) | (simp; omega))))⟩
  · rcases why_cases c h with rfl | rfl | rfl | rfl | rfl | rfl | rfl
    all_goals
      have H := hide h
      clear h
      go_enter Try.func39, Try.ntmps39
      go_wp2_with (go_at_call 65; refine (within_any _ _ _ _).mono ?_; rintro e w1 ⟨rfl, rfl⟩; rw [H.out])
      go_ret
      exact ⟨rfl, (by repeat (first | with_reducible exact Below.refl _ _ | with_reducible assumption | with_reducible refine Below.al ?_ _ | with_reducible refine Below.drew ?_ | with_reducible refine Below.seq ?_ (by assumption) | (with_reducible refine Below.setCell ?_ ?_ _); rotate_left; focus (first | exact Nat.le_refl _ | (simp; done) | (simp; omega))))⟩
end Go.Proofs.Ytahffinjglmhhaa
