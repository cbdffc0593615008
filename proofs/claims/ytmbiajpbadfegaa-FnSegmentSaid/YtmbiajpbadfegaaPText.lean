/-
  What PacketText returns, and its law's walk.
-/
import Derived.Test.YtmbiajpbadfegaaText
import Derived.Test.YtmbiajpbadfegaaApp
import Derived.Test.YtmbiajpbadfegaaOpen
namespace Go.Proofs.Ytmbiajpbadfegaa
open Go.RowKit
set_option linter.unusedVariables false

/-- The head of a packet ahead of its sum, and behind it. -/
def pkF (t p i : Int) (n : Nat) : ByteArray := ⟨#[69, 0]⟩ ++ putWord (20 + (n : Int)) 2 ++ putWord i 2 ++ ⟨#[0, 0]⟩ ++ putWord t 1 ++ putWord p 1
def pkB (s d : Int) : ByteArray := putWord s 4 ++ putWord d 4
def pktText (s d t p i : Int) (b : ByteArray) : ByteArray :=
  if pktOk s d t p i b then pkF t p i b.size ++ putWord (sumOf (pkF t p i b.size ++ pkB s d)) 2 ++ pkB s d ++ b else ⟨#[]⟩
theorem pktOk_parts {s d t p i : Int} {b : ByteArray} (h : pktOk s d t p i b = true) : wordOk s 32 = true ∧ wordOk d 32 = true ∧ rng t 1 255 = true ∧ wordOk p 8 = true ∧ wordOk i 16 = true ∧ b.size ≤ 1480 := by
  simp only [pktOk, Bool.and_eq_true, decide_eq_true_eq] at h
  obtain ⟨⟨⟨⟨⟨a, b⟩, c⟩, d⟩, e⟩, f⟩ := h
  exact ⟨a, b, c, d, e, by omega⟩
theorem pkF_size {s d t p i : Int} {b : ByteArray} (h : pktOk s d t p i b = true) : (pkF t p i b.size).size = 10 := by
  obtain ⟨a1, a2, a3, a4, a5, a6⟩ := pktOk_parts h
  obtain ⟨c1, c2⟩ := rng_true.1 a3
  have e1 := size_pw (20 + (b.size : Int)) 2 (by decide) (wordOk_small (by decide) (by omega) (show _ ≤ (2 : Int) ^ 16 - 1 by omega))
  have e2 := size_pw i 2 (by decide) a5
  have e3 := size_pw t 1 (by decide) (wordOk_small (by decide) (by omega) (show _ ≤ (2 : Int) ^ 8 - 1 by omega))
  have e4 := size_pw p 1 (by decide) a4
  unfold pkF
  simp only [ByteArray.size_append, e1, e2, e3, e4]
  rfl
theorem pk_sum {s d t p i : Int} {b : ByteArray} (h : pktOk s d t p i b = true) : sumOf (pkF t p i b.size ++ ⟨#[0, 0]⟩ ++ pkB s d) = sumOf (pkF t p i b.size ++ pkB s d) := by
  have e := pkF_size h
  unfold sumOf
  rw [wordSum_app _ _ (by rw [ByteArray.size_append, e]; rfl), wordSum_app _ _ (by rw [e]), wordSum_zero2, wordSum_app _ _ (by rw [e])]
  rw [Int.add_zero]

end Go.Proofs.Ytmbiajpbadfegaa
