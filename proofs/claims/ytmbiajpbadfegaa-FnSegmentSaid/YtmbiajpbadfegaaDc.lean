/-
  What the laws on frames, messages of ARP, packets, options, segments and figures draw.
-/
import Derived.Test.YtmbiajpbadfegaaDb
import Derived.Test.YtmbiajpbadfegaaSText
import Derived.Test.YtmbiajpbadfegaaPText
import Derived.Test.YtmbiajpbadfegaaHex
import Derived.Test.YtmbiajpbadfegaaApp
import Derived.Test.YtmbiajpbadfegaaTu
namespace Go.Proofs.Ytmbiajpbadfegaa
open Go.RowKit
set_option linter.unusedVariables false
theorem hB1 {w w1 : World} (o : Obj) (h : Below (w.alloc o).heap.size (w.alloc o) w1) : Below w.heap.size w w1 := Below.seq (below_alloc' w o) h
theorem hG1 {w : World} {g : Nat} {o : Obj} (h : (w.alloc o).heap.size ≤ g) : w.heap.size ≤ g ∧ w.heap.size ≠ g := by simp at h; omega
theorem size_frameText_le (d s t : Int) (b : ByteArray) : (frameText d s t b).size ≤ 18 + b.size := by
  have h1 := size_putWord_le d 6
  have h2 := size_putWord_le s 6
  have h3 := size_putWord_le t 2
  unfold frameText
  split
  · simp only [ByteArray.size_append]; omega
  · show (⟨#[]⟩ : ByteArray).size ≤ _
    exact Nat.zero_le _
theorem size_pktText_le (s d t p i : Int) (b : ByteArray) : (pktText s d t p i b).size ≤ 100 + b.size := by
  have h1 := size_putWord_le s 4
  have h2 := size_putWord_le d 4
  have h3 := size_putWord_le t 1
  have h4 := size_putWord_le p 1
  have h5 := size_putWord_le i 2
  have h6 := size_putWord_le (20 + (b.size : Int)) 2
  have h7 := size_putWord_le (sumOf (pkF t p i b.size ++ pkB s d)) 2
  have k1 : (⟨#[69, 0]⟩ : ByteArray).size = 2 := rfl
  have k2 : (⟨#[0, 0]⟩ : ByteArray).size = 2 := rfl
  unfold pktText
  split
  · simp only [ByteArray.size_append, pkF, pkB, k1, k2] at h7 ⊢; omega
  · exact Nat.zero_le _
theorem size_segText_le (f t q a l n m s : Int) (k st : Bool) (v y : Int) (b : ByteArray) (src dst : Int) : (segText f t q a l n m s k st v y b src dst).size ≤ 200 + b.size := by
  have h1 := size_putWord_le f 2
  have h2 := size_putWord_le t 2
  have h3 := size_putWord_le q 4
  have h4 := size_putWord_le a 4
  have h5 := size_putWord_le ((20 + (((optText m s k st v y).size : Nat) : Int)) / 4 * 16) 1
  have h6 := size_putWord_le l 1
  have h7 := size_putWord_le n 2
  have h8 := size_optText m s k st v y
  have k2 : (⟨#[0, 0]⟩ : ByteArray).size = 2 := rfl
  unfold segText
  split
  · have h9 := size_putWord_le (sumOf ((pseudo src dst (20 + ((optText m s k st v y).size : Int) + (b.size : Int))) ++ sgF f t q a l n (optText m s k st v y).size ++ ⟨#[0, 0]⟩ ++ sgB (optText m s k st v y) b)) 2
    unfold sgBody
    rw [ByteArray.size_append, ByteArray.size_append]
    simp only [sgF, sgB, ByteArray.size_append, k2] at h9 ⊢
    omega
  · exact Nat.zero_le _
/-- Two blocks of the call's own, one read, one written; and the cursor. -/
abbrev Two (g : Nat) (w1 : World) (q r : Nat) (l l' : List Value) (W : World) : Prop := (∀ o, W.cell? ⟨q, o, none⟩ = l.toArray[o]?) ∧ (∀ o, W.frozen? ⟨r, o, none⟩ = false) ∧ (∀ o, W.cell? ⟨r, o, none⟩ = l'.toArray[o]?) ∧ St g w1 W
theorem Two.drew {g : Nat} {w1 : World} {q r : Nat} {l l' : List Value} {W : World} (h : Two g w1 q r l l' W) : Two g w1 q r l l' W.drew := ⟨h.1, h.2.1, h.2.2.1, h.2.2.2.drew⟩
theorem Two.call {P : Program} {f : Nat} {args : Array Value} {p : Ending → Prop} {g : Nat} {w1 : World} {q r : Nat} {v v' : Value} {l l' : List Value} {W : World} (hq : q ≠ g) (hr : r ≠ g)
    (hc : ∀ W, Cur g W → Calls P f args W fun e w' => p e ∧ St g W w') (h : Two g w1 q r (v :: l) (v' :: l') W) : Calls P f args W fun e w' => p e ∧ Two g w1 q r (v :: l) (v' :: l') w' := by
  refine (hc W h.2.2.2.2).mono ?_
  rintro e w' ⟨h1, h2⟩
  have l1 := World.block_lt_of_cell? W ⟨q, 0, none⟩ (h.1 0)
  have l2 := World.block_lt_of_cell? W ⟨r, 0, none⟩ (h.2.2.1 0)
  exact ⟨h1, fun o => (h2.1.cell hq l1).trans (h.1 o), fun o => (h2.1.frozen hr l2).trans (h.2.1 o), fun o => (h2.1.cell hr l2).trans (h.2.2.1 o), h.2.2.2.trans h2⟩
end Go.Proofs.Ytmbiajpbadfegaa
