/-
  A block of the call's own that is known whole.
-/
import Derived.Test.YtahffinjglmhhaaText
namespace Go.Proofs.Ytahffinjglmhhaa
open Go.RowKit
set_option linter.unusedVariables false
/-- A block of the call's own that is known whole. -/
structure Blk (w : World) (q : Nat) (l : List Value) : Prop where
  cells : ∀ o, w.cell? ⟨q, o, none⟩ = l.toArray[o]?
  frz : ∀ o, w.frozen? ⟨q, o, none⟩ = false
  lt : q < w.heap.size
theorem Blk.new (w : World) (cs : List Value) (t : TypeId) : Blk (w.alloc (.cells cs.toArray t)) w.heap.size cs :=
  ⟨newA w _ _, fun o => by have h := heap_alloc_new w (.cells cs.toArray t); unfold World.frozen?; simp only [h]; simp, by simp⟩
theorem Blk.below {q : Nat} {a b : World} {l : List Value} (h : Blk a q l) (hs : Below a.heap.size a b) : Blk b q l :=
  ⟨fun o => (hs.cell (p := ⟨q, o, none⟩) h.lt).trans (h.cells o), fun o => (World.frozen?_of_block (w := a) (hs.block q h.lt)).trans (h.frz o), Nat.lt_of_lt_of_le h.lt hs.size⟩
theorem Blk.alloc {q : Nat} {a : World} {l : List Value} (h : Blk a q l) (o : Obj) : Blk (a.alloc o) q l := h.below ((Below.refl _ _).alloc (Nat.le_refl _) o)
theorem Blk.set {w : World} {q : Nat} {l : List Value} (h : Blk w q l) (j : Nat) (u : Value) (hj : j < l.length) : Blk (w.setCell ⟨q, j, none⟩ u) q (l.set j u) := by
  have hj' : w.cell? ⟨q, j, none⟩ = some l[j] := by rw [h.cells j]; simp [hj]
  refine ⟨fun o => ?_, fun o => ?_, by simp [World.setCell]; exact h.lt⟩
  · by_cases e : o = j
    · subst e
      rw [World.cell?_setCell_same _ _ _ hj']
      simp [hj]
    · rw [World.cell?_setCell_other _ _ _ _ (fun e' => e (congrArg Addr.off e').symm), h.cells o]
      simp [Ne.symm e]
  · have := h.frz o
    simpa using this
theorem Blk.other {w : World} {r q : Nat} {l : List Value} (h : Blk w r l) (hq : r ≠ q) (j : Nat) (u : Value) : Blk (w.setCell ⟨q, j, none⟩ u) r l :=
  ⟨fun o => (World.cell?_setCell_other _ _ _ _ (fun e => hq (congrArg Addr.block e).symm)).trans (h.cells o), fun o => by have := h.frz o; simpa using this, by simp [World.setCell]; exact h.lt⟩
end Go.Proofs.Ytahffinjglmhhaa
