/-
  A head with a byte turned and its sum made right again; packets drawn to be read.
-/
import Derived.Test.YtmbiajpbadfegaaDc
import Derived.Deep.DeepCutAuto
namespace Go.Proofs.Ytmbiajpbadfegaa
open Go.RowKit
set_option linter.unusedVariables false
/-- A row of n bytes that can be read and written. -/
structure BR (w : World) (q n : Nat) : Prop where
  cells : ∀ j, j < n → ∃ x : Int, 0 ≤ x ∧ x ≤ 255 ∧ w.cell? ⟨q, j, none⟩ = some (.int .u8 x)
  frz : ∀ j, j < n → w.frozen? ⟨q, j, none⟩ = false
  lt : q < w.heap.size
theorem BR.st {g q n : Nat} {a b : World} (h : BR a q n) (hs : St g a b) (hq : q ≠ g) : BR b q n :=
  ⟨fun j hj => by obtain ⟨x, x0, x1, hx⟩ := h.cells j hj; exact ⟨x, x0, x1, (hs.1.cell hq h.lt).trans hx⟩, fun j hj => (hs.1.frozen hq h.lt).trans (h.frz j hj), Nat.lt_of_lt_of_le h.lt hs.1.size⟩
theorem BR.below {q n : Nat} {a b : World} (h : BR a q n) (hs : Below a.heap.size a b) : BR b q n :=
  ⟨fun j hj => by obtain ⟨x, x0, x1, hx⟩ := h.cells j hj; exact ⟨x, x0, x1, (hs.cell (p := ⟨q, j, none⟩) h.lt).trans hx⟩, fun j hj => (World.frozen?_of_block (w := a) (hs.block q h.lt)).trans (h.frz j hj), Nat.lt_of_lt_of_le h.lt hs.size⟩
theorem BR.alloc {q n : Nat} {a : World} (h : BR a q n) (o : Obj) : BR (a.alloc o) q n := h.below (below_alloc' a o)
theorem BR.set {q n : Nat} {w : World} (h : BR w q n) (j : Nat) (x : Int) (hj : j < n) (x0 : 0 ≤ x) (x1 : x ≤ 255) : BR (w.setCell ⟨q, j, none⟩ (.int .u8 x)) q n := by
  obtain ⟨y, _, _, hy⟩ := h.cells j hj
  refine ⟨fun i hi => ?_, fun i hi => by have := h.frz i hi; simpa using this, by simp [World.setCell]; exact h.lt⟩
  by_cases e : i = j
  · subst e
    exact ⟨x, x0, x1, World.cell?_setCell_same _ _ _ hy⟩
  · obtain ⟨z, z0, z1, hz⟩ := h.cells i hi
    exact ⟨z, z0, z1, (World.cell?_setCell_other _ _ _ _ (fun e' => e (congrArg Addr.off e').symm)).trans hz⟩
theorem BR.list {q : Nat} {w : World} : ∀ n, (∀ j, j < n → ∃ x : Int, 0 ≤ x ∧ x ≤ 255 ∧ w.cell? ⟨q, j, none⟩ = some (.int .u8 x)) → ∃ L : List Int, L.length = n ∧ ∀ j, j < n → w.cell? ⟨q, j, none⟩ = some (.int .u8 (L.getD j 0)) := by
  intro n
  induction n with
  | zero => intro _; exact ⟨[], rfl, fun j hj => by omega⟩
  | succ n ih =>
    intro h
    obtain ⟨L, h1, h2⟩ := ih (fun j hj => h j (by omega))
    obtain ⟨x, _, _, hx⟩ := h n (by omega)
    refine ⟨L ++ [x], by simp [h1], fun j hj => ?_⟩
    by_cases e : j = n
    · subst e
      rw [List.getD_eq_getElem?_getD, List.getElem?_append_right (by omega), h1]
      simpa using hx
    · rw [List.getD_eq_getElem?_getD, List.getElem?_append_left (by omega), ← List.getD_eq_getElem?_getD]
      exact h2 j (by omega)
/-- Its first k bytes as a text. -/
theorem BR.back {P : Program} {q n : Nat} {w : World} (h : BR w q n) (k cap : Nat) (hk : k ≤ n) (src dst e : TypeId) (hs : P.underlying src = some (.slice e)) (he : P.underlying e = some (.int .u8)) (hd : P.underlying dst = some .string) :
    ∃ t : ByteArray, t.size = k ∧ (convert src dst (.slice (some ⟨q, 0, none⟩) k cap)).run P w = .ok (.string t) w := by
  obtain ⟨L, h1, h2⟩ := BR.list k (fun j hj => h.cells j (by omega))
  refine ⟨strOfNums L, by rw [strOfNums_size, h1], run_convert_bytes_arg _ src e hs he q 0 k cap L h1 (fun i hi => ?_) dst hd⟩
  rw [Nat.zero_add]; exact h2 i hi
end Go.Proofs.Ytmbiajpbadfegaa
