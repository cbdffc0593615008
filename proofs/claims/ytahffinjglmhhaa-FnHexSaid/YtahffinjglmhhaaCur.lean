/-
  The draws' cursor: bytes that came in, a block that holds a place in them and a number; what a step of the cursor may turn.
-/
import Derived.Test.YtahffinjglmhhaaBase
import Derived.Test.YtahffinjglmhhaaBits
import Derived.Deep.RegionHeld3
namespace Go.Proofs.Ytahffinjglmhhaa
open Go.RowKit
set_option linter.unusedVariables false

/-- v is a slice of n bytes that can be read. -/
def Bytes (w : World) (v : Value) (n : Nat) : Prop :=
  (n = 0 ∧ ∃ a cap, v = .slice a 0 cap ∧ cap ≤ maxLen) ∨
  (0 < n ∧ ∃ b o cap, v = .slice (some ⟨b, o, none⟩) n cap ∧ n ≤ cap ∧ cap ≤ maxLen ∧ ∀ j, j < n → ∃ x : Int, 0 ≤ x ∧ x ≤ 255 ∧ w.cell? ⟨b, o + j, none⟩ = some (.int .u8 x))
theorem Bytes.below {w w' : World} {v : Value} {n : Nat} (h : Bytes w v n) (hb : Below w.heap.size w w') : Bytes w' v n := by
  rcases h with h | ⟨h0, b, o, cap, hv, h1, h2, h3⟩
  · exact .inl h
  · refine .inr ⟨h0, b, o, cap, hv, h1, h2, fun j hj => ?_⟩
    obtain ⟨x, x0, x1, hx⟩ := h3 j hj
    exact ⟨x, x0, x1, (hb.cell (p := ⟨b, o + j, none⟩) (World.block_lt_of_cell? w _ hx)).trans hx⟩

/-- All but block g is as it was. -/
structure Dr (g : Nat) (w w' : World) : Prop where
  os : w'.os = w.os
  tape : w'.tape = w.tape
  output : w'.output = w.output
  size : w.heap.size ≤ w'.heap.size
  block : ∀ k, k < w.heap.size → k ≠ g → w'.heap[k]? = w.heap[k]?
theorem Dr.refl (g : Nat) (w : World) : Dr g w w := ⟨rfl, rfl, rfl, Nat.le_refl _, fun _ _ _ => rfl⟩
theorem Dr.trans {g : Nat} {a b c : World} (h : Dr g a b) (k : Dr g b c) : Dr g a c :=
  ⟨k.os.trans h.os, k.tape.trans h.tape, k.output.trans h.output, Nat.le_trans h.size k.size, fun i hi hg => (k.block i (Nat.lt_of_lt_of_le hi h.size) hg).trans (h.block i hi hg)⟩
theorem Dr.of_below {g : Nat} {w w' : World} (h : Below w.heap.size w w') : Dr g w w' := ⟨h.os, h.tape, h.output, h.size, fun k hk _ => h.block k hk⟩
theorem Dr.below {g B : Nat} {w w' : World} (h : Dr g w w') (hB : B ≤ w.heap.size) (hg : B ≤ g) : Below B w w' := ⟨h.os, h.tape, h.output, h.size, fun k hk => h.block k (by omega) (by omega)⟩
theorem Dr.drew {g : Nat} {a w : World} (h : Dr g a w) : Dr g a w.drew := h.trans (Dr.of_below (Below.drew (Below.refl _ _)))
theorem Dr.alloc {g : Nat} {a w : World} (h : Dr g a w) (o : Obj) : Dr g a (w.alloc o) := h.trans (Dr.of_below (Below.al (Below.refl _ _) o))
theorem Dr.set {g : Nat} {a w : World} (h : Dr g a w) (j : Nat) (u : Value) : Dr g a (w.setCell ⟨g, j, none⟩ u) :=
  h.trans ⟨rfl, rfl, rfl, by simp [World.setCell], fun k hk hg => Below.heap_setCell _ _ _ _ hg⟩
/-- A store into a block of the caller's own, laid since. -/
theorem Dr.setNew {g : Nat} {a w : World} (h : Dr g a w) (p : Addr) (hp : a.heap.size ≤ p.block) (u : Value) : Dr g a (w.setCell p u) :=
  ⟨h.os, h.tape, h.output, by simp [World.setCell]; exact h.size, fun k hk hg => (Below.heap_setCell _ _ _ _ (by omega)).trans (h.block k hk hg)⟩
theorem Dr.seqB {g : Nat} {a b c : World} (h : Dr g a b) (k : Below b.heap.size b c) : Dr g a c := h.trans (Dr.of_below k)
theorem Dr.cell {g : Nat} {w w' : World} (h : Dr g w w') {b o : Nat} (hg : b ≠ g) (hb : b < w.heap.size) : w'.cell? ⟨b, o, none⟩ = w.cell? ⟨b, o, none⟩ := World.cell?_of_block (w := w) (h.block b hb hg)
theorem Dr.frozen {g : Nat} {w w' : World} (h : Dr g w w') {b o : Nat} (hg : b ≠ g) (hb : b < w.heap.size) : w'.frozen? ⟨b, o, none⟩ = w.frozen? ⟨b, o, none⟩ := World.frozen?_of_block (w := w) (h.block b hb hg)
/-- A block of the caller's own that is known whole stays so. -/
theorem Dr.keep {g : Nat} {a b : World} (hb : Dr g a b) {k : Nat} (hk : k ≠ g) {v : Value} {cs : List Value} (h : ∀ o, a.cell? ⟨k, o, none⟩ = (v :: cs).toArray[o]?) : ∀ o, b.cell? ⟨k, o, none⟩ = (v :: cs).toArray[o]? :=
  fun o => (hb.cell hk (World.block_lt_of_cell? a ⟨k, 0, none⟩ (h 0))).trans (h o)

/-- The cursor's block g: the bytes, how many have been taken, a number. -/
def Cur (g : Nat) (w : World) : Prop :=
  ∃ (v : Value) (n i : Nat) (h : Int) (t : TypeId), w.heap[g]? = some (.cells #[v, .int .i64 i, .int .i64 h] t (0, 0)) ∧ i ≤ n ∧ n ≤ 1048576 ∧
    ((n = 0 ∧ ∃ a cap, v = .slice a 0 cap ∧ cap ≤ maxLen) ∨
     (0 < n ∧ ∃ b o cap, v = .slice (some ⟨b, o, none⟩) n cap ∧ b < g ∧ n ≤ cap ∧ cap ≤ maxLen ∧ ∀ j, j < n → ∃ x : Int, 0 ≤ x ∧ x ≤ 255 ∧ w.cell? ⟨b, o + j, none⟩ = some (.int .u8 x)))
theorem Cur.lt {g : Nat} {w : World} (h : Cur g w) : g < w.heap.size := by
  obtain ⟨v, n, i, h, t, hg, _⟩ := h
  by_cases hlt : g < w.heap.size
  · exact hlt
  · rw [Array.getElem?_eq_none (by omega)] at hg; cases hg
theorem Cur.of {g : Nat} {w w' : World} (h : Cur g w) (hs : ∀ k, k < w.heap.size → w'.heap[k]? = w.heap[k]?) : Cur g w' := by
  have hl := h.lt
  obtain ⟨v, n, i, h, t, hg, h1, h2, h3⟩ := h
  refine ⟨v, n, i, h, t, (hs g hl).trans hg, h1, h2, ?_⟩
  rcases h3 with h3 | ⟨p0, b, o, cap, hv, hb, q1, q2, q3⟩
  · exact .inl h3
  · refine .inr ⟨p0, b, o, cap, hv, hb, q1, q2, fun j hj => ?_⟩
    obtain ⟨x, x0, x1, hx⟩ := q3 j hj
    exact ⟨x, x0, x1, (World.cell?_of_block (w := w) (w' := w') (hs b (World.block_lt_of_cell? w _ hx))).trans hx⟩
theorem Cur.below {g : Nat} {w w' : World} (h : Cur g w) (hb : Below w.heap.size w w') : Cur g w' := h.of hb.block
theorem Cur.drew {g : Nat} {w : World} (h : Cur g w) : Cur g w.drew := h
theorem Cur.alloc {g : Nat} {w : World} (h : Cur g w) (o : Obj) : Cur g (w.alloc o) := h.below (Below.al (Below.refl _ _) o)
/-- The cursor, and what was, from the world w0 on. -/
def St (g : Nat) (w0 w : World) : Prop := Dr g w0 w ∧ Cur g w
theorem St.refl {g : Nat} {w : World} (h : Cur g w) : St g w w := ⟨Dr.refl _ _, h⟩
theorem St.trans {g : Nat} {a b c : World} (h : St g a b) (k : St g b c) : St g a c := ⟨h.1.trans k.1, k.2⟩
theorem St.drew {g : Nat} {a w : World} (h : St g a w) : St g a w.drew := ⟨h.1.drew, h.2.drew⟩
theorem St.alloc {g : Nat} {a w : World} (h : St g a w) (o : Obj) : St g a (w.alloc o) := ⟨h.1.alloc o, h.2.alloc o⟩
theorem St.seqB {g : Nat} {a b c : World} (h : St g a b) (k : Below b.heap.size b c) : St g a c := ⟨h.1.seqB k, h.2.below k⟩
/-- A store into a block laid after the cursor. -/
theorem Cur.set {g : Nat} {w : World} (h : Cur g w) (p : Addr) (hp : g < p.block) (u : Value) : Cur g (w.setCell p u) := by
  obtain ⟨v, n, i, h', t, hg, h1, h2, h3⟩ := h
  refine ⟨v, n, i, h', t, (Below.heap_setCell _ _ _ _ (by omega)).trans hg, h1, h2, ?_⟩
  rcases h3 with h3 | ⟨p0, b, o, cap, hv, hb, q1, q2, q3⟩
  · exact .inl h3
  · refine .inr ⟨p0, b, o, cap, hv, hb, q1, q2, fun j hj => ?_⟩
    obtain ⟨x, x0, x1, hx⟩ := q3 j hj
    exact ⟨x, x0, x1, (World.cell?_of_block (w := w) (Below.heap_setCell _ _ _ _ (by show b ≠ p.block; omega))).trans hx⟩
theorem St.setNew {g : Nat} {a w : World} (h : St g a w) (hg : g < a.heap.size) (p : Addr) (hp : a.heap.size ≤ p.block) (u : Value) : St g a (w.setCell p u) :=
  ⟨h.1.setNew p hp u, h.2.set p (by omega) u⟩

/-! What a draw gives. -/
def IntP (p : Int → Prop) (e : Ending) : Prop := ∃ x, e = .returned (.int .i64 x) ∧ p x
def BoolP (e : Ending) : Prop := ∃ x, e = .returned (.bool x)
def StrP (n : Nat) (e : Ending) : Prop := ∃ s : ByteArray, e = .returned (.string s) ∧ s.size ≤ n
def VP (p : Value → Prop) (e : Ending) : Prop := ∃ x, e = .returned x ∧ p x
end Go.Proofs.Ytahffinjglmhhaa
