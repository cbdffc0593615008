/-
  Small helpers of my own that every other text of this claim uses: facts hidden from the walk, equality of endings, ranges of numbers.
-/
import Derived.Test.YtahffinjglmhhaaRows
import Derived.WalkKit
import Derived.WalkSpells
import Derived.WalkLawsBesides
import Derived.Below
import Derived.Outline
namespace Go.Proofs.Ytahffinjglmhhaa
open Go.RowKit

theorem hide {p : Prop} (h : p) : Hid p := h
theorem ret_int {k : IntKind} {a b : Int} (h : a = b) : Ending.returned (.int k a) = .returned (.int k b) := by rw [h]
theorem ret_bool {a b : Bool} (h : a = b) : Ending.returned (.bool a) = .returned (.bool b) := by rw [h]
theorem ret_str {a b : ByteArray} (h : a = b) : Ending.returned (.string a) = .returned (.string b) := by rw [h]
theorem ret_si {a b : ByteArray} {c d : Value} (h : a = b) (k : c = d) : Ending.returned (.tuple #[.string a, c]) = .returned (.tuple #[.string b, d]) := by rw [h, k]

/-- x lies between lo and hi. -/
def rng (x lo hi : Int) : Bool := decide (lo ≤ x ∧ x ≤ hi)
theorem rng_true {x lo hi : Int} : rng x lo hi = true ↔ lo ≤ x ∧ x ≤ hi := by simp [rng]
theorem rng_false {x lo hi : Int} : rng x lo hi = false ↔ x < lo ∨ hi < x := by simp [rng]; omega

/-- Sixty-four bits: a number that an 'int' can hold. -/
def I64 (x : Int) : Prop := -9223372036854775808 ≤ x ∧ x ≤ 9223372036854775807
theorem I64.of_wf {x : Int} (h : (Lit.int .i64 x).wf = true) : I64 x := by
  simp [Lit.wf, IntKind.min, IntKind.max, IntKind.signed, IntKind.bits] at h
  exact ⟨by omega, by omega⟩
theorem I64.wf {x : Int} (h : I64 x) : (Lit.int .i64 x).wf = true := by
  obtain ⟨a, b⟩ := h
  simp [Lit.wf, IntKind.min, IntKind.max, IntKind.signed, IntKind.bits]
  omega

/-! Worlds: what was there when the call began stays as it was. -/
theorem Below.al {w a : World} (h : Below w.heap.size w a) (o : Obj) : Below w.heap.size w (a.alloc o) := h.alloc h.size o
theorem Below.seq {w a b : World} (h : Below w.heap.size w a) (k : Below a.heap.size a b) : Below w.heap.size w b := h.trans (k.mono h.size)
theorem bcell {W w1 : World} (hb : Below W.heap.size W w1) :
    (∀ b o, b < W.heap.size → w1.cell? ⟨b, o, none⟩ = W.cell? ⟨b, o, none⟩) ∧ (∀ b o, b < W.heap.size → w1.frozen? ⟨b, o, none⟩ = W.frozen? ⟨b, o, none⟩) :=
  ⟨fun b o h => hb.cell (p := ⟨b, o, none⟩) h, fun b o h => hb.frozen (p := ⟨b, o, none⟩) h⟩
end Go.Proofs.Ytahffinjglmhhaa
