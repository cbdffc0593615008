/-
  What the laws on words, sums and places draw.
-/
import Derived.Test.YtahffinjglmhhaaDry
namespace Go.Proofs.Ytahffinjglmhhaa
open Go.RowKit
set_option linter.unusedVariables false
theorem St.out {g : Nat} {w w1 w2 : World} (hb : Below w.heap.size w w1) (hg : w.heap.size ≤ g) (h : St g w1 w2) : Below w.heap.size w w2 := hb.trans (h.1.below hb.size hg)
def IIP (p : Int → Int → Prop) (e : Ending) : Prop := ∃ x y, e = .returned (.tuple #[.int .i64 x, .int .i64 y]) ∧ p x y
def I4P (p : Int → Int → Int → Int → Prop) (e : Ending) : Prop := ∃ x y z u, e = .returned (.tuple #[.int .i64 x, .int .i64 y, .int .i64 z, .int .i64 u]) ∧ p x y z u
def SIIP (p : ByteArray → Int → Int → Prop) (e : Ending) : Prop := ∃ x y z, e = .returned (.tuple #[.string x, .int .i64 y, .int .i64 z]) ∧ p x y z
theorem at0_any (v : Value) (n : Nat) (i : Nat) (w : World) (hn : n ≤ 1048576) (hi : i ≤ 100) (hb : Bytes w v n) :
    Calls Try.prog 36 #[v, .int .i64 i] w fun e w' => IntP (fun x => 0 ≤ x ∧ x ≤ 255) e ∧ w = w' := by
  have i0 : (0 : Int) ≤ (i : Int) := by omega
  rcases hb with ⟨rfl, a, cap, rfl, _⟩ | ⟨h0, b, o, cap, rfl, h1, h2, h3⟩
  · go_enter Try.func36, Try.ntmps36
    go_wp2
    go_ret
    exact ⟨⟨_, rfl, by omega, by omega⟩, rfl⟩
  · by_cases hlt : i < n
    · obtain ⟨x, x0, x1, hx⟩ := h3 i hlt
      have i1 : (i : Int) < (n : Int) := by omega
      clear h3
      go_enter Try.func36, Try.ntmps36
      go_wp2
      go_ret
      exact ⟨⟨_, rfl, by omega, by omega⟩, rfl⟩
    · clear h3
      go_enter Try.func36, Try.ntmps36
      go_wp2
      go_ret
      exact ⟨⟨_, rfl, by omega, by omega⟩, rfl⟩
end Go.Proofs.Ytahffinjglmhhaa
