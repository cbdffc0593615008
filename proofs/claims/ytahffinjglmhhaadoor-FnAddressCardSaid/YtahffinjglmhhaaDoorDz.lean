/-
  What the laws on words, sums and places draw.
-/
import Derived.Test.YtahffinjglmhhaaDoorDry
namespace Go.Proofs.YtahffinjglmhhaaDoor
open Go.RowKit
set_option linter.unusedVariables false
theorem St.out {g : Nat} {w w1 w2 : World} (hb : Below w.heap.size w w1) (hg : w.heap.size ≤ g) (h : St g w1 w2) : Below w.heap.size w w2 := hb.trans (h.1.below hb.size hg)
def IIP (p : Int → Int → Prop) (e : Ending) : Prop := ∃ x y, e = .returned (.tuple #[.int .i64 x, .int .i64 y]) ∧ p x y
def I4P (p : Int → Int → Int → Int → Prop) (e : Ending) : Prop := ∃ x y z u, e = .returned (.tuple #[.int .i64 x, .int .i64 y, .int .i64 z, .int .i64 u]) ∧ p x y z u
def SIIP (p : ByteArray → Int → Int → Prop) (e : Ending) : Prop := ∃ x y z, e = .returned (.tuple #[.string x, .int .i64 y, .int .i64 z]) ∧ p x y z
end Go.Proofs.YtahffinjglmhhaaDoor
