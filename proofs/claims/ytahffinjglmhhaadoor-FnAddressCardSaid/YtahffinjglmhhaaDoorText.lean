/-
  What FrameText and ArpText return.
-/
import Derived.Test.YtahffinjglmhhaaDoorOk
import Derived.Test.YtahffinjglmhhaaDoorHead
import Derived.Deep.RegionHeld3
namespace Go.Proofs.YtahffinjglmhhaaDoor
open Go.RowKit
set_option linter.unusedVariables false

/-- A block that was there stays whole: each of its cells reads as before. -/
theorem keepA {a b : World} (hb : Below a.heap.size a b) {g : Nat} {v : Value} {cs : List Value} (h : ∀ o, a.cell? ⟨g, o, none⟩ = (v :: cs).toArray[o]?) : ∀ o, b.cell? ⟨g, o, none⟩ = (v :: cs).toArray[o]? :=
  fun o => (hb.cell (p := ⟨g, o, none⟩) (World.block_lt_of_cell? a ⟨g, 0, none⟩ (h 0))).trans (h o)
theorem newA (w : World) (cs : Array Value) (t : TypeId) : ∀ o, (w.alloc (.cells cs t)).cell? ⟨w.heap.size, o, none⟩ = cs[o]? := fun o => cell_of_row _ _ o cs t (0, 0) (heap_alloc_new w _)

def frameText (d s t : Int) (b : ByteArray) : ByteArray := if frameOk d s t b then putWord d 6 ++ putWord s 6 ++ putWord t 2 ++ b else ⟨#[]⟩
def arpText (k sh si dh di : Int) : ByteArray := if arpOk k sh si dh di then ⟨#[0, 1, 8, 0, 6, 4]⟩ ++ putWord k 2 ++ putWord sh 6 ++ putWord si 4 ++ putWord dh 6 ++ putWord di 4 else ⟨#[]⟩

end Go.Proofs.YtahffinjglmhhaaDoor
