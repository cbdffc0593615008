/-
  Three closed facts about the translation's head, asked of the kernel once for all laws of this claim's seat.
-/
import Derived.Test.YtahffinjglmhhaaDoorRows
import Derived.JoinedOf
import Derived.KernelRfl
namespace Go.Proofs.YtahffinjglmhhaaDoor
open Go

theorem head_mayEnter : Tryd.pinned.checked.prog.mayEnter = true := by kernel_rfl
theorem head_liftsFinal : (false == Tryd.pinned.checked.prog.liftsFinal) = true := by kernel_rfl
theorem head_make : (Tryd.pinned.checked.prog.make == some .cut) = true := by kernel_rfl
end Go.Proofs.YtahffinjglmhhaaDoor
