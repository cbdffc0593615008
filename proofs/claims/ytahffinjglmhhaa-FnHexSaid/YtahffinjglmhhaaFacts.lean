/-
  Three closed facts about the translation's head, asked of the kernel once for all laws of this claim's seat.
-/
import Derived.Test.YtahffinjglmhhaaRows
import Derived.JoinedOf
import Derived.KernelRfl
namespace Go.Proofs.Ytahffinjglmhhaa
open Go

theorem head_mayEnter : Try.pinned.checked.prog.mayEnter = true := by kernel_rfl
theorem head_liftsFinal : (false == Try.pinned.checked.prog.liftsFinal) = true := by kernel_rfl
theorem head_make : (Try.pinned.checked.prog.make == some .cut) = true := by kernel_rfl
end Go.Proofs.Ytahffinjglmhhaa
