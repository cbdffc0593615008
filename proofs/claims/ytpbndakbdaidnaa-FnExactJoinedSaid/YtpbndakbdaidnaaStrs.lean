/-
  Rows of strings: what the law's own eqStringS, markStringS and heldStringS return.
-/
import Derived.Test.YtpbndakbdaidnaaDig
import Derived.Test.YtpbndakbdaidnaaPart
namespace Go.Proofs.Ytpbndakbdaidnaa
open Go.RowKit
set_option linter.unusedVariables false

def mt (N : Nat) : ByteArray := ⟨#[109]⟩ ++ ⟨(Lib.decDigits N).toArray⟩
end Go.Proofs.Ytpbndakbdaidnaa
