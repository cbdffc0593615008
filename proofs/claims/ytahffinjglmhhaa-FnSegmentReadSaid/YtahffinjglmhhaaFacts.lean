/-
  Three closed facts about the translation's head, the same for all laws of this claim's seat: a program whose head names a cut may enter, lifts no final, and is made by a cut. The head's text is taken apart as a list of signs, for the kernel runs over a list at a small cost.
-/
import Derived.Test.YtahffinjglmhhaaRows
import Derived.JoinedOf
import Derived.KernelRfl
namespace Go.Proofs.Ytahffinjglmhhaa
open Go

theorem signs_of {s : String} {l : List Char} (h : s = String.ofList l) : s.toList = l := by rw [h, String.toList_ofList]

theorem strip_cut (r : List (List Char)) : stripLifts liftWords ("cut".toList :: r) = ([], "cut".toList :: r) := by rfl

theorem enters (P : Program) (l : List Char) (h : P.initOrder.toList = l) (c : List Char) (r : List (List Char)) (k : behindMainWord (wordsSigns l) = c :: r) (hc : c = "cut".toList)
    (hl : P.laysLater = false) (hb : P.bearsReflect = false) (hd : P.doorFits [] = true) : P.mayEnter = true := by
  subst hc
  unfold Program.mayEnter
  rw [h, k]
  simp only [strip_cut, hl, hb, hd]
  rfl

theorem lifts_no_final (P : Program) (l : List Char) (h : P.initOrder.toList = l) (c : List Char) (r : List (List Char)) (k : behindMainWord (wordsSigns l) = c :: r) (hc : c = "cut".toList) : (false == P.liftsFinal) = true := by
  subst hc
  unfold Program.liftsFinal Program.headLifts
  rw [h, k]
  simp only [strip_cut]
  rfl

theorem made_by_cut (P : Program) (l : List Char) (h : P.initOrder.toList = l) (c : List Char) (r : List (List Char)) (k : behindMainWord (wordsSigns l) = c :: r) (hc : c = "cut".toList) : (P.make == some .cut) = true := by
  subst hc
  unfold Program.make
  rw [h, k]
  rfl

set_option maxRecDepth 100000 in
theorem head_mayEnter : Try.pinned.checked.prog.mayEnter = true := by
  have h : Try.pinned.checked.prog.initOrder.toList = _ := signs_of rfl
  exact enters _ _ h _ _ (Eq.refl (_ :: _)) (by kernel_rfl) (by kernel_rfl) (by kernel_rfl) (by kernel_rfl)

set_option maxRecDepth 100000 in
theorem head_liftsFinal : (false == Try.pinned.checked.prog.liftsFinal) = true := by
  have h : Try.pinned.checked.prog.initOrder.toList = _ := signs_of rfl
  exact lifts_no_final _ _ h _ _ (Eq.refl (_ :: _)) (by kernel_rfl)

set_option maxRecDepth 100000 in
theorem head_make : (Try.pinned.checked.prog.make == some .cut) = true := by
  have h : Try.pinned.checked.prog.initOrder.toList = _ := signs_of rfl
  exact made_by_cut _ _ h _ _ (Eq.refl (_ :: _)) (by kernel_rfl)
end Go.Proofs.Ytahffinjglmhhaa
