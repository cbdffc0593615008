/-
  The library's numeral of a number, and what the reference's Digits returns, under one table that the program lays: the two agree for every number of 64 bits.
-/
import Derived.Test.YtahffinjglmhhaaDoorDigN
import Derived.Test.YtahffinjglmhhaaDoorShelf
import Derived.Lib.LaidTab
import Derived.Lib.AppendIntMem
import Derived.LaidHandle
import Derived.Stop.LaidErr
import Derived.MakeChecks
namespace Go.Proofs.YtahffinjglmhhaaDoor
open Go.RowKit
set_option linter.unusedVariables false

/-- The table that the library's numeral reads. -/
def Tab (w : World) : Prop := Lib.TabIs Tryd.prog w "internal/strconv.uint64pow10" .u64 Lib.pow10Tab
theorem glob_pow : Tryd.prog.globalNamed "internal/strconv.uint64pow10" = some 0 := by kernel_rfl
theorem Tab.low {w : World} (h : Tab w) : 0 < w.heap.size := by
  have c := h.cell glob_pow 0 (by decide)
  rcases Nat.lt_or_ge 0 w.heap.size with h' | h'
  · exact h'
  · simp [World.cell?, Array.getElem?_eq_none (show w.heap.size ≤ 0 from h')] at c
theorem Tab.below {w w' : World} {B : Nat} (h : Tab w) (hb : Below B w w') (hB : 0 < B) : Tab w' := by
  unfold Tab Lib.TabIs World.var? at h ⊢
  rw [glob_pow] at h ⊢
  simp only [Option.bind_some] at h ⊢
  rw [hb.block 0 hB]
  exact h
theorem itoa_lib (n : Int) (w : World) (h : I64 n) (ht : Tab w) :
    Calls Tryd.prog 19 #[.int .i64 n] w fun e w' => e = .returned (.string ⟨(Lib.itoa n).toArray⟩) ∧ Below w.heap.size w w' := by
  refine (Tryd.strconv_Itoa n h.1 h.2 w ht).mono ?_
  rintro e w' ⟨rfl, k, os, rfl⟩
  exact ⟨rfl, Lib.below_grow _ _ (Nat.le_refl _) k os⟩
theorem impl_Digits_any (n : Int) (w : World) (h : I64 n) (ht : Tab w) :
    Calls Tryd.prog 8 #[.int .i64 n] w fun e w' => e = .returned (.string ⟨(Lib.itoa n).toArray⟩) ∧ Below w.heap.size w w' := by
  go_enter Tryd.func8, Tryd.ntmps8
  (go_wp2_with fail; refine (itoa_lib n _ h ht).mono ?_; rintro e w1 ⟨rfl, hb1⟩; obtain ⟨hc1, hf1⟩ := bcell hb1; (try (have hz1_0 : w.heap.size < w1.heap.size := (by have := hb1.size; (try simp at this); omega))); (try (have hz1_x : w.heap.size + 1 < w1.heap.size := (by have := hb1.size; (try simp at this); omega))))
  go_wp2
  go_ret
  exact ⟨rfl, (by repeat (first | with_reducible exact Below.refl _ _ | with_reducible assumption | with_reducible refine Below.al ?_ _ | with_reducible refine Below.drew ?_ | with_reducible refine Below.seq ?_ (by assumption) | (with_reducible refine Below.setCell ?_ ?_ _); rotate_left; focus (first | exact Nat.le_refl _ | (simp; done) | (simp; omega))))⟩
/-- What the listed variables give: the table. -/
theorem tab_of {r1 r2 : String × DataW Unit} {W : World} (h : laidMet Tryd.prog [r1, r2, ("internal/strconv.uint64pow10", Rows.laid_internal_strconv_uint64pow10)] W) : Tab W :=
  Lib.tabIs_of_head (rest := []) glob_pow (t := 66) (by kernel_rfl) Tryd.underlying66 Tryd.underlying58 (by kernel_rfl) (by kernel_rfl) (laidMet.tail (laidMet.tail h))
end Go.Proofs.YtahffinjglmhhaaDoor
