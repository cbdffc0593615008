/-
  An argument that is a struct of the laws: its fields, each fitting its kind, read off the row's own reading.
-/
import Derived.Test.YtckcfhcgkicldaaConv
import Derived.ProofKit
namespace Go.Proofs.Ytckcfhcgkicldaa
open Go.ChangeShapes Go.WideShapes Go.ChangeAt Go.RowKit
set_option linter.unusedVariables false
set_option maxRecDepth 100000

section
variable {H : Type} {enc : TypeId × Value → H} {P : Program} {w : World} {base : Nat} {spare : Nat → Bool} {held : Bool}
theorem fields_of {r : Reach} {b0 : Nat} {t : TypeId} {fs : Array Field} {v : Value} {d : DataW H} {p : List MemPlace} (hs : P.underlying t = some (.struct fs))
    (hv : Value.okWide P w r b0 t v) (h : DataW.Trod enc P w base spare held t v d p) :
    ∃ l : List Value, v = .agg l.toArray ∧ l.length = P.cellsOf t ∧ ∃ n, ∀ (i : Nat) (f : Field), fs[i]? = some f → ∃ y, DataW.trod enc P w base spare held n f.type ((l.drop f.offset).take (P.cellsOf f.type)) = some y := by
  obtain ⟨cs, rfl, hsz⟩ := okWide_struct hs hv
  obtain ⟨fuel, hf⟩ := h
  obtain ⟨xs, n, _, _, _, hl, hg⟩ := DataW.trod_struct hs hf
  refine ⟨cs.toList, rfl, by simpa using hsz, n, fun i f hi => ?_⟩
  have hlt : i < fs.size := (Array.getElem?_eq_some_iff.1 hi).1
  have h1 := hg i f hi
  rw [List.getElem?_eq_getElem (by omega)] at h1
  exact ⟨_, h1⟩
end
theorem at_of {l : List Value} {o : Nat} {v : Value} (h : (l.drop o).take 1 = [v]) : l[o]? = some v := by
  have h1 : ((l.drop o).take 1)[0]? = some v := by rw [h]; rfl
  simpa using h1
theorem at_of2 {l : List Value} {o k q : Nat} {v : Value} (h : (((l.drop o).take k).drop q).take 1 = [v]) : l[o + q]? = some v := by
  have h1 := at_of h
  rw [List.getElem?_take] at h1
  split at h1
  · simpa using h1
  · cases h1
theorem cells_int : Try.prog.cellsOf 3 = 1 := by kernel_rfl
theorem cells_bool : Try.prog.cellsOf 4 = 1 := by kernel_rfl
theorem cells_string : Try.prog.cellsOf 9 = 1 := by kernel_rfl

theorem cells_Frame : Try.prog.cellsOf 29 = 4 := by kernel_rfl
theorem open_Frame {H : Type} {enc : TypeId × Value → H} {w : World} {base : Nat} {spare : Nat → Bool} {held : Bool} {r : Reach} {b0 : Nat} {v : Value} {d : DataW H} {p : List MemPlace}
    (hv : Value.okWide Try.prog w r b0 29 v) (h : DataW.Trod enc Try.prog w base spare held 29 v d p) : IsFrame v := by
  obtain ⟨L, rfl, hlen, n0, hg⟩ := fields_of Try.underlying29 hv h
  rw [cells_Frame] at hlen
  obtain ⟨y0, h0⟩ := hg 0 _ rfl
  obtain ⟨d, q_d, _, w_d⟩ := DataW.trod_int Try.underlying3 h0
  replace q_d := at_of (o := 0) (by rw [← cells_int]; exact q_d)
  obtain ⟨y1, h1⟩ := hg 1 _ rfl
  obtain ⟨s, q_s, _, w_s⟩ := DataW.trod_int Try.underlying3 h1
  replace q_s := at_of (o := 1) (by rw [← cells_int]; exact q_s)
  obtain ⟨y2, h2⟩ := hg 2 _ rfl
  obtain ⟨t, q_t, _, w_t⟩ := DataW.trod_int Try.underlying3 h2
  replace q_t := at_of (o := 2) (by rw [← cells_int]; exact q_t)
  obtain ⟨y3, h3⟩ := hg 3 _ rfl
  obtain ⟨b, q_b, _, w_b⟩ := DataW.trod_string Try.underlying9 h3
  replace q_b := at_of (o := 3) (by rw [← cells_string]; exact q_b)
  have hL : L = [.int .i64 d, .int .i64 s, .int .i64 t, .string b] := by
    apply List.ext_getElem?
    intro i
    match i with
    | 0 => exact q_d
    | 1 => exact q_s
    | 2 => exact q_t
    | 3 => exact q_b
    | i + 4 => rw [List.getElem?_eq_none (by omega)]; rfl
  subst hL
  exact ⟨d, s, t, b, rfl, I64.of_wf w_d, I64.of_wf w_s, I64.of_wf w_t, w_b⟩
end Go.Proofs.Ytckcfhcgkicldaa
