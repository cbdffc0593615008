/-
  An argument that is a struct of the laws: its fields, each fitting its kind, read off the row's own reading.
-/
import Derived.Test.YtpbndakbdaidnaaConv
import Derived.ProofKit
namespace Go.Proofs.Ytpbndakbdaidnaa
open Go.ChangeShapes Go.WideShapes Go.ChangeAt Go.RowKit
set_option linter.unusedVariables false
set_option maxRecDepth 100000

section
variable {H : Type} {enc : TypeId × Value → H} {P : Program} {w : World} {base : Nat} {spare : Nat → Bool} {held : Bool}
theorem fields_of {r : Reach} {b0 : Nat} {t : TypeId} {fs : Array Field} {v : Value} {d : DataW H} {p : List MemPlace} (hs : P.underlying t = some (.struct fs))
    (hv : Value.okWide P w r b0 t v) (h : DataW.Trod enc P w base spare held t v d p) :
    ∃ l : List Value, v = .agg l.toArray ∧ l.length = P.cellsOf t ∧ ∃ n, ∀ (i : Nat) (f : Field), fs[i]? = some f → ∃ y, DataW.trod enc P w base spare held n f.type ((l.drop f.offset).take (P.cellsOf f.type)) = some y := by
  obtain ⟨cs, rfl, hsz⟩ := okWide_struct hs hv
  obtain ⟨fuel, hf⟩ := h
  obtain ⟨xs, n, _, _, _, hl, hg⟩ := DataW.trod_struct hs hf
  refine ⟨cs.toList, rfl, by simpa using hsz, n, fun i f hi => ?_⟩
  have hlt : i < fs.size := (Array.getElem?_eq_some_iff.1 hi).1
  have h1 := hg i f hi
  rw [List.getElem?_eq_getElem (by omega)] at h1
  exact ⟨_, h1⟩
end
theorem at_of {l : List Value} {o : Nat} {v : Value} (h : (l.drop o).take 1 = [v]) : l[o]? = some v := by
  have h1 : ((l.drop o).take 1)[0]? = some v := by rw [h]; rfl
  simpa using h1
theorem at_of2 {l : List Value} {o k q : Nat} {v : Value} (h : (((l.drop o).take k).drop q).take 1 = [v]) : l[o + q]? = some v := by
  have h1 := at_of h
  rw [List.getElem?_take] at h1
  split at h1
  · simpa using h1
  · cases h1
theorem cells_int : Try.prog.cellsOf 3 = 1 := by kernel_rfl
theorem cells_bool : Try.prog.cellsOf 4 = 1 := by kernel_rfl
theorem cells_string : Try.prog.cellsOf 9 = 1 := by kernel_rfl

theorem cells_Options : Try.prog.cellsOf 41 = 6 := by kernel_rfl
theorem open_Options {H : Type} {enc : TypeId × Value → H} {w : World} {base : Nat} {spare : Nat → Bool} {held : Bool} {r : Reach} {b0 : Nat} {v : Value} {d : DataW H} {p : List MemPlace}
    (hv : Value.okWide Try.prog w r b0 41 v) (h : DataW.Trod enc Try.prog w base spare held 41 v d p) : IsOptions v := by
  obtain ⟨L, rfl, hlen, n0, hg⟩ := fields_of Try.underlying41 hv h
  rw [cells_Options] at hlen
  obtain ⟨y0, h0⟩ := hg 0 _ rfl
  obtain ⟨m, q_m, _, w_m⟩ := DataW.trod_int Try.underlying3 h0
  replace q_m := at_of (o := 0) (by rw [← cells_int]; exact q_m)
  obtain ⟨y1, h1⟩ := hg 1 _ rfl
  obtain ⟨s, q_s, _, w_s⟩ := DataW.trod_int Try.underlying3 h1
  replace q_s := at_of (o := 1) (by rw [← cells_int]; exact q_s)
  obtain ⟨y2, h2⟩ := hg 2 _ rfl
  obtain ⟨k, q_k, _⟩ := DataW.trod_bool Try.underlying4 h2
  replace q_k := at_of (o := 2) (by rw [← cells_bool]; exact q_k)
  obtain ⟨y3, h3⟩ := hg 3 _ rfl
  obtain ⟨st, q_st, _⟩ := DataW.trod_bool Try.underlying4 h3
  replace q_st := at_of (o := 3) (by rw [← cells_bool]; exact q_st)
  obtain ⟨y4, h4⟩ := hg 4 _ rfl
  obtain ⟨y, q_y, _, w_y⟩ := DataW.trod_int Try.underlying3 h4
  replace q_y := at_of (o := 4) (by rw [← cells_int]; exact q_y)
  obtain ⟨y5, h5⟩ := hg 5 _ rfl
  obtain ⟨e, q_e, _, w_e⟩ := DataW.trod_int Try.underlying3 h5
  replace q_e := at_of (o := 5) (by rw [← cells_int]; exact q_e)
  have hL : L = [.int .i64 m, .int .i64 s, .bool k, .bool st, .int .i64 y, .int .i64 e] := by
    apply List.ext_getElem?
    intro i
    match i with
    | 0 => exact q_m
    | 1 => exact q_s
    | 2 => exact q_k
    | 3 => exact q_st
    | 4 => exact q_y
    | 5 => exact q_e
    | i + 6 => rw [List.getElem?_eq_none (by omega)]; rfl
  subst hL
  exact ⟨m, s, k, st, y, e, rfl, I64.of_wf w_m, I64.of_wf w_s, I64.of_wf w_y, I64.of_wf w_e⟩
theorem cells_Segment : Try.prog.cellsOf 43 = 13 := by kernel_rfl
theorem open_Segment {H : Type} {enc : TypeId × Value → H} {w : World} {base : Nat} {spare : Nat → Bool} {held : Bool} {r : Reach} {b0 : Nat} {v : Value} {d : DataW H} {p : List MemPlace}
    (hv : Value.okWide Try.prog w r b0 43 v) (h : DataW.Trod enc Try.prog w base spare held 43 v d p) : IsSegment v := by
  obtain ⟨L, rfl, hlen, n0, hg⟩ := fields_of Try.underlying43 hv h
  rw [cells_Segment] at hlen
  obtain ⟨y0, h0⟩ := hg 0 _ rfl
  obtain ⟨f, q_f, _, w_f⟩ := DataW.trod_int Try.underlying3 h0
  replace q_f := at_of (o := 0) (by rw [← cells_int]; exact q_f)
  obtain ⟨y1, h1⟩ := hg 1 _ rfl
  obtain ⟨t, q_t, _, w_t⟩ := DataW.trod_int Try.underlying3 h1
  replace q_t := at_of (o := 1) (by rw [← cells_int]; exact q_t)
  obtain ⟨y2, h2⟩ := hg 2 _ rfl
  obtain ⟨q, q_q, _, w_q⟩ := DataW.trod_int Try.underlying3 h2
  replace q_q := at_of (o := 2) (by rw [← cells_int]; exact q_q)
  obtain ⟨y3, h3⟩ := hg 3 _ rfl
  obtain ⟨a, q_a, _, w_a⟩ := DataW.trod_int Try.underlying3 h3
  replace q_a := at_of (o := 3) (by rw [← cells_int]; exact q_a)
  obtain ⟨y4, h4⟩ := hg 4 _ rfl
  obtain ⟨l, q_l, _, w_l⟩ := DataW.trod_int Try.underlying3 h4
  replace q_l := at_of (o := 4) (by rw [← cells_int]; exact q_l)
  obtain ⟨y5, h5⟩ := hg 5 _ rfl
  obtain ⟨n, q_n, _, w_n⟩ := DataW.trod_int Try.underlying3 h5
  replace q_n := at_of (o := 5) (by rw [← cells_int]; exact q_n)
  obtain ⟨y6, h6⟩ := hg 6 _ rfl
  obtain ⟨xs, n1, _, _, _, hl1, hg1⟩ := DataW.trod_struct Try.underlying41 h6
  have u0 := hg1 0 _ rfl
  rw [List.getElem?_eq_getElem (by rw [hl1]; decide)] at u0
  obtain ⟨m, q_m, _, w_m⟩ := DataW.trod_int Try.underlying3 u0
  replace q_m := at_of2 (o := 6) (q := 0) (by rw [← cells_int]; exact q_m)
  have u1 := hg1 1 _ rfl
  rw [List.getElem?_eq_getElem (by rw [hl1]; decide)] at u1
  obtain ⟨s, q_s, _, w_s⟩ := DataW.trod_int Try.underlying3 u1
  replace q_s := at_of2 (o := 6) (q := 1) (by rw [← cells_int]; exact q_s)
  have u2 := hg1 2 _ rfl
  rw [List.getElem?_eq_getElem (by rw [hl1]; decide)] at u2
  obtain ⟨k, q_k, _⟩ := DataW.trod_bool Try.underlying4 u2
  replace q_k := at_of2 (o := 6) (q := 2) (by rw [← cells_bool]; exact q_k)
  have u3 := hg1 3 _ rfl
  rw [List.getElem?_eq_getElem (by rw [hl1]; decide)] at u3
  obtain ⟨st, q_st, _⟩ := DataW.trod_bool Try.underlying4 u3
  replace q_st := at_of2 (o := 6) (q := 3) (by rw [← cells_bool]; exact q_st)
  have u4 := hg1 4 _ rfl
  rw [List.getElem?_eq_getElem (by rw [hl1]; decide)] at u4
  obtain ⟨y, q_y, _, w_y⟩ := DataW.trod_int Try.underlying3 u4
  replace q_y := at_of2 (o := 6) (q := 4) (by rw [← cells_int]; exact q_y)
  have u5 := hg1 5 _ rfl
  rw [List.getElem?_eq_getElem (by rw [hl1]; decide)] at u5
  obtain ⟨e, q_e, _, w_e⟩ := DataW.trod_int Try.underlying3 u5
  replace q_e := at_of2 (o := 6) (q := 5) (by rw [← cells_int]; exact q_e)
  obtain ⟨y7, h7⟩ := hg 7 _ rfl
  obtain ⟨b, q_b, _, w_b⟩ := DataW.trod_string Try.underlying9 h7
  replace q_b := at_of (o := 12) (by rw [← cells_string]; exact q_b)
  have hL : L = [.int .i64 f, .int .i64 t, .int .i64 q, .int .i64 a, .int .i64 l, .int .i64 n, .int .i64 m, .int .i64 s, .bool k, .bool st, .int .i64 y, .int .i64 e, .string b] := by
    apply List.ext_getElem?
    intro i
    match i with
    | 0 => exact q_f
    | 1 => exact q_t
    | 2 => exact q_q
    | 3 => exact q_a
    | 4 => exact q_l
    | 5 => exact q_n
    | 6 => exact q_m
    | 7 => exact q_s
    | 8 => exact q_k
    | 9 => exact q_st
    | 10 => exact q_y
    | 11 => exact q_e
    | 12 => exact q_b
    | i + 13 => rw [List.getElem?_eq_none (by omega)]; rfl
  subst hL
  exact ⟨f, t, q, a, l, n, m, s, k, st, y, e, b, rfl, I64.of_wf w_f, I64.of_wf w_t, I64.of_wf w_q, I64.of_wf w_a, I64.of_wf w_l, I64.of_wf w_n, I64.of_wf w_m, I64.of_wf w_s, I64.of_wf w_y, I64.of_wf w_e, w_b⟩
end Go.Proofs.Ytpbndakbdaidnaa
