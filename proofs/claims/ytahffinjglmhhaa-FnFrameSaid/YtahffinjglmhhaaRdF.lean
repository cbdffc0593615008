/-
  Frames read: what ReadFrame returns, and its law's walk.
-/
import Derived.Test.YtahffinjglmhhaaText
import Derived.Test.YtahffinjglmhhaaPure
import Derived.Test.YtahffinjglmhhaaOpen
namespace Go.Proofs.Ytahffinjglmhhaa
open Go.RowKit
set_option linter.unusedVariables false
theorem str_ne_empty (s : ByteArray) (h : 0 < s.size) : (s.toList == []) = false ∧ (([] : List UInt8) == s.toList) = false ∧ s.toList.isEmpty = false := by
  have h1 : s.toList ≠ [] := fun e => by rw [toList_nil_iff] at e; omega
  cases hs : s.toList with
  | nil => exact absurd hs h1
  | cons a b => exact ⟨rfl, rfl, rfl⟩
theorem below_alloc (w : World) (o : Obj) : Below w.heap.size w (w.alloc o) := (Below.refl _ _).alloc (Nat.le_refl _) o
theorem keepD {a : World} {g : Nat} {cs : Array Value} (h : ∀ o, a.cell? ⟨g, o, none⟩ = cs[o]?) : ∀ o, a.drew.cell? ⟨g, o, none⟩ = cs[o]? := h
def rfOk (s : ByteArray) : Bool := frameOk (getV s 0 6) (getV s 6 6) (getV s 12 2) (s.extract 14 s.size)
theorem impl_ReadFrame_yes (s : ByteArray) (w : World) (hs : s.size ≤ 140737488355328) (h14 : 14 ≤ s.size) (h : rfOk s = true) :
    Calls Try.prog 27 #[.string s] w fun e w' => e = .returned (.tuple #[.agg #[.int .i64 (getV s 0 6), .int .i64 (getV s 6 6), .int .i64 (getV s 12 2), .string (s.extract 14 s.size)], .bool true]) ∧ Below w.heap.size w w' := by
  have H := hide (show frameOk (getV s 0 6) (getV s 6 6) (getV s 12 2) (s.extract 14 s.size) = true from h)
  clear h
  go_enter Try.func27, Try.ntmps27
  go_wp2_with fail
  go_region_held3 (fun w' => w.heap.size < w'.heap.size) (first | (simp; done) | (simp; omega)) (first | (go_at_call 61; refine (impl_word _ _ _ _ hs).mono ?_; rintro e w1 ⟨rfl, rfl⟩))
  all_goals
    (go_wp2_with fail; refine (impl_FrameOk _ _ _ _ _).mono ?_; rintro e w1 ⟨rfl, hb1⟩; obtain ⟨hc1, hf1⟩ := bcell hb1; (try (have hz1_0 : w.heap.size < w1.heap.size := (by have := hb1.size; (try simp at this); omega))); (try (have hz1_x : w.heap.size + 1 < w1.heap.size := (by have := hb1.size; (try simp at this); omega))))
    rw [H.out]
    have hA : ∀ o, w1.cell? ⟨w.heap.size, o, none⟩ = [Value.int .i64 0, .int .i64 0, .int .i64 0, .string ⟨#[]⟩].toArray[o]? := keepA hb1 (keepD (keepA (below_alloc _ _) (newA w _ _)))
    clear hz1_0 hz1_x
    go_wp2
    simp [bodyPost, results, Try.results27, go_sem, hA]
    all_goals exact (by repeat (first | with_reducible exact Below.refl _ _ | with_reducible assumption | with_reducible refine Below.al ?_ _ | with_reducible refine Below.drew ?_ | with_reducible refine Below.seq ?_ (by assumption) | (with_reducible refine Below.setCell ?_ ?_ _); rotate_left; focus (first | exact Nat.le_refl _ | (simp; done) | (simp; omega))))
theorem impl_ReadFrame_no (s : ByteArray) (w : World) (hs : s.size ≤ 140737488355328) (h14 : 14 ≤ s.size) (h : rfOk s = false) :
    Calls Try.prog 27 #[.string s] w fun e w' => e = .returned (.tuple #[.agg #[.int .i64 0, .int .i64 0, .int .i64 0, .string ⟨#[]⟩], .bool false]) ∧ Below w.heap.size w w' := by
  have H := hide (show frameOk (getV s 0 6) (getV s 6 6) (getV s 12 2) (s.extract 14 s.size) = false from h)
  clear h
  go_enter Try.func27, Try.ntmps27
  go_wp2_with fail
  go_region_held3 (fun w' => w.heap.size < w'.heap.size) (first | (simp; done) | (simp; omega)) (first | (go_at_call 61; refine (impl_word _ _ _ _ hs).mono ?_; rintro e w1 ⟨rfl, rfl⟩))
  all_goals
    (go_wp2_with fail; refine (impl_FrameOk _ _ _ _ _).mono ?_; rintro e w1 ⟨rfl, hb1⟩; obtain ⟨hc1, hf1⟩ := bcell hb1; (try (have hz1_0 : w.heap.size < w1.heap.size := (by have := hb1.size; (try simp at this); omega))); (try (have hz1_x : w.heap.size + 1 < w1.heap.size := (by have := hb1.size; (try simp at this); omega))))
    rw [H.out]
    have hA : ∀ o, w1.cell? ⟨w.heap.size, o, none⟩ = [Value.int .i64 0, .int .i64 0, .int .i64 0, .string ⟨#[]⟩].toArray[o]? := keepA hb1 (keepD (keepA (below_alloc _ _) (newA w _ _)))
    clear hz1_0 hz1_x
    go_wp2
    simp [bodyPost, results, Try.results27, go_sem, hA]
    all_goals exact (by repeat (first | with_reducible exact Below.refl _ _ | with_reducible assumption | with_reducible refine Below.al ?_ _ | with_reducible refine Below.drew ?_ | with_reducible refine Below.seq ?_ (by assumption) | (with_reducible refine Below.setCell ?_ ?_ _); rotate_left; focus (first | exact Nat.le_refl _ | (simp; done) | (simp; omega))))
theorem impl_ReadFrame_short (s : ByteArray) (w : World) (h14 : s.size < 14) :
    Calls Try.prog 27 #[.string s] w fun e w' => e = .returned (.tuple #[.agg #[.int .i64 0, .int .i64 0, .int .i64 0, .string ⟨#[]⟩], .bool false]) ∧ Below w.heap.size w w' := by
  go_enter Try.func27, Try.ntmps27
  go_wp2_with fail
  simp [bodyPost, results, Try.results27, go_sem]
  exact (by repeat (first | with_reducible exact Below.refl _ _ | with_reducible assumption | with_reducible refine Below.al ?_ _ | with_reducible refine Below.drew ?_ | with_reducible refine Below.seq ?_ (by assumption) | (with_reducible refine Below.setCell ?_ ?_ _); rotate_left; focus (first | exact Nat.le_refl _ | (simp; done) | (simp; omega))))
theorem frameText_rd (s : ByteArray) (h14 : 14 ≤ s.size) (h : rfOk s = true) : frameText (getV s 0 6) (getV s 6 6) (getV s 12 2) (s.extract 14 s.size) = s := by
  have e : frameText (getV s 0 6) (getV s 6 6) (getV s 12 2) (s.extract 14 s.size) = putWord (getV s 0 6) 6 ++ putWord (getV s 6 6) 6 ++ putWord (getV s 12 2) 2 ++ s.extract 14 s.size := by
    rw [frameText]; exact if_pos h
  rw [e, show getV s 0 6 = gw s 0 6 from getV_in s 0 6 (by omega) (by omega) (by omega), show getV s 6 6 = gw s 6 6 from getV_in s 6 6 (by omega) (by omega) (by omega), show getV s 12 2 = gw s 12 2 from getV_in s 12 2 (by omega) (by omega) (by omega),
    show putWord (gw s 0 6) 6 = s.extract 0 6 from putWord_gw s 0 6 (by omega) (by omega) (by omega), show putWord (gw s 6 6) 6 = s.extract 6 12 from putWord_gw s 6 6 (by omega) (by omega) (by omega), show putWord (gw s 12 2) 2 = s.extract 12 14 from putWord_gw s 12 2 (by omega) (by omega) (by omega),
    extract_app s 0 6 12 (by omega) (by omega) (by omega), extract_app s 0 12 14 (by omega) (by omega) (by omega), extract_app s 0 14 s.size (by omega) (by omega) (by omega), extract_all]
theorem spec_ReadFrame_yes (s : ByteArray) (w : World) (hs : s.size ≤ 140737488355328) (h14 : 14 ≤ s.size) (h : rfOk s = true) :
    Calls Try.prog 29 #[.string s] w fun e w' => e = .returned (.tuple #[.agg #[.int .i64 (getV s 0 6), .int .i64 (getV s 6 6), .int .i64 (getV s 12 2), .string (s.extract 14 s.size)], .bool true]) ∧ Below w.heap.size w w' := by
  have H := hide (frameText_rd s h14 h)
  have hx : (s.extract 14 s.size).size ≤ 140737488355328 := by simp; omega
  have Hx := hide hx
  clear h hx
  go_enter Try.func29, Try.ntmps29
  go_wp2_with (first | (go_at_call 77; refine (spec_GetWord _ _ _ _ hs).mono ?_; rintro e w1 ⟨rfl, rfl⟩) | fail)
  (go_wp2_with fail; refine (spec_FrameText _ _ _ _ _ Hx.out).mono ?_; rintro e w1 ⟨rfl, hb1⟩; obtain ⟨hc1, hf1⟩ := bcell hb1; (try (have hz1_0 : w.heap.size < w1.heap.size := (by have := hb1.size; (try simp at this); omega))); (try (have hz1_x : w.heap.size + 1 < w1.heap.size := (by have := hb1.size; (try simp at this); omega))))
  rw [H.out]
  have hA : ∀ o, w1.cell? ⟨w.heap.size, o, none⟩ = [Value.int .i64 0, .int .i64 0, .int .i64 0, .string ⟨#[]⟩].toArray[o]? := keepA hb1 (keepA (below_alloc _ _) (newA w _ _))
  clear hz1_0 hz1_x
  go_wp2
  simp [bodyPost, results, Try.results29, go_sem, hA]
  all_goals exact (by repeat (first | with_reducible exact Below.refl _ _ | with_reducible assumption | with_reducible refine Below.al ?_ _ | with_reducible refine Below.drew ?_ | with_reducible refine Below.seq ?_ (by assumption) | (with_reducible refine Below.setCell ?_ ?_ _); rotate_left; focus (first | exact Nat.le_refl _ | (simp; done) | (simp; omega))))
theorem spec_ReadFrame_no (s : ByteArray) (w : World) (hs : s.size ≤ 140737488355328) (h14 : 14 ≤ s.size) (h : rfOk s = false) :
    Calls Try.prog 29 #[.string s] w fun e w' => e = .returned (.tuple #[.agg #[.int .i64 0, .int .i64 0, .int .i64 0, .string ⟨#[]⟩], .bool false]) ∧ Below w.heap.size w w' := by
  have H := hide (show frameText (getV s 0 6) (getV s 6 6) (getV s 12 2) (s.extract 14 s.size) = ⟨#[]⟩ by rw [frameText]; exact if_neg (by rw [show frameOk _ _ _ _ = false from h]; simp))
  have hne := str_ne_empty s (by omega)
  have hx : (s.extract 14 s.size).size ≤ 140737488355328 := by simp; omega
  have Hx := hide hx
  clear h hx
  go_enter Try.func29, Try.ntmps29
  go_wp2_with (first | (go_at_call 77; refine (spec_GetWord _ _ _ _ hs).mono ?_; rintro e w1 ⟨rfl, rfl⟩) | fail)
  (go_wp2_with fail; refine (spec_FrameText _ _ _ _ _ Hx.out).mono ?_; rintro e w1 ⟨rfl, hb1⟩; obtain ⟨hc1, hf1⟩ := bcell hb1; (try (have hz1_0 : w.heap.size < w1.heap.size := (by have := hb1.size; (try simp at this); omega))); (try (have hz1_x : w.heap.size + 1 < w1.heap.size := (by have := hb1.size; (try simp at this); omega))))
  rw [H.out]
  have hA : ∀ o, w1.cell? ⟨w.heap.size, o, none⟩ = [Value.int .i64 0, .int .i64 0, .int .i64 0, .string ⟨#[]⟩].toArray[o]? := keepA hb1 (keepA (below_alloc _ _) (newA w _ _))
  clear hz1_0 hz1_x
  go_wp2
  simp [bodyPost, results, Try.results29, go_sem, hA]
  all_goals exact (by repeat (first | with_reducible exact Below.refl _ _ | with_reducible assumption | with_reducible refine Below.al ?_ _ | with_reducible refine Below.drew ?_ | with_reducible refine Below.seq ?_ (by assumption) | (with_reducible refine Below.setCell ?_ ?_ _); rotate_left; focus (first | exact Nat.le_refl _ | (simp; done) | (simp; omega))))
theorem spec_ReadFrame_short (s : ByteArray) (w : World) (h14 : s.size < 14) :
    Calls Try.prog 29 #[.string s] w fun e w' => e = .returned (.tuple #[.agg #[.int .i64 0, .int .i64 0, .int .i64 0, .string ⟨#[]⟩], .bool false]) ∧ Below w.heap.size w w' := by
  go_enter Try.func29, Try.ntmps29
  go_wp2_with fail
  simp [bodyPost, results, Try.results29, go_sem]
  exact (by repeat (first | with_reducible exact Below.refl _ _ | with_reducible assumption | with_reducible refine Below.al ?_ _ | with_reducible refine Below.drew ?_ | with_reducible refine Below.seq ?_ (by assumption) | (with_reducible refine Below.setCell ?_ ?_ _); rotate_left; focus (first | exact Nat.le_refl _ | (simp; done) | (simp; omega))))

def rfB (s : ByteArray) : Bool := decide (14 ≤ s.size) && rfOk s
def rfI (s : ByteArray) (x : Int) : Int := if rfB s then x else 0
def rfS (s : ByteArray) : ByteArray := if rfB s then s.extract 14 s.size else ⟨#[]⟩
theorem impl_ReadFrame (s : ByteArray) (w : World) (hs : s.size ≤ 140737488355328) :
    Calls Try.prog 27 #[.string s] w fun e w' => e = .returned (.tuple #[.agg #[.int .i64 (rfI s (getV s 0 6)), .int .i64 (rfI s (getV s 6 6)), .int .i64 (rfI s (getV s 12 2)), .string (rfS s)], .bool (rfB s)]) ∧ Below w.heap.size w w' := by
  by_cases h14 : 14 ≤ s.size
  · cases h : rfOk s
    · have hb : rfB s = false := by rw [rfB, h]; simp
      simp only [rfI, rfS, hb]
      exact impl_ReadFrame_no s w hs h14 h
    · have hb : rfB s = true := by rw [rfB, h]; simp [h14]
      simp only [rfI, rfS, hb]
      exact impl_ReadFrame_yes s w hs h14 h
  · have hb : rfB s = false := by rw [rfB]; simp [h14]
    simp only [rfI, rfS, hb]
    exact impl_ReadFrame_short s w (by omega)
theorem spec_ReadFrame (s : ByteArray) (w : World) (hs : s.size ≤ 140737488355328) :
    Calls Try.prog 29 #[.string s] w fun e w' => e = .returned (.tuple #[.agg #[.int .i64 (rfI s (getV s 0 6)), .int .i64 (rfI s (getV s 6 6)), .int .i64 (rfI s (getV s 12 2)), .string (rfS s)], .bool (rfB s)]) ∧ Below w.heap.size w w' := by
  by_cases h14 : 14 ≤ s.size
  · cases h : rfOk s
    · have hb : rfB s = false := by rw [rfB, h]; simp
      simp only [rfI, rfS, hb]
      exact spec_ReadFrame_no s w hs h14 h
    · have hb : rfB s = true := by rw [rfB, h]; simp [h14]
      simp only [rfI, rfS, hb]
      exact spec_ReadFrame_yes s w hs h14 h
  · have hb : rfB s = false := by rw [rfB]; simp [h14]
    simp only [rfI, rfS, hb]
    exact spec_ReadFrame_short s w (by omega)
end Go.Proofs.Ytahffinjglmhhaa
