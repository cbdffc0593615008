/-
  Messages of ARP read, and answered: what ReadArp and ArpReply return, and their laws' walks.
-/
import Derived.Test.YtahffinjglmhhaaRdF
namespace Go.Proofs.Ytahffinjglmhhaa
open Go.RowKit
set_option linter.unusedVariables false

def raOk (s : ByteArray) : Bool := arpOk (getV s 6 2) (getV s 8 6) (getV s 14 4) (getV s 18 6) (getV s 24 4)
def raHd (s : ByteArray) : Bool := (s.extract 0 6).toList == ([0, 1, 8, 0, 6, 4] : List UInt8)
theorem newA1 (w : World) (x : Obj) (cs : Array Value) (t : TypeId) : ∀ o, ((w.alloc x).alloc (.cells cs t)).cell? ⟨w.heap.size + 1, o, none⟩ = cs[o]? := fun o => by simp
theorem impl_ReadArp_short (s : ByteArray) (w : World) (h28 : s.size < 28) :
    Calls Try.prog 14 #[.string s] w fun e w' => e = .returned (.tuple #[.agg #[.int .i64 0, .int .i64 0, .int .i64 0, .int .i64 0, .int .i64 0], .bool false]) ∧ Below w.heap.size w w' := by
  go_enter Try.func14, Try.ntmps14
  go_wp2_with fail
  simp [bodyPost, results, Try.results14, go_sem]
  exact (by repeat (first | with_reducible exact Below.refl _ _ | with_reducible assumption | with_reducible refine Below.al ?_ _ | with_reducible refine Below.drew ?_ | with_reducible refine Below.seq ?_ (by assumption) | (with_reducible refine Below.setCell ?_ ?_ _); rotate_left; focus (first | exact Nat.le_refl _ | (simp; done) | (simp; omega))))
theorem impl_ReadArp_head (s : ByteArray) (w : World) (hs : s.size ≤ 140737488355328) (h28 : 28 ≤ s.size) (hh : raHd s = false) :
    Calls Try.prog 14 #[.string s] w fun e w' => e = .returned (.tuple #[.agg #[.int .i64 0, .int .i64 0, .int .i64 0, .int .i64 0, .int .i64 0], .bool false]) ∧ Below w.heap.size w w' := by
  have Ht := hide hh
  have g1 : ((s.extract 0 6).toList == ([0, 1, 8, 0, 6, 4] : List UInt8)) = false := hh
  have g2 : ((s.extract 0 6).toList != ([0, 1, 8, 0, 6, 4] : List UInt8)) = true := by rw [bne, show ((s.extract 0 6).toList == ([0, 1, 8, 0, 6, 4] : List UInt8)) = false from hh]; rfl
  clear hh
  go_enter Try.func14, Try.ntmps14
  go_wp2_with fail
  simp [bodyPost, results, Try.results14, go_sem]
  exact (by repeat (first | with_reducible exact Below.refl _ _ | with_reducible assumption | with_reducible refine Below.al ?_ _ | with_reducible refine Below.drew ?_ | with_reducible refine Below.seq ?_ (by assumption) | (with_reducible refine Below.setCell ?_ ?_ _); rotate_left; focus (first | exact Nat.le_refl _ | (simp; done) | (simp; omega))))
theorem impl_ReadArp_yes (s : ByteArray) (w : World) (hs : s.size ≤ 140737488355328) (h28 : 28 ≤ s.size) (hh : raHd s = true) (h : raOk s = true) :
    Calls Try.prog 14 #[.string s] w fun e w' => e = .returned (.tuple #[.agg #[.int .i64 (getV s 6 2), .int .i64 (getV s 8 6), .int .i64 (getV s 14 4), .int .i64 (getV s 18 6), .int .i64 (getV s 24 4)], .bool true]) ∧ Below w.heap.size w w' := by
  have Ht := hide hh
  have g1 : ((s.extract 0 6).toList == ([0, 1, 8, 0, 6, 4] : List UInt8)) = true := hh
  have g2 : ((s.extract 0 6).toList != ([0, 1, 8, 0, 6, 4] : List UInt8)) = false := by rw [bne, show ((s.extract 0 6).toList == ([0, 1, 8, 0, 6, 4] : List UInt8)) = true from hh]; rfl
  clear hh
  have H := hide (show arpOk (getV s 6 2) (getV s 8 6) (getV s 14 4) (getV s 18 6) (getV s 24 4) = true from h)
  clear h
  go_enter Try.func14, Try.ntmps14
  go_wp2_with (first | (go_at_call 61; refine (impl_word _ _ _ _ hs).mono ?_; rintro e w1 ⟨rfl, rfl⟩) | fail)
  (go_wp2_with fail; refine (impl_ArpOk _ _ _ _ _ _).mono ?_; rintro e w1 ⟨rfl, hb1⟩; obtain ⟨hc1, hf1⟩ := bcell hb1; (try (have hz1_0 : w.heap.size < w1.heap.size := (by have := hb1.size; (try simp at this); omega))); (try (have hz1_x : w.heap.size + 1 < w1.heap.size := (by have := hb1.size; (try simp at this); omega))))
  rw [H.out]
  have hA : ∀ o, w1.cell? ⟨w.heap.size, o, none⟩ = [Value.int .i64 0, .int .i64 0, .int .i64 0, .int .i64 0, .int .i64 0].toArray[o]? := keepA hb1 (keepA (below_alloc _ _) (newA w _ _))
  have hB : ∀ o, w1.cell? ⟨w.heap.size + 1, o, none⟩ = [Value.int .i64 (getV s 6 2), .int .i64 (getV s 8 6), .int .i64 (getV s 14 4), .int .i64 (getV s 18 6), .int .i64 (getV s 24 4)].toArray[o]? := keepA hb1 (newA1 w _ _ _)
  clear hz1_0 hz1_x hc1
  go_wp2
  simp [bodyPost, results, Try.results14, go_sem, hA]
  all_goals exact (by repeat (first | with_reducible exact Below.refl _ _ | with_reducible assumption | with_reducible refine Below.al ?_ _ | with_reducible refine Below.drew ?_ | with_reducible refine Below.seq ?_ (by assumption) | (with_reducible refine Below.setCell ?_ ?_ _); rotate_left; focus (first | exact Nat.le_refl _ | (simp; done) | (simp; omega))))
theorem impl_ReadArp_no (s : ByteArray) (w : World) (hs : s.size ≤ 140737488355328) (h28 : 28 ≤ s.size) (hh : raHd s = true) (h : raOk s = false) :
    Calls Try.prog 14 #[.string s] w fun e w' => e = .returned (.tuple #[.agg #[.int .i64 0, .int .i64 0, .int .i64 0, .int .i64 0, .int .i64 0], .bool false]) ∧ Below w.heap.size w w' := by
  have Ht := hide hh
  have g1 : ((s.extract 0 6).toList == ([0, 1, 8, 0, 6, 4] : List UInt8)) = true := hh
  have g2 : ((s.extract 0 6).toList != ([0, 1, 8, 0, 6, 4] : List UInt8)) = false := by rw [bne, show ((s.extract 0 6).toList == ([0, 1, 8, 0, 6, 4] : List UInt8)) = true from hh]; rfl
  clear hh
  have H := hide (show arpOk (getV s 6 2) (getV s 8 6) (getV s 14 4) (getV s 18 6) (getV s 24 4) = false from h)
  clear h
  go_enter Try.func14, Try.ntmps14
  go_wp2_with (first | (go_at_call 61; refine (impl_word _ _ _ _ hs).mono ?_; rintro e w1 ⟨rfl, rfl⟩) | fail)
  (go_wp2_with fail; refine (impl_ArpOk _ _ _ _ _ _).mono ?_; rintro e w1 ⟨rfl, hb1⟩; obtain ⟨hc1, hf1⟩ := bcell hb1; (try (have hz1_0 : w.heap.size < w1.heap.size := (by have := hb1.size; (try simp at this); omega))); (try (have hz1_x : w.heap.size + 1 < w1.heap.size := (by have := hb1.size; (try simp at this); omega))))
  rw [H.out]
  have hA : ∀ o, w1.cell? ⟨w.heap.size, o, none⟩ = [Value.int .i64 0, .int .i64 0, .int .i64 0, .int .i64 0, .int .i64 0].toArray[o]? := keepA hb1 (keepA (below_alloc _ _) (newA w _ _))
  have hB : ∀ o, w1.cell? ⟨w.heap.size + 1, o, none⟩ = [Value.int .i64 (getV s 6 2), .int .i64 (getV s 8 6), .int .i64 (getV s 14 4), .int .i64 (getV s 18 6), .int .i64 (getV s 24 4)].toArray[o]? := keepA hb1 (newA1 w _ _ _)
  clear hz1_0 hz1_x hc1
  go_wp2
  simp [bodyPost, results, Try.results14, go_sem, hA]
  all_goals exact (by repeat (first | with_reducible exact Below.refl _ _ | with_reducible assumption | with_reducible refine Below.al ?_ _ | with_reducible refine Below.drew ?_ | with_reducible refine Below.seq ?_ (by assumption) | (with_reducible refine Below.setCell ?_ ?_ _); rotate_left; focus (first | exact Nat.le_refl _ | (simp; done) | (simp; omega))))

def raB (s : ByteArray) : Bool := decide (28 ≤ s.size) && (raHd s && raOk s)
def raI (s : ByteArray) (x : Int) : Int := if raB s then x else 0
theorem impl_ReadArp (s : ByteArray) (w : World) (hs : s.size ≤ 140737488355328) :
    Calls Try.prog 14 #[.string s] w fun e w' => e = .returned (.tuple #[.agg #[.int .i64 (raI s (getV s 6 2)), .int .i64 (raI s (getV s 8 6)), .int .i64 (raI s (getV s 14 4)), .int .i64 (raI s (getV s 18 6)), .int .i64 (raI s (getV s 24 4))], .bool (raB s)]) ∧ Below w.heap.size w w' := by
  by_cases h28 : 28 ≤ s.size
  · skip
    cases hh : raHd s
    · have hb : raB s = false := by rw [raB, hh]; simp
      simp only [raI, hb]
      exact impl_ReadArp_head s w hs h28 hh
    · cases h : raOk s
      · have hb : raB s = false := by rw [raB, h]; simp
        simp only [raI, hb]
        exact impl_ReadArp_no s w hs h28 hh h
      · have hb : raB s = true := by rw [raB, h, hh]; simp [h28]
        simp only [raI, hb]
        exact impl_ReadArp_yes s w hs h28 hh h
  · have hb : raB s = false := by rw [raB]; simp [h28]
    simp only [raI, hb]
    exact impl_ReadArp_short s w (by omega)
end Go.Proofs.Ytahffinjglmhhaa
