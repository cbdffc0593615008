/-
  Answers to ARP: what ArpReply returns, and its law's walk.
-/
import Derived.Test.YtahffinjglmhhaaRdA
namespace Go.Proofs.Ytahffinjglmhhaa
open Go.RowKit
set_option linter.unusedVariables false

def rpB (k sh si di m i : Int) : Bool := (k == 1) && (di == i) && arpOk 2 m i sh si
def rpI (b : Bool) (x : Int) : Int := if b then x else 0
theorem newA2 (w : World) (x y : Obj) (cs : Array Value) (t : TypeId) : ∀ o, (((w.alloc x).alloc y).alloc (.cells cs t)).cell? ⟨w.heap.size + 1 + 1, o, none⟩ = cs[o]? := fun o => by
  have h := newA ((w.alloc x).alloc y) cs t o
  rw [show ((w.alloc x).alloc y).heap.size = w.heap.size + 1 + 1 by simp] at h
  exact h

theorem impl_ArpReply (k sh si dh di m i : Int) (w : World) :
    Calls Try.prog 12 #[.agg #[.int .i64 k, .int .i64 sh, .int .i64 si, .int .i64 dh, .int .i64 di], .int .i64 m, .int .i64 i] w fun e w' => e = .returned (.tuple #[.agg #[.int .i64 (rpI (rpB k sh si di m i) 2), .int .i64 (rpI (rpB k sh si di m i) m), .int .i64 (rpI (rpB k sh si di m i) i), .int .i64 (rpI (rpB k sh si di m i) sh), .int .i64 (rpI (rpB k sh si di m i) si)], .bool (rpB k sh si di m i)]) ∧ Below w.heap.size w w' := by
  cases h1 : k == 1
  · have hb : rpB k sh si di m i = false := by rw [rpB, h1]; rfl
    have g1 : (k != 1) = true := by rw [bne, h1]; rfl
    simp only [rpI, hb, Bool.false_eq_true, if_false]
    clear hb
    go_enter Try.func12, Try.ntmps12
    go_wp2_with fail
    simp [bodyPost, results, Try.results12, go_sem]
    exact (by repeat (first | with_reducible exact Below.refl _ _ | with_reducible assumption | with_reducible refine Below.al ?_ _ | with_reducible refine Below.drew ?_ | with_reducible refine Below.seq ?_ (by assumption) | (with_reducible refine Below.setCell ?_ ?_ _); rotate_left; focus (first | exact Nat.le_refl _ | (simp; done) | (simp; omega))))
  cases h2 : di == i
  · have hb : rpB k sh si di m i = false := by rw [rpB, h1, h2]; rfl
    have g1 : (k != 1) = false := by rw [bne, h1]; rfl
    have g2 : (di != i) = true := by rw [bne, h2]; rfl
    simp only [rpI, hb, Bool.false_eq_true, if_false]
    clear hb
    go_enter Try.func12, Try.ntmps12
    go_wp2_with fail
    simp [bodyPost, results, Try.results12, go_sem]
    exact (by repeat (first | with_reducible exact Below.refl _ _ | with_reducible assumption | with_reducible refine Below.al ?_ _ | with_reducible refine Below.drew ?_ | with_reducible refine Below.seq ?_ (by assumption) | (with_reducible refine Below.setCell ?_ ?_ _); rotate_left; focus (first | exact Nat.le_refl _ | (simp; done) | (simp; omega))))
  have q1 : k = 1 := by simpa using h1
  have q2 : di = i := by simpa using h2
  subst q1 q2
  clear h1 h2
  cases h3 : arpOk 2 m di sh si
  · have hb : rpB 1 sh si di m di = false := by rw [rpB, h3]; simp
    simp only [rpI, hb, Bool.false_eq_true, if_false]
    have H := hide h3
    clear hb h3
    go_enter Try.func12, Try.ntmps12
    (go_wp2_with fail; refine (impl_ArpOk _ _ _ _ _ _).mono ?_; rintro e w1 ⟨rfl, hb1⟩; obtain ⟨hc1, hf1⟩ := bcell hb1; (try (have hz1_0 : w.heap.size < w1.heap.size := (by have := hb1.size; (try simp at this); omega))); (try (have hz1_x : w.heap.size + 1 < w1.heap.size := (by have := hb1.size; (try simp at this); omega))))
    rw [H.out]
    have hA : ∀ o, w1.cell? ⟨w.heap.size + 1, o, none⟩ = [Value.int .i64 0, .int .i64 0, .int .i64 0, .int .i64 0, .int .i64 0].toArray[o]? := keepA hb1 (keepA (below_alloc _ _) (newA1 w _ _ _))
    have hB : ∀ o, w1.cell? ⟨w.heap.size + 1 + 1, o, none⟩ = [Value.int .i64 2, .int .i64 m, .int .i64 di, .int .i64 sh, .int .i64 si].toArray[o]? := keepA hb1 (newA2 w _ _ _ _)
    go_wp2
    simp [bodyPost, results, Try.results12, go_sem, hA]
    all_goals exact (by repeat (first | with_reducible exact Below.refl _ _ | with_reducible assumption | with_reducible refine Below.al ?_ _ | with_reducible refine Below.drew ?_ | with_reducible refine Below.seq ?_ (by assumption) | (with_reducible refine Below.setCell ?_ ?_ _); rotate_left; focus (first | exact Nat.le_refl _ | (simp; done) | (simp; omega))))
  · have hb : rpB 1 sh si di m di = true := by rw [rpB, h3]; simp
    simp only [rpI, hb, if_true]
    have H := hide h3
    clear hb h3
    go_enter Try.func12, Try.ntmps12
    (go_wp2_with fail; refine (impl_ArpOk _ _ _ _ _ _).mono ?_; rintro e w1 ⟨rfl, hb1⟩; obtain ⟨hc1, hf1⟩ := bcell hb1; (try (have hz1_0 : w.heap.size < w1.heap.size := (by have := hb1.size; (try simp at this); omega))); (try (have hz1_x : w.heap.size + 1 < w1.heap.size := (by have := hb1.size; (try simp at this); omega))))
    rw [H.out]
    have hA : ∀ o, w1.cell? ⟨w.heap.size + 1, o, none⟩ = [Value.int .i64 0, .int .i64 0, .int .i64 0, .int .i64 0, .int .i64 0].toArray[o]? := keepA hb1 (keepA (below_alloc _ _) (newA1 w _ _ _))
    have hB : ∀ o, w1.cell? ⟨w.heap.size + 1 + 1, o, none⟩ = [Value.int .i64 2, .int .i64 m, .int .i64 di, .int .i64 sh, .int .i64 si].toArray[o]? := keepA hb1 (newA2 w _ _ _ _)
    go_wp2
    simp [bodyPost, results, Try.results12, go_sem, hA]
    all_goals exact (by repeat (first | with_reducible exact Below.refl _ _ | with_reducible assumption | with_reducible refine Below.al ?_ _ | with_reducible refine Below.drew ?_ | with_reducible refine Below.seq ?_ (by assumption) | (with_reducible refine Below.setCell ?_ ?_ _); rotate_left; focus (first | exact Nat.le_refl _ | (simp; done) | (simp; omega))))

theorem spec_ArpReply (k sh si dh di m i : Int) (w : World) :
    Calls Try.prog 13 #[.agg #[.int .i64 k, .int .i64 sh, .int .i64 si, .int .i64 dh, .int .i64 di], .int .i64 m, .int .i64 i] w fun e w' => e = .returned (.tuple #[.agg #[.int .i64 (rpI (rpB k sh si di m i) 2), .int .i64 (rpI (rpB k sh si di m i) m), .int .i64 (rpI (rpB k sh si di m i) i), .int .i64 (rpI (rpB k sh si di m i) sh), .int .i64 (rpI (rpB k sh si di m i) si)], .bool (rpB k sh si di m i)]) ∧ Below w.heap.size w w' := by
  cases h1 : k == 1
  · have hb : rpB k sh si di m i = false := by rw [rpB, h1]; rfl
    have g1 : (k != 1) = true := by rw [bne, h1]; rfl
    simp only [rpI, hb, Bool.false_eq_true, if_false]
    clear hb
    go_enter Try.func13, Try.ntmps13
    go_wp2_with fail
    simp [bodyPost, results, Try.results13, go_sem]
    exact (by repeat (first | with_reducible exact Below.refl _ _ | with_reducible assumption | with_reducible refine Below.al ?_ _ | with_reducible refine Below.drew ?_ | with_reducible refine Below.seq ?_ (by assumption) | (with_reducible refine Below.setCell ?_ ?_ _); rotate_left; focus (first | exact Nat.le_refl _ | (simp; done) | (simp; omega))))
  cases h2 : di == i
  · have hb : rpB k sh si di m i = false := by rw [rpB, h1, h2]; rfl
    have g1 : (k != 1) = false := by rw [bne, h1]; rfl
    have g2 : (di != i) = true := by rw [bne, h2]; rfl
    simp only [rpI, hb, Bool.false_eq_true, if_false]
    clear hb
    go_enter Try.func13, Try.ntmps13
    go_wp2_with fail
    simp [bodyPost, results, Try.results13, go_sem]
    exact (by repeat (first | with_reducible exact Below.refl _ _ | with_reducible assumption | with_reducible refine Below.al ?_ _ | with_reducible refine Below.drew ?_ | with_reducible refine Below.seq ?_ (by assumption) | (with_reducible refine Below.setCell ?_ ?_ _); rotate_left; focus (first | exact Nat.le_refl _ | (simp; done) | (simp; omega))))
  have q1 : k = 1 := by simpa using h1
  have q2 : di = i := by simpa using h2
  subst q1 q2
  clear h1 h2
  cases h3 : arpOk 2 m di sh si
  · have hb : rpB 1 sh si di m di = false := by rw [rpB, h3]; simp
    simp only [rpI, hb, Bool.false_eq_true, if_false]
    have H := hide h3
    clear hb h3
    go_enter Try.func13, Try.ntmps13
    (go_wp2_with fail; refine (spec_ArpOk _ _ _ _ _ _).mono ?_; rintro e w1 ⟨rfl, hb1⟩; obtain ⟨hc1, hf1⟩ := bcell hb1; (try (have hz1_0 : w.heap.size < w1.heap.size := (by have := hb1.size; (try simp at this); omega))); (try (have hz1_x : w.heap.size + 1 < w1.heap.size := (by have := hb1.size; (try simp at this); omega))))
    rw [H.out]
    have hA : ∀ o, w1.cell? ⟨w.heap.size + 1, o, none⟩ = [Value.int .i64 0, .int .i64 0, .int .i64 0, .int .i64 0, .int .i64 0].toArray[o]? := keepA hb1 (keepA (below_alloc _ _) (newA1 w _ _ _))
    have hB : ∀ o, w1.cell? ⟨w.heap.size + 1 + 1, o, none⟩ = [Value.int .i64 2, .int .i64 m, .int .i64 di, .int .i64 sh, .int .i64 si].toArray[o]? := keepA hb1 (newA2 w _ _ _ _)
    go_wp2
    simp [bodyPost, results, Try.results13, go_sem, hA]
    all_goals exact (by repeat (first | with_reducible exact Below.refl _ _ | with_reducible assumption | with_reducible refine Below.al ?_ _ | with_reducible refine Below.drew ?_ | with_reducible refine Below.seq ?_ (by assumption) | (with_reducible refine Below.setCell ?_ ?_ _); rotate_left; focus (first | exact Nat.le_refl _ | (simp; done) | (simp; omega))))
  · have hb : rpB 1 sh si di m di = true := by rw [rpB, h3]; simp
    simp only [rpI, hb, if_true]
    have H := hide h3
    clear hb h3
    go_enter Try.func13, Try.ntmps13
    (go_wp2_with fail; refine (spec_ArpOk _ _ _ _ _ _).mono ?_; rintro e w1 ⟨rfl, hb1⟩; obtain ⟨hc1, hf1⟩ := bcell hb1; (try (have hz1_0 : w.heap.size < w1.heap.size := (by have := hb1.size; (try simp at this); omega))); (try (have hz1_x : w.heap.size + 1 < w1.heap.size := (by have := hb1.size; (try simp at this); omega))))
    rw [H.out]
    have hA : ∀ o, w1.cell? ⟨w.heap.size + 1, o, none⟩ = [Value.int .i64 0, .int .i64 0, .int .i64 0, .int .i64 0, .int .i64 0].toArray[o]? := keepA hb1 (keepA (below_alloc _ _) (newA1 w _ _ _))
    have hB : ∀ o, w1.cell? ⟨w.heap.size + 1 + 1, o, none⟩ = [Value.int .i64 2, .int .i64 m, .int .i64 di, .int .i64 sh, .int .i64 si].toArray[o]? := keepA hb1 (newA2 w _ _ _ _)
    go_wp2
    simp [bodyPost, results, Try.results13, go_sem, hA]
    all_goals exact (by repeat (first | with_reducible exact Below.refl _ _ | with_reducible assumption | with_reducible refine Below.al ?_ _ | with_reducible refine Below.drew ?_ | with_reducible refine Below.seq ?_ (by assumption) | (with_reducible refine Below.setCell ?_ ?_ _); rotate_left; focus (first | exact Nat.le_refl _ | (simp; done) | (simp; omega))))

end Go.Proofs.Ytahffinjglmhhaa
