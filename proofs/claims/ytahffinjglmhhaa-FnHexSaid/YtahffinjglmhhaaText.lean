/-
  What FrameText and ArpText return.
-/
import Derived.Test.YtahffinjglmhhaaOk
import Derived.Test.YtahffinjglmhhaaHead
import Derived.Deep.RegionHeld3
namespace Go.Proofs.Ytahffinjglmhhaa
open Go.RowKit
set_option linter.unusedVariables false

/-- A block that was there stays whole: each of its cells reads as before. -/
theorem keepA {a b : World} (hb : Below a.heap.size a b) {g : Nat} {v : Value} {cs : List Value} (h : ∀ o, a.cell? ⟨g, o, none⟩ = (v :: cs).toArray[o]?) : ∀ o, b.cell? ⟨g, o, none⟩ = (v :: cs).toArray[o]? :=
  fun o => (hb.cell (p := ⟨g, o, none⟩) (World.block_lt_of_cell? a ⟨g, 0, none⟩ (h 0))).trans (h o)
theorem newA (w : World) (cs : Array Value) (t : TypeId) : ∀ o, (w.alloc (.cells cs t)).cell? ⟨w.heap.size, o, none⟩ = cs[o]? := fun o => cell_of_row _ _ o cs t (0, 0) (heap_alloc_new w _)

def frameText (d s t : Int) (b : ByteArray) : ByteArray := if frameOk d s t b then putWord d 6 ++ putWord s 6 ++ putWord t 2 ++ b else ⟨#[]⟩
def arpText (k sh si dh di : Int) : ByteArray := if arpOk k sh si dh di then ⟨#[0, 1, 8, 0, 6, 4]⟩ ++ putWord k 2 ++ putWord sh 6 ++ putWord si 4 ++ putWord dh 6 ++ putWord di 4 else ⟨#[]⟩

theorem impl_FrameText (d s t : Int) (b : ByteArray) (w : World) (hb0 : b.size ≤ 140737488355328) :
    Calls Try.prog 25 #[.agg #[.int .i64 d, .int .i64 s, .int .i64 t, .string b]] w fun e w' => e = .returned (.string (frameText d s t b)) ∧ Below w.heap.size w w' := by
  cases h : frameOk d s t b
  · have e : frameText d s t b = ⟨#[]⟩ := by rw [frameText, h]; rfl
    rw [e]
    have H := hide h
    clear h e
    go_enter Try.func25, Try.ntmps25
    go_wp2_with (go_at_call 30; refine (impl_FrameOk _ _ _ _ _).mono ?_; rintro e w1 ⟨rfl, hb1⟩; rw [H.out])
    go_ret
    exact ⟨rfl, (by repeat (first | with_reducible exact Below.refl _ _ | with_reducible assumption | with_reducible refine Below.al ?_ _ | with_reducible refine Below.drew ?_ | with_reducible refine Below.seq ?_ (by assumption) | (with_reducible refine Below.setCell ?_ ?_ _); rotate_left; focus (first | exact Nat.le_refl _ | (simp; done) | (simp; omega))))⟩
  · have e : frameText d s t b = putWord d 6 ++ putWord s 6 ++ putWord t 2 ++ b := by rw [frameText, h]; rfl
    rw [e]
    have H := hide h
    have z0 := size_putWord_le d 6
    have z1 := size_putWord_le s 6
    have z2 := size_putWord_le t 2
    have s0 : ¬9223372036854775807 < (putWord d 6).size + (putWord s 6).size := by omega
    have s1 : ¬9223372036854775807 < (putWord d 6).size + (putWord s 6).size + (putWord t 2).size := by omega
    have s2 : ¬9223372036854775807 < (putWord d 6).size + (putWord s 6).size + (putWord t 2).size + b.size := by omega
    clear h e
    go_enter Try.func25, Try.ntmps25
    go_wp2_with (go_at_call 30; refine (impl_FrameOk _ _ _ _ _).mono ?_; rintro e w1 ⟨rfl, hb1⟩; rw [H.out])
    have hA := keepA hb1 (newA w _ _)
    have hB1 : Below w.heap.size w w1 := (by repeat (first | with_reducible exact Below.refl _ _ | with_reducible assumption | with_reducible refine Below.al ?_ _ | with_reducible refine Below.drew ?_ | with_reducible refine Below.seq ?_ (by assumption) | (with_reducible refine Below.setCell ?_ ?_ _); rotate_left; focus (first | exact Nat.le_refl _ | (simp; done) | (simp; omega))))
    clear hb1
    go_region_held3 (fun w' => ∀ o, w'.cell? ⟨w.heap.size, o, none⟩ = [Value.int .i64 d, Value.int .i64 s, Value.int .i64 t, .string b].toArray[o]?) (first | exact keepA (by assumption) (by assumption) | assumption)
      (first | (go_at_call 62; refine (impl_PutWord _ _ _).mono ?_; rintro e w' ⟨rfl, hb⟩))
    go_wp2
    go_ret
    exact ⟨rfl, (by repeat (first | with_reducible exact Below.refl _ _ | with_reducible assumption | with_reducible refine Below.al ?_ _ | with_reducible refine Below.drew ?_ | with_reducible refine Below.seq ?_ (by assumption) | (with_reducible refine Below.setCell ?_ ?_ _); rotate_left; focus (first | exact Nat.le_refl _ | (simp; done) | (simp; omega))))⟩
theorem impl_ArpText (k sh si dh di : Int) (w : World) :
    Calls Try.prog 15 #[.agg #[.int .i64 k, .int .i64 sh, .int .i64 si, .int .i64 dh, .int .i64 di]] w fun e w' => e = .returned (.string (arpText k sh si dh di)) ∧ Below w.heap.size w w' := by
  cases h : arpOk k sh si dh di
  · have e : arpText k sh si dh di = ⟨#[]⟩ := by rw [arpText, h]; rfl
    rw [e]
    have H := hide h
    clear h e
    go_enter Try.func15, Try.ntmps15
    go_wp2_with (go_at_call 17; refine (impl_ArpOk _ _ _ _ _ _).mono ?_; rintro e w1 ⟨rfl, hb1⟩; rw [H.out])
    go_ret
    exact ⟨rfl, (by repeat (first | with_reducible exact Below.refl _ _ | with_reducible assumption | with_reducible refine Below.al ?_ _ | with_reducible refine Below.drew ?_ | with_reducible refine Below.seq ?_ (by assumption) | (with_reducible refine Below.setCell ?_ ?_ _); rotate_left; focus (first | exact Nat.le_refl _ | (simp; done) | (simp; omega))))⟩
  · have e : arpText k sh si dh di = ⟨#[0, 1, 8, 0, 6, 4]⟩ ++ putWord k 2 ++ putWord sh 6 ++ putWord si 4 ++ putWord dh 6 ++ putWord di 4 := by rw [arpText, h]; rfl
    rw [e]
    have H := hide h
    have z0 := size_putWord_le k 2
    have z1 := size_putWord_le sh 6
    have z2 := size_putWord_le si 4
    have z3 := size_putWord_le dh 6
    have z4 := size_putWord_le di 4
    have s0 : ¬9223372036854775807 < 6 + (putWord k 2).size := by omega
    have s1 : ¬9223372036854775807 < 6 + (putWord k 2).size + (putWord sh 6).size := by omega
    have s2 : ¬9223372036854775807 < 6 + (putWord k 2).size + (putWord sh 6).size + (putWord si 4).size := by omega
    have s3 : ¬9223372036854775807 < 6 + (putWord k 2).size + (putWord sh 6).size + (putWord si 4).size + (putWord dh 6).size := by omega
    have s4 : ¬9223372036854775807 < 6 + (putWord k 2).size + (putWord sh 6).size + (putWord si 4).size + (putWord dh 6).size + (putWord di 4).size := by omega
    clear h e
    go_enter Try.func15, Try.ntmps15
    go_wp2_with (go_at_call 17; refine (impl_ArpOk _ _ _ _ _ _).mono ?_; rintro e w1 ⟨rfl, hb1⟩; rw [H.out])
    have hA := keepA hb1 (newA w _ _)
    have hB1 : Below w.heap.size w w1 := (by repeat (first | with_reducible exact Below.refl _ _ | with_reducible assumption | with_reducible refine Below.al ?_ _ | with_reducible refine Below.drew ?_ | with_reducible refine Below.seq ?_ (by assumption) | (with_reducible refine Below.setCell ?_ ?_ _); rotate_left; focus (first | exact Nat.le_refl _ | (simp; done) | (simp; omega))))
    clear hb1
    go_region_held3 (fun w' => ∀ o, w'.cell? ⟨w.heap.size, o, none⟩ = [Value.int .i64 k, Value.int .i64 sh, Value.int .i64 si, Value.int .i64 dh, Value.int .i64 di].toArray[o]?) (first | exact keepA (by assumption) (by assumption) | assumption)
      (first | (go_at_call 62; refine (impl_PutWord _ _ _).mono ?_; rintro e w' ⟨rfl, hb⟩))
    go_wp2
    go_ret
    exact ⟨rfl, (by repeat (first | with_reducible exact Below.refl _ _ | with_reducible assumption | with_reducible refine Below.al ?_ _ | with_reducible refine Below.drew ?_ | with_reducible refine Below.seq ?_ (by assumption) | (with_reducible refine Below.setCell ?_ ?_ _); rotate_left; focus (first | exact Nat.le_refl _ | (simp; done) | (simp; omega))))⟩
theorem spec_FrameText (d s t : Int) (b : ByteArray) (w : World) (hb0 : b.size ≤ 140737488355328) :
    Calls Try.prog 26 #[.agg #[.int .i64 d, .int .i64 s, .int .i64 t, .string b]] w fun e w' => e = .returned (.string (frameText d s t b)) ∧ Below w.heap.size w w' := by
  cases h : frameOk d s t b
  · have e : frameText d s t b = ⟨#[]⟩ := by rw [frameText, h]; rfl
    rw [e]
    have H := hide h
    clear h e
    go_enter Try.func26, Try.ntmps26
    go_wp2_with (go_at_call 74; refine (spec_FrameOk _ _ _ _ _).mono ?_; rintro e w1 ⟨rfl, hb1⟩; rw [H.out])
    go_ret
    exact ⟨rfl, (by repeat (first | with_reducible exact Below.refl _ _ | with_reducible assumption | with_reducible refine Below.al ?_ _ | with_reducible refine Below.drew ?_ | with_reducible refine Below.seq ?_ (by assumption) | (with_reducible refine Below.setCell ?_ ?_ _); rotate_left; focus (first | exact Nat.le_refl _ | (simp; done) | (simp; omega))))⟩
  · have e : frameText d s t b = putWord d 6 ++ putWord s 6 ++ putWord t 2 ++ b := by rw [frameText, h]; rfl
    rw [e]
    have H := hide h
    have z0 := size_putWord_le d 6
    have z1 := size_putWord_le s 6
    have z2 := size_putWord_le t 2
    have s0 : ¬9223372036854775807 < (putWord d 6).size + (putWord s 6).size := by omega
    have s1 : ¬9223372036854775807 < (putWord d 6).size + (putWord s 6).size + (putWord t 2).size := by omega
    have s2 : ¬9223372036854775807 < (putWord d 6).size + (putWord s 6).size + (putWord t 2).size + b.size := by omega
    clear h e
    go_enter Try.func26, Try.ntmps26
    go_wp2_with (go_at_call 74; refine (spec_FrameOk _ _ _ _ _).mono ?_; rintro e w1 ⟨rfl, hb1⟩; rw [H.out])
    have hA := keepA hb1 (newA w _ _)
    have hB1 : Below w.heap.size w w1 := (by repeat (first | with_reducible exact Below.refl _ _ | with_reducible assumption | with_reducible refine Below.al ?_ _ | with_reducible refine Below.drew ?_ | with_reducible refine Below.seq ?_ (by assumption) | (with_reducible refine Below.setCell ?_ ?_ _); rotate_left; focus (first | exact Nat.le_refl _ | (simp; done) | (simp; omega))))
    clear hb1
    go_region_held3 (fun w' => ∀ o, w'.cell? ⟨w.heap.size, o, none⟩ = [Value.int .i64 d, Value.int .i64 s, Value.int .i64 t, .string b].toArray[o]?) (first | exact keepA (by assumption) (by assumption) | assumption)
      (first | (go_at_call 75; refine (spec_PutWord _ _ _).mono ?_; rintro e w' ⟨rfl, hb⟩))
    go_wp2
    go_ret
    exact ⟨rfl, (by repeat (first | with_reducible exact Below.refl _ _ | with_reducible assumption | with_reducible refine Below.al ?_ _ | with_reducible refine Below.drew ?_ | with_reducible refine Below.seq ?_ (by assumption) | (with_reducible refine Below.setCell ?_ ?_ _); rotate_left; focus (first | exact Nat.le_refl _ | (simp; done) | (simp; omega))))⟩
end Go.Proofs.Ytahffinjglmhhaa
