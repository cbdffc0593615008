/-
  The law of Parts.
-/
import Derived.Test.YtcapkadknabfiaaMarks
import Derived.Deep.AppendLies
namespace Go.Proofs.Ytcapkadknabfiaa
open Go.RowKit
set_option linter.unusedVariables false

theorem parts_len (s : ByteArray) (b : Int) : 0 < (parts s b).length ∧ (parts s b).length ≤ s.size + 1 := by
  have := (pt_le s b s.size).2
  rw [parts, List.length_append]
  simp
  omega
theorem fnExactParts_walk (a0 : ByteArray) (a1 : Int) (w0 : a0.size ≤ maxLen) (w1 : (Lit.int .u8 a1).wf = true) (w : World) :
    Calls Try.prog 6 #[.string a0, .int .u8 a1] w fun e w' => e = .returned (.bool true) ∧ Below w.heap.size w w' := by
  have h0 : 0 ≤ a1 ∧ a1 ≤ 255 := by
    simp [Lit.wf, IntKind.min, IntKind.max, IntKind.signed, IntKind.bits] at w1
    omega
  obtain ⟨h0, h1⟩ := h0
  clear w0 w1
  by_cases h : 1048576 < a0.size
  · go_enter Try.func6, Try.ntmps6
    go_wp2
    go_ret
    exact ⟨rfl, Below.refl _ _⟩
  · have hs : a0.size ≤ 1048576 := by omega
    obtain ⟨n0, n1⟩ := parts_len a0 a1
    go_enter Try.func6, Try.ntmps6
    go_wp2_with fail
    refine (spec_Parts _ _ _ hs h0 h1).mono ?_
    rintro e w1 ⟨⟨v1, rfl, r1⟩, hb1⟩
    obtain ⟨g1, c1, rfl, p1, p2⟩ := World.ownsRow.form r1 n0
    go_wp2_with fail
    refine (impl_Parts _ _ _ hs h0 h1).mono ?_
    rintro e w2 ⟨⟨v2, rfl, r2⟩, hb2⟩
    obtain ⟨g2, c2, rfl, q1, q2⟩ := World.ownsRow.form r2 n0
    have r1' := row_below r1 hb2 p2
    go_wp2_with fail
    refine (eqStringS_same (parts a0 a1) _ _ _ _ _ _ _ _ rfl (by omega) r2 r1').mono ?_
    rintro e w3 ⟨rfl, hb3⟩
    have r3 := row_below r2 hb3 q2
    go_wp2_with fail
    refine (markStringS_row _ _ _ _ _ _ (by omega) (by have := hb3.size; have := hb2.size; omega) q1 r3).mono ?_
    rintro e w4 ⟨rfl, r4, hb4⟩
    have s12 := hb2.size
    have s23 := hb3.size
    have s34 := hb4.size
    have s01 := hb1.size
    go_wp2_with fail
    refine (heldStringS_row _ _ _ _ _ (by omega) (by omega) q1 r4).mono ?_
    rintro e w5 ⟨rfl, r5, hb5⟩
    have s45 := hb5.size
    have t5 := row_below (row_below (row_below r1' hb3 (by omega)) hb4 p2) hb5 (by omega)
    go_wp2_with fail
    refine (impl_Parts _ _ _ hs h0 h1).mono ?_
    rintro e w6 ⟨⟨v6, rfl, r6⟩, hb6⟩
    obtain ⟨g6, c6, rfl, y1, y2⟩ := World.ownsRow.form r6 n0
    have s56 := hb6.size
    go_wp2_with fail
    refine (eqStringS_same (parts a0 a1) _ _ _ _ _ _ _ _ rfl (by omega) r6 (row_below t5 hb6 (by omega))).mono ?_
    rintro e w7 ⟨rfl, hb7⟩
    have s67 := hb7.size
    have r7 := hide (show ∃ ys, Mk (parts a0 a1).length ys ∧ w7.ownsRow w1.heap.size 9 1 (.slice (some ⟨g2, 0, none⟩) (parts a0 a1).length c2) (parts a0 a1).length ys from by
      obtain ⟨ys, m, r⟩ := r5.out
      exact ⟨ys, m, row_below (row_below r hb6 (by omega)) hb7 (by omega)⟩)
    have B := hide (show Below w.heap.size w w7 from Below.seq (Below.seq (Below.seq ((Below.seq (Below.seq hb1 hb2) hb3).trans (hb4.mono s01)) hb5) hb6) hb7)
    go_wp2_with fail
    refine (heldStringS_row _ _ _ _ _ (by omega) (by omega) q1 r7).mono ?_
    rintro e w8 ⟨rfl, _, hb8⟩
    have B8 := Below.seq B.out hb8
    clear r1 r2 r1' r3 r4 r5 t5 r6 r7
    go_wp2
    go_ret
    exact ⟨rfl, B8⟩
end Go.Proofs.Ytcapkadknabfiaa
