/-
  What the laws on segments draw.
-/
import Derived.Test.YtmbiajpbadfegaaDd
namespace Go.Proofs.Ytmbiajpbadfegaa
open Go.RowKit
set_option linter.unusedVariables false
def SgTP (e : Ending) : Prop := ∃ (f t q a l n9 m s : Int) (c st : Bool) (x y : Int) (b : ByteArray) (src dst : Int), e = .returned (.tuple #[.agg #[.int .i64 f, .int .i64 t, .int .i64 q, .int .i64 a, .int .i64 l, .int .i64 n9, .int .i64 m, .int .i64 s, .bool c, .bool st, .int .i64 x, .int .i64 y, .string b], .int .i64 src, .int .i64 dst]) ∧ b.size ≤ 2000
set_option maxRecDepth 100000 in
set_option maxHeartbeats 8000000 in
theorem drawSegmentText_any (v : Value) (n : Nat) (w : World) (hn : n ≤ 1048576) (hb : Bytes w v n) :
    Calls Try.prog 6 #[v] w fun e w' => SgTP e ∧ Below w.heap.size w w' := by
  have HB := hide hb
  clear hb
  go_enter Try.func6, Try.ntmps6
  go_wp2_with fail
  refine (l1New_any v n _ hn (HB.out.below (below_alloc' w _))).mono ?_
  rintro e w1 ⟨⟨g, rfl, hg, hc⟩, hb1⟩
  go_wp2_with fail
  refine (l9Bent_any g _ hc).mono ?_
  rintro e w2 ⟨⟨f, t, q, a, l, n9, m, s, c, st, x, y, b, rfl, hz⟩, hst⟩
  have hgn := (hG1 hg).2
  have hlt := hst.2.lt
  have bA := (((Blk.new w [.int .i64 0, .int .i64 0, .int .i64 0, .int .i64 0, .int .i64 0, .int .i64 0, .int .i64 0, .int .i64 0, .bool false, .bool false, .int .i64 0, .int .i64 0, .string ⟨#[]⟩] 27).below hb1).st hst hgn).alloc (.cells #[.int .i64 f, .int .i64 t, .int .i64 q, .int .i64 a, .int .i64 l, .int .i64 n9, .int .i64 m, .int .i64 s, .bool c, .bool st, .int .i64 x, .int .i64 y, .string b] 27)
  have bF := Blk.new w2 [.int .i64 f, .int .i64 t, .int .i64 q, .int .i64 a, .int .i64 l, .int .i64 n9, .int .i64 m, .int .i64 s, .bool c, .bool st, .int .i64 x, .int .i64 y, .string b] 27
  have hst2 := hst.alloc (.cells #[.int .i64 f, .int .i64 t, .int .i64 q, .int .i64 a, .int .i64 l, .int .i64 n9, .int .i64 m, .int .i64 s, .bool c, .bool st, .int .i64 x, .int .i64 y, .string b] 27)
  go_wp2_with fail
  refine (l1Once_any g _ _ 10 (by omega) (St.refl hst2.2)).mono ?_
  rintro e w3 ⟨⟨p, rfl⟩, h3⟩
  have bA3 := bA.st h3 hgn
  have bF3 := bF.st h3 (by omega)
  have hst3 := hst2.trans h3
  have hs3 : w2.heap.size ≠ g := by omega
  clear bA bF hst2 h3 hst
  cases p
  all_goals
    have hgF : w2.heap.size ≠ g := hs3
    have T3 : Two g w1 w2.heap.size w.heap.size [.int .i64 f, .int .i64 t, .int .i64 q, .int .i64 a, .int .i64 l, .int .i64 n9, .int .i64 m, .int .i64 s, .bool c, .bool st, .int .i64 x, .int .i64 y, .string b] [.int .i64 0, .int .i64 0, .int .i64 0, .int .i64 0, .int .i64 0, .int .i64 0, .int .i64 0, .int .i64 0, .bool false, .bool false, .int .i64 0, .int .i64 0, .string ⟨#[]⟩] w3 := ⟨bF3.cells, bA3.frz, bA3.cells, hst3⟩
    have T3' := T3
    obtain ⟨cF, fA, cA, _⟩ := T3'
    clear bA3 bF3
    have hB0 := hB1 _ hb1
    have hG0 := (hG1 hg).1
    clear hb1 hg hc
    go_wp2_with fail
    go_region_with (first | (go_at_call 18; refine (Two.call hgF hgn (fun W hW => l2Word_any g W W (St.refl hW)) (by first | exact T3 | exact T3.drew)).mono ?_; rintro e w4 ⟨⟨src, rfl, hx⟩, h4⟩; clear hx; have h4' := h4; obtain ⟨cF4, fA4, cA4, s4⟩ := h4'; have hB4 := s4.out hB0 hG0; clear s4) | (go_at_call 19; refine (Two.call hgF hgn (fun W hW => l6Ip_any g W W (St.refl hW)) (by first | exact h4 | exact h4.drew)).mono ?_; rintro e w5 ⟨⟨dst, rfl, hy⟩, h5⟩; clear hy; have h5' := h5; obtain ⟨cF5, fA5, cA5, s5⟩ := h5'; have hB4 := s5.out hB0 hG0; clear s5) | (go_at_call 19; refine (Two.call hgF hgn (fun W hW => l6Ip_any g W W (St.refl hW)) (by first | exact T3 | exact T3.drew)).mono ?_; rintro e w4 ⟨⟨src, rfl, hx⟩, h4⟩; clear hx; have h4' := h4; obtain ⟨cF4, fA4, cA4, s4⟩ := h4'; have hB4 := s4.out hB0 hG0; clear s4))
    all_goals
      go_wp2
      simp [bodyPost, results, Try.results6, go_sem, cA5]
      all_goals exact ⟨⟨_, _, _, _, _, _, _, _, _, _, _, _, _, _, _, rfl, hz⟩, (by repeat (first | with_reducible exact Below.refl _ _ | with_reducible assumption | with_reducible refine Below.al ?_ _ | with_reducible refine Below.drew ?_ | with_reducible refine Below.seq ?_ (by assumption) | (with_reducible refine Below.setCell ?_ ?_ _); rotate_left; focus (first | exact Nat.le_refl _ | (simp; done) | (simp; omega))))⟩
end Go.Proofs.Ytmbiajpbadfegaa
