/-
  The walk of the law on segments.
-/
import Derived.Test.YtmbiajpbadfegaaDe
import Derived.Test.YtmbiajpbadfegaaRdT
import Derived.Laws.StructEq
namespace Go.Proofs.Ytmbiajpbadfegaa
open Go.RowKit
set_option linter.unusedVariables false
set_option linter.unusedSimpArgs false

theorem eql_seg (w : World) (f t q a l n m s : Int) (k st : Bool) (x y : Int) (b : ByteArray) : (binOp .eql 27 (.agg #[.int .i64 f, .int .i64 t, .int .i64 q, .int .i64 a, .int .i64 l, .int .i64 n, .int .i64 m, .int .i64 s, .bool k, .bool st, .int .i64 x, .int .i64 y, .string b]) (.agg #[.int .i64 f, .int .i64 t, .int .i64 q, .int .i64 a, .int .i64 l, .int .i64 n, .int .i64 m, .int .i64 s, .bool k, .bool st, .int .i64 x, .int .i64 y, .string b])).run Try.prog w = .ok (.bool true) w := by
  simp [go_sem]
theorem seg_empty {f t q a l n m s : Int} {k st : Bool} {x y : Int} {b : ByteArray} {src dst : Int} (h : segOk f t q a l n m s st x y b = true) (hh : headOk src dst (20 + ((optText m s k st x y).size : Int) + (b.size : Int)) = false) : wordOk src 32 = false ∨ wordOk dst 32 = false := by
  have hb := segOk_b h
  have ho := size_optText m s k st x y
  have hl : wordOk (20 + ((optText m s k st x y).size : Int) + (b.size : Int)) 16 = true := wordOk_small (by decide) (by omega) (show _ ≤ (2 : Int) ^ 16 - 1 by omega)
  rw [headOk, hl, Bool.and_true] at hh
  cases h1 : wordOk src 32
  · exact .inl rfl
  · rw [h1, Bool.true_and] at hh; exact .inr hh
set_option maxRecDepth 100000 in
set_option maxHeartbeats 2000000 in
theorem fnSegment_walk (v : Value) (n : Nat) (w : World) (hb : Bytes w v n) :
    Calls Try.prog 3 #[v] w fun e w' => e = .returned (.bool true) ∧ Below w.heap.size w w' := by
  have HB := hide hb
  clear hb
  by_cases hbig : 1048576 < n
  · have e0 : decide (1048576 < n) = true := by simpa using hbig
    have E0 := hide e0
    clear e0
    go_enter Try.func3, Try.ntmps3
    go_wp2_with fail
    refine (big_any v n _ HB.out).mono ?_
    rintro e w1 ⟨rfl, rfl⟩
    rw [E0.out]
    go_wp2_with fail
    go_ret
    exact ⟨rfl, Below.refl _ _⟩
  have e0 : decide (1048576 < n) = false := by simpa using hbig
  have E0 := hide e0
  have hn : n ≤ 1048576 := by omega
  clear e0
  go_enter Try.func3, Try.ntmps3
  go_wp2_with fail
  refine (big_any v n _ HB.out).mono ?_
  rintro e w1 ⟨rfl, rfl⟩
  rw [E0.out]
  go_wp2_with fail
  refine (drawSegmentText_any v n _ hn HB.out).mono ?_
  rintro e w1 ⟨⟨f, t, q, a, l, n9, m, s, c, st, x, y, b, src, dst, rfl, hz⟩, hb1⟩
  have B1 := hb1
  clear hb1
  obtain ⟨X, HX⟩ : ∃ X, Hid (X = segText f t q a l n9 m s c st x y b src dst) := ⟨_, hide rfl⟩
  go_wp2_with fail
  refine (impl_SegmentText _ _ _ _ _ _ _ _ _ _ _ _ _ _ _ _).mono ?_
  rintro e w2 ⟨rfl, hb2⟩
  have bS_2 := (Blk.new w1 [.int .i64 f, .int .i64 t, .int .i64 q, .int .i64 a, .int .i64 l, .int .i64 n9, .int .i64 m, .int .i64 s, .bool c, .bool st, .int .i64 x, .int .i64 y, .string b] 27).below hb2
  have cbS_2 := bS_2.cells
  have B2 := Below.seq (Below.al B1 _) hb2
  clear hb2 B1
  rw [← HX.out]
  go_wp2_with fail
  refine (spec_SegmentText _ _ _ _ _ _ _ _ _ _ _ _ _ _ _ _).mono ?_
  rintro e w3 ⟨rfl, hb3⟩
  have bS_3 := bS_2.below hb3
  have cbS_3 := bS_3.cells
  have B3 := Below.seq B2 hb3
  clear hb3 B2 bS_2 cbS_2
  rw [← HX.out]
  cases hk : segOk f t q a l n9 m s st x y b
  · have hX0 : X = ⟨#[]⟩ := by rw [HX.out, segText, hk]; rfl
    rw [hX0]
    have HK := hide hk
    clear hk hX0
    go_wp2_with fail
    refine (spec_SegmentOk _ _ _ _ _ _ _ _ _ _ _ _ _ _).mono ?_
    rintro e w4 ⟨rfl, hb4⟩
    have bS_4 := bS_3.below hb4
    have cbS_4 := bS_4.cells
    have B4 := Below.seq B3 hb4
    clear hb4 B3 bS_3 cbS_3
    rw [HK.out]
    go_wp2_with fail
    go_ret
    exact ⟨rfl, (by repeat (first | with_reducible exact Below.refl _ _ | with_reducible assumption | with_reducible refine Below.al ?_ _ | with_reducible refine Below.drew ?_ | with_reducible refine Below.seq ?_ (by assumption) | (with_reducible refine Below.setCell ?_ ?_ _); rotate_left; focus (first | exact Nat.le_refl _ | (simp; done) | (simp; omega))))⟩
  · cases hh : headOk src dst (20 + ((optText m s c st x y).size : Int) + (b.size : Int))
    · have hX0 : X = ⟨#[]⟩ := by rw [HX.out, segText, hk, hh]; rfl
      rw [hX0]
      have hor := seg_empty hk hh
      have HK := hide hk
      clear hk hX0 hh
      go_wp2_with fail
      refine (spec_SegmentOk _ _ _ _ _ _ _ _ _ _ _ _ _ _).mono ?_
      rintro e w4 ⟨rfl, hb4⟩
      have bS_4 := bS_3.below hb4
      have cbS_4 := bS_4.cells
      have B4 := Below.seq B3 hb4
      clear hb4 B3 bS_3 cbS_3
      rw [HK.out]
      cases hs1 : wordOk src 32
      · have H1 := hide hs1
        clear hs1 hor
        go_wp2_with fail
        refine (spec_WordOk _ _ _).mono ?_
        rintro e wq ⟨rfl, rfl⟩
        rw [H1.out]
        go_wp2_with fail
        go_ret
        exact ⟨rfl, (by repeat (first | with_reducible exact Below.refl _ _ | with_reducible assumption | with_reducible refine Below.al ?_ _ | with_reducible refine Below.drew ?_ | with_reducible refine Below.seq ?_ (by assumption) | (with_reducible refine Below.setCell ?_ ?_ _); rotate_left; focus (first | exact Nat.le_refl _ | (simp; done) | (simp; omega))))⟩
      · have H2 : Hid (wordOk dst 32 = false) := hide (by rcases hor with h | h
                                                          · rw [hs1] at h; cases h
                                                          · exact h)
        have H1 := hide hs1
        clear hs1 hor
        go_wp2_with fail
        refine (spec_WordOk _ _ _).mono ?_
        rintro e wq ⟨rfl, rfl⟩
        rw [H1.out]
        go_wp2_with fail
        refine (spec_WordOk _ _ _).mono ?_
        rintro e wq ⟨rfl, rfl⟩
        rw [H2.out]
        go_wp2_with fail
        go_ret
        exact ⟨rfl, (by repeat (first | with_reducible exact Below.refl _ _ | with_reducible assumption | with_reducible refine Below.al ?_ _ | with_reducible refine Below.drew ?_ | with_reducible refine Below.seq ?_ (by assumption) | (with_reducible refine Below.setCell ?_ ?_ _); rotate_left; focus (first | exact Nat.le_refl _ | (simp; done) | (simp; omega))))⟩
    · obtain ⟨z1, _, _, _, _⟩ := rt_seg hk hh X HX.out
      have hb := segOk_b hk
      have ho := size_optText m s c st x y
      have hXl : 20 ≤ X.size := by omega
      have hXu : X.size ≤ 1000000000 := by omega
      obtain ⟨e1, e2, e3⟩ := str_ne0 X (by omega)
      have hF : rsF X = .tuple #[.agg #[.int .i64 f, .int .i64 t, .int .i64 q, .int .i64 a, .int .i64 l, .int .i64 n9, .int .i64 m, .int .i64 s, .bool c, .bool st, .int .i64 x, .int .i64 y, .string b], .bool true] := by
        obtain ⟨a1, a2, a3, a4, a5, a6, a7, a8, a9, a10, a11⟩ := rt_seg hk hh X HX.out
        obtain ⟨_, hO⟩ := rt_seg_read hk hh X HX.out
        have eN : (rsN X).toNat = 20 + (optText m s c st x y).size := by rw [a2]; omega
        rw [rsF, hO, eN, a5, a6, a7, a8, a9, a10, a11]
      have hV := hide ((rsV_yes (rt_seg_read hk hh X HX.out).1).symm.trans hF)
      obtain ⟨k1, k2, _⟩ := headOk_parts hh
      obtain ⟨d0, d1⟩ := word_bd k2
      have d1' : dst ≤ 4294967295 := by
        have : (2 : Int) ^ (32 : Int).toNat - 1 = 4294967295 := by decide
        omega
      have HK := hide hk
      have HH := hide hh
      clear hk hh z1 hF k1 k2 d1
      go_wp2_with fail
      refine (impl_ReadSegment _ _ _ _ hXu).mono ?_
      rintro e w4 ⟨rfl, hb4⟩
      have bS_4 := bS_3.below hb4
      have cbS_4 := bS_4.cells
      have B4 := Below.seq B3 hb4
      clear hb4 B3 bS_3 cbS_3
      rw [hV.out]
      have ca_bS_4 := (bS_4.alloc (.cells #[.int .i64 f, .int .i64 t, .int .i64 q, .int .i64 a, .int .i64 l, .int .i64 n9, .int .i64 m, .int .i64 s, .bool c, .bool st, .int .i64 x, .int .i64 y, .string b] 27)).cells
      go_wp2_with fail
      refine (at0_any v n 3 _ hn (by omega) (HB.out.below (Below.al B4 _))).mono ?_
      rintro e wq ⟨⟨j, rfl, j0, j1⟩, rfl⟩
      have r0 := Int.emod_nonneg j (b := 255) (by decide)
      have r1 := Int.emod_lt_of_pos j (b := 255) (by decide)
      obtain ⟨p, hp⟩ : ∃ p, j % 255 = p := ⟨_, rfl⟩
      rw [hp] at r0 r1
      obtain ⟨g0, g1, g2, g3⟩ := xor_i64 dst (1 + p) d0 d1' (by omega) (by omega)
      obtain ⟨D, hD⟩ : ∃ D, bits .xor .i64 dst (1 + p) = D := ⟨_, rfl⟩
      rw [hD] at g0 g1 g2 g3
      have hO := hide (rsV_no (rt_seg_other HK.out HH.out X HX.out g0 g1 g2 g3))
      go_wp2_with fail
      refine (impl_ReadSegment _ _ _ _ hXu).mono ?_
      rintro e w5 ⟨rfl, hb5⟩
      have bS_5 := (bS_4.alloc _).below hb5
      have bG_5 := (Blk.new w4 [.int .i64 f, .int .i64 t, .int .i64 q, .int .i64 a, .int .i64 l, .int .i64 n9, .int .i64 m, .int .i64 s, .bool c, .bool st, .int .i64 x, .int .i64 y, .string b] 27).below hb5
      have cbS_5 := bS_5.cells
      have cbG_5 := bG_5.cells
      have B5 := Below.seq (Below.al B4 _) hb5
      clear ca_bS_4 hb5 B4 bS_4 cbS_4
      rw [← hO.out, zSegV]
      have hE := fun W => eql_seg W f t q a l n9 m s c st x y b
      have ca_bS_5 := (bS_5.alloc (.cells #[.int .i64 0, .int .i64 0, .int .i64 0, .int .i64 0, .int .i64 0, .int .i64 0, .int .i64 0, .int .i64 0, .bool false, .bool false, .int .i64 0, .int .i64 0, .string ⟨#[]⟩] 27)).cells
      have ca_bG_5 := (bG_5.alloc (.cells #[.int .i64 0, .int .i64 0, .int .i64 0, .int .i64 0, .int .i64 0, .int .i64 0, .int .i64 0, .int .i64 0, .bool false, .bool false, .int .i64 0, .int .i64 0, .string ⟨#[]⟩] 27)).cells
      go_wp2_with fail
      go_ret
      exact ⟨rfl, (by repeat (first | with_reducible exact Below.refl _ _ | with_reducible assumption | with_reducible refine Below.al ?_ _ | with_reducible refine Below.drew ?_ | with_reducible refine Below.seq ?_ (by assumption) | (with_reducible refine Below.setCell ?_ ?_ _); rotate_left; focus (first | exact Nat.le_refl _ | (simp; done) | (simp; omega))))⟩
end Go.Proofs.Ytmbiajpbadfegaa
