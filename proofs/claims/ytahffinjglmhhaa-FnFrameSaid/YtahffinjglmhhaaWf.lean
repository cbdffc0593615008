/-
  The walk of the law on frames.
-/
import Derived.Test.YtahffinjglmhhaaDc
import Derived.Test.YtahffinjglmhhaaRtF
import Derived.Laws.StructEq
namespace Go.Proofs.Ytahffinjglmhhaa
open Go.RowKit
set_option linter.unusedVariables false
set_option linter.unusedSimpArgs false

theorem eql_frame (w : World) (d s t : Int) (b : ByteArray) : (binOp .eql 43 (.agg #[.int .i64 d, .int .i64 s, .int .i64 t, .string b]) (.agg #[.int .i64 d, .int .i64 s, .int .i64 t, .string b])).run Try.prog w = .ok (.bool true) w := by
  simp [go_sem]
theorem rd_frame {d s t : Int} {b : ByteArray} (h : frameOk d s t b = true) : rfB (frameText d s t b) = true ∧ rfI (frameText d s t b) (getV (frameText d s t b) 0 6) = d ∧ rfI (frameText d s t b) (getV (frameText d s t b) 6 6) = s ∧ rfI (frameText d s t b) (getV (frameText d s t b) 12 2) = t ∧ rfS (frameText d s t b) = b := by
  have hy := rt_frame_yes h
  obtain ⟨e1, e2, e3, e4, e5⟩ := rt_frame h
  simp only [rfI, rfS, hy, if_true]
  exact ⟨trivial, e2, e3, e4, e5⟩
theorem rd_no (X : ByteArray) (h : rfB X = false) (x : Int) : rfI X x = 0 := by rw [rfI, h]; rfl
set_option maxRecDepth 100000 in
set_option maxHeartbeats 2000000 in
theorem fnFrame_walk (v : Value) (n : Nat) (w : World) (hb : Bytes w v n) :
    Calls Try.prog 5 #[v] w fun e w' => e = .returned (.bool true) ∧ Below w.heap.size w w' := by
  have HB := hide hb
  clear hb
  by_cases hbig : 1048576 < n
  · have e0 : decide (1048576 < n) = true := by simpa using hbig
    have E0 := hide e0
    clear e0
    go_enter Try.func5, Try.ntmps5
    go_wp2_with fail
    refine (big_any v n _ HB.out).mono ?_
    rintro e w1 ⟨rfl, rfl⟩
    rw [E0.out]
    go_wp2_with fail
    go_ret
    exact ⟨rfl, Below.refl _ _⟩
  have e0 : decide (1048576 < n) = false := by simpa using hbig
  have E0 := hide e0
  have hn : n ≤ 1048576 := by omega
  clear e0
  go_enter Try.func5, Try.ntmps5
  go_wp2_with fail
  refine (big_any v n _ HB.out).mono ?_
  rintro e w1 ⟨rfl, rfl⟩
  rw [E0.out]
  go_wp2_with fail
  refine (drawFrameText_any v n _ hn HB.out).mono ?_
  rintro e w1 ⟨⟨d, s, t, b, rfl, hz⟩, hb1⟩
  have B1 := hb1
  clear hb1
  obtain ⟨X, HX⟩ : ∃ X, Hid (X = frameText d s t b) := ⟨_, hide rfl⟩
  have hX : X.size ≤ 140737488355328 := by have := size_frameText_le d s t b; rw [HX.out]; omega
  have hz2 : b.size ≤ 140737488355328 := by omega
  go_wp2_with fail
  refine (impl_FrameText _ _ _ _ _ hz2).mono ?_
  rintro e w2 ⟨rfl, hb2⟩
  have bF_2 := (Blk.new w1 [.int .i64 d, .int .i64 s, .int .i64 t, .string b] 43).below hb2
  have cbF_2 := bF_2.cells
  have B2 := Below.seq (Below.al B1 _) hb2
  clear hb2 B1
  rw [← HX.out]
  go_wp2_with fail
  refine (spec_FrameText _ _ _ _ _ hz2).mono ?_
  rintro e w3 ⟨rfl, hb3⟩
  have bF_3 := bF_2.below hb3
  have cbF_3 := bF_3.cells
  have B3 := Below.seq B2 hb3
  clear hb3 B2 bF_2 cbF_2
  rw [← HX.out]
  go_wp2_with fail
  refine (impl_ReadFrame _ _ hX).mono ?_
  rintro e w4 ⟨rfl, hb4⟩
  have bF_4 := bF_3.below hb4
  have cbF_4 := bF_4.cells
  have B4 := Below.seq B3 hb4
  clear hb4 B3 bF_3 cbF_3
  cases hk : frameOk d s t b
  · have r := rt_frame_no hk
    rw [← HX.out] at r
    rw [r, rd_no X r, rd_no X r, rd_no X r]
    obtain ⟨bS, HS⟩ : ∃ bS, Hid (bS = rfS X) := ⟨_, hide rfl⟩
    rw [← HS.out]
    have HK := hide hk
    clear hk r
    have ca_bF_4 := (bF_4.alloc (.cells #[.int .i64 0, .int .i64 0, .int .i64 0, .string bS] 43)).cells
    go_wp2_with fail
    refine (drawReadFrame_any v n _ hn (HB.out.below (Below.al B4 _))).mono ?_
    rintro e w5 ⟨⟨Y, rfl, hY⟩, hb5⟩
    have bF_5 := (bF_4.alloc _).below hb5
    have bG_5 := (Blk.new w4 [.int .i64 0, .int .i64 0, .int .i64 0, .string bS] 43).below hb5
    have cbF_5 := bF_5.cells
    have cbG_5 := bG_5.cells
    have B5 := Below.seq (Below.al B4 _) hb5
    clear ca_bF_4 hb5 B4 bF_4 cbF_4
    have hY2 : Y.size ≤ 140737488355328 := by omega
    go_wp2_with fail
    refine (impl_ReadFrame _ _ hY2).mono ?_
    rintro e w6 ⟨rfl, hb6⟩
    have bF_6 := bF_5.below hb6
    have bG_6 := bG_5.below hb6
    have cbF_6 := bF_6.cells
    have cbG_6 := bG_6.cells
    have B6 := Below.seq B5 hb6
    clear hb6 B5 bF_5 bG_5 cbF_5 cbG_5
    obtain ⟨d2, H1⟩ : ∃ x, Hid (x = rfI Y (getV Y 0 6)) := ⟨_, hide rfl⟩
    obtain ⟨s2, H2⟩ : ∃ x, Hid (x = rfI Y (getV Y 6 6)) := ⟨_, hide rfl⟩
    obtain ⟨t2, H3⟩ : ∃ x, Hid (x = rfI Y (getV Y 12 2)) := ⟨_, hide rfl⟩
    obtain ⟨b2, H4⟩ : ∃ x, Hid (x = rfS Y) := ⟨_, hide rfl⟩
    rw [← H1.out, ← H2.out, ← H3.out, ← H4.out]
    have ca_bF_6 := (bF_6.alloc (.cells #[.int .i64 d2, .int .i64 s2, .int .i64 t2, .string b2] 43)).cells
    have ca_bG_6 := (bG_6.alloc (.cells #[.int .i64 d2, .int .i64 s2, .int .i64 t2, .string b2] 43)).cells
    go_wp2_with fail
    refine (spec_ReadFrame _ _ hY2).mono ?_
    rintro e w7 ⟨rfl, hb7⟩
    have bF_7 := (bF_6.alloc _).below hb7
    have bG_7 := (bG_6.alloc _).below hb7
    have bH_7 := (Blk.new w6 [.int .i64 d2, .int .i64 s2, .int .i64 t2, .string b2] 43).below hb7
    have cbF_7 := bF_7.cells
    have cbG_7 := bG_7.cells
    have cbH_7 := bH_7.cells
    have B7 := Below.seq (Below.al B6 _) hb7
    clear ca_bF_6 ca_bG_6 hb7 B6 bF_6 bG_6 cbF_6 cbG_6
    rw [← H1.out, ← H2.out, ← H3.out, ← H4.out]
    cases hr : rfB Y
    · have ca_bF_7 := (bF_7.alloc (.cells #[.int .i64 d2, .int .i64 s2, .int .i64 t2, .string b2] 43)).cells
      have ca_bG_7 := (bG_7.alloc (.cells #[.int .i64 d2, .int .i64 s2, .int .i64 t2, .string b2] 43)).cells
      have ca_bH_7 := (bH_7.alloc (.cells #[.int .i64 d2, .int .i64 s2, .int .i64 t2, .string b2] 43)).cells
      clear hr
      go_wp2_with fail
      refine (impl_FrameOk _ _ _ _ _).mono ?_
      rintro e w8 ⟨rfl, hb8⟩
      have bF_8 := (bF_7.alloc _).below hb8
      have bG_8 := (bG_7.alloc _).below hb8
      have bH_8 := (bH_7.alloc _).below hb8
      have bI_8 := (Blk.new w7 [.int .i64 d2, .int .i64 s2, .int .i64 t2, .string b2] 43).below hb8
      have cbF_8 := bF_8.cells
      have cbG_8 := bG_8.cells
      have cbH_8 := bH_8.cells
      have cbI_8 := bI_8.cells
      have B8 := Below.seq (Below.al B7 _) hb8
      clear ca_bF_7 ca_bG_7 ca_bH_7 hb8 B7 bF_7 bG_7 bH_7 cbF_7 cbG_7 cbH_7
      rw [HK.out]
      go_wp2_with fail
      go_ret
      exact ⟨rfl, (by repeat (first | with_reducible exact Below.refl _ _ | with_reducible assumption | with_reducible refine Below.al ?_ _ | with_reducible refine Below.drew ?_ | with_reducible refine Below.seq ?_ (by assumption) | (with_reducible refine Below.setCell ?_ ?_ _); rotate_left; focus (first | exact Nat.le_refl _ | (simp; done) | (simp; omega))))⟩
    · have ca_bF_7 := (bF_7.alloc (.cells #[.int .i64 d2, .int .i64 s2, .int .i64 t2, .string b2] 43)).cells
      have ca_bG_7 := (bG_7.alloc (.cells #[.int .i64 d2, .int .i64 s2, .int .i64 t2, .string b2] 43)).cells
      have ca_bH_7 := (bH_7.alloc (.cells #[.int .i64 d2, .int .i64 s2, .int .i64 t2, .string b2] 43)).cells
      have hT := hide (show frameText d2 s2 t2 b2 = Y by rw [H1.out, H2.out, H3.out, H4.out]; exact frameText_back Y hr)
      have hb3 : b2.size ≤ 140737488355328 := by
        have : b2 = Y.extract 14 Y.size := by rw [H4.out, rfS, hr]; rfl
        rw [this, ByteArray.size_extract]; omega
      clear hr
      go_wp2_with fail
      refine (impl_FrameOk _ _ _ _ _).mono ?_
      rintro e w8 ⟨rfl, hb8⟩
      have bF_8 := (bF_7.alloc _).below hb8
      have bG_8 := (bG_7.alloc _).below hb8
      have bH_8 := (bH_7.alloc _).below hb8
      have bI_8 := (Blk.new w7 [.int .i64 d2, .int .i64 s2, .int .i64 t2, .string b2] 43).below hb8
      have cbF_8 := bF_8.cells
      have cbG_8 := bG_8.cells
      have cbH_8 := bH_8.cells
      have cbI_8 := bI_8.cells
      have B8 := Below.seq (Below.al B7 _) hb8
      clear ca_bF_7 ca_bG_7 ca_bH_7 hb8 B7 bF_7 bG_7 bH_7 cbF_7 cbG_7 cbH_7
      rw [HK.out]
      go_wp2_with fail
      refine (impl_FrameText _ _ _ _ _ hb3).mono ?_
      rintro e w9 ⟨rfl, hb9⟩
      have bF_9 := bF_8.below hb9
      have bG_9 := bG_8.below hb9
      have bH_9 := bH_8.below hb9
      have bI_9 := bI_8.below hb9
      have cbF_9 := bF_9.cells
      have cbG_9 := bG_9.cells
      have cbH_9 := bH_9.cells
      have cbI_9 := bI_9.cells
      have B9 := Below.seq B8 hb9
      clear hb9 B8 bF_8 bG_8 bH_8 bI_8 cbF_8 cbG_8 cbH_8 cbI_8
      rw [hT.out]
      go_wp2_with fail
      go_ret
      exact ⟨rfl, (by repeat (first | with_reducible exact Below.refl _ _ | with_reducible assumption | with_reducible refine Below.al ?_ _ | with_reducible refine Below.drew ?_ | with_reducible refine Below.seq ?_ (by assumption) | (with_reducible refine Below.setCell ?_ ?_ _); rotate_left; focus (first | exact Nat.le_refl _ | (simp; done) | (simp; omega))))⟩
  · have r := rd_frame hk
    rw [← HX.out] at r
    obtain ⟨r1, r2, r3, r4, r5⟩ := r
    rw [r1, r2, r3, r4, r5]
    have HK := hide hk
    clear hk r1 r2 r3 r4 r5
    have ca_bF_4 := (bF_4.alloc (.cells #[.int .i64 d, .int .i64 s, .int .i64 t, .string b] 43)).cells
    go_wp2_with fail
    refine (drawReadFrame_any v n _ hn (HB.out.below (Below.al B4 _))).mono ?_
    rintro e w5 ⟨⟨Y, rfl, hY⟩, hb5⟩
    have bF_5 := (bF_4.alloc _).below hb5
    have bG_5 := (Blk.new w4 [.int .i64 d, .int .i64 s, .int .i64 t, .string b] 43).below hb5
    have cbF_5 := bF_5.cells
    have cbG_5 := bG_5.cells
    have B5 := Below.seq (Below.al B4 _) hb5
    clear ca_bF_4 hb5 B4 bF_4 cbF_4
    have hY2 : Y.size ≤ 140737488355328 := by omega
    go_wp2_with fail
    refine (impl_ReadFrame _ _ hY2).mono ?_
    rintro e w6 ⟨rfl, hb6⟩
    have bF_6 := bF_5.below hb6
    have bG_6 := bG_5.below hb6
    have cbF_6 := bF_6.cells
    have cbG_6 := bG_6.cells
    have B6 := Below.seq B5 hb6
    clear hb6 B5 bF_5 bG_5 cbF_5 cbG_5
    obtain ⟨d2, H1⟩ : ∃ x, Hid (x = rfI Y (getV Y 0 6)) := ⟨_, hide rfl⟩
    obtain ⟨s2, H2⟩ : ∃ x, Hid (x = rfI Y (getV Y 6 6)) := ⟨_, hide rfl⟩
    obtain ⟨t2, H3⟩ : ∃ x, Hid (x = rfI Y (getV Y 12 2)) := ⟨_, hide rfl⟩
    obtain ⟨b2, H4⟩ : ∃ x, Hid (x = rfS Y) := ⟨_, hide rfl⟩
    rw [← H1.out, ← H2.out, ← H3.out, ← H4.out]
    have ca_bF_6 := (bF_6.alloc (.cells #[.int .i64 d2, .int .i64 s2, .int .i64 t2, .string b2] 43)).cells
    have ca_bG_6 := (bG_6.alloc (.cells #[.int .i64 d2, .int .i64 s2, .int .i64 t2, .string b2] 43)).cells
    go_wp2_with fail
    refine (spec_ReadFrame _ _ hY2).mono ?_
    rintro e w7 ⟨rfl, hb7⟩
    have bF_7 := (bF_6.alloc _).below hb7
    have bG_7 := (bG_6.alloc _).below hb7
    have bH_7 := (Blk.new w6 [.int .i64 d2, .int .i64 s2, .int .i64 t2, .string b2] 43).below hb7
    have cbF_7 := bF_7.cells
    have cbG_7 := bG_7.cells
    have cbH_7 := bH_7.cells
    have B7 := Below.seq (Below.al B6 _) hb7
    clear ca_bF_6 ca_bG_6 hb7 B6 bF_6 bG_6 cbF_6 cbG_6
    rw [← H1.out, ← H2.out, ← H3.out, ← H4.out]
    cases hr : rfB Y
    · have ca_bF_7 := (bF_7.alloc (.cells #[.int .i64 d2, .int .i64 s2, .int .i64 t2, .string b2] 43)).cells
      have ca_bG_7 := (bG_7.alloc (.cells #[.int .i64 d2, .int .i64 s2, .int .i64 t2, .string b2] 43)).cells
      have ca_bH_7 := (bH_7.alloc (.cells #[.int .i64 d2, .int .i64 s2, .int .i64 t2, .string b2] 43)).cells
      clear hr
      go_wp2_with fail
      refine (impl_FrameOk _ _ _ _ _).mono ?_
      rintro e w8 ⟨rfl, hb8⟩
      have bF_8 := (bF_7.alloc _).below hb8
      have bG_8 := (bG_7.alloc _).below hb8
      have bH_8 := (bH_7.alloc _).below hb8
      have bI_8 := (Blk.new w7 [.int .i64 d2, .int .i64 s2, .int .i64 t2, .string b2] 43).below hb8
      have cbF_8 := bF_8.cells
      have cbG_8 := bG_8.cells
      have cbH_8 := bH_8.cells
      have cbI_8 := bI_8.cells
      have B8 := Below.seq (Below.al B7 _) hb8
      clear ca_bF_7 ca_bG_7 ca_bH_7 hb8 B7 bF_7 bG_7 bH_7 cbF_7 cbG_7 cbH_7
      rw [HK.out]
      have hE := fun W => eql_frame W d s t b
      go_wp2_with fail
      go_ret
      exact ⟨rfl, (by repeat (first | with_reducible exact Below.refl _ _ | with_reducible assumption | with_reducible refine Below.al ?_ _ | with_reducible refine Below.drew ?_ | with_reducible refine Below.seq ?_ (by assumption) | (with_reducible refine Below.setCell ?_ ?_ _); rotate_left; focus (first | exact Nat.le_refl _ | (simp; done) | (simp; omega))))⟩
    · have ca_bF_7 := (bF_7.alloc (.cells #[.int .i64 d2, .int .i64 s2, .int .i64 t2, .string b2] 43)).cells
      have ca_bG_7 := (bG_7.alloc (.cells #[.int .i64 d2, .int .i64 s2, .int .i64 t2, .string b2] 43)).cells
      have ca_bH_7 := (bH_7.alloc (.cells #[.int .i64 d2, .int .i64 s2, .int .i64 t2, .string b2] 43)).cells
      have hT := hide (show frameText d2 s2 t2 b2 = Y by rw [H1.out, H2.out, H3.out, H4.out]; exact frameText_back Y hr)
      have hb3 : b2.size ≤ 140737488355328 := by
        have : b2 = Y.extract 14 Y.size := by rw [H4.out, rfS, hr]; rfl
        rw [this, ByteArray.size_extract]; omega
      clear hr
      go_wp2_with fail
      refine (impl_FrameOk _ _ _ _ _).mono ?_
      rintro e w8 ⟨rfl, hb8⟩
      have bF_8 := (bF_7.alloc _).below hb8
      have bG_8 := (bG_7.alloc _).below hb8
      have bH_8 := (bH_7.alloc _).below hb8
      have bI_8 := (Blk.new w7 [.int .i64 d2, .int .i64 s2, .int .i64 t2, .string b2] 43).below hb8
      have cbF_8 := bF_8.cells
      have cbG_8 := bG_8.cells
      have cbH_8 := bH_8.cells
      have cbI_8 := bI_8.cells
      have B8 := Below.seq (Below.al B7 _) hb8
      clear ca_bF_7 ca_bG_7 ca_bH_7 hb8 B7 bF_7 bG_7 bH_7 cbF_7 cbG_7 cbH_7
      rw [HK.out]
      have hE := fun W => eql_frame W d s t b
      go_wp2_with fail
      refine (impl_FrameText _ _ _ _ _ hb3).mono ?_
      rintro e w9 ⟨rfl, hb9⟩
      have bF_9 := bF_8.below hb9
      have bG_9 := bG_8.below hb9
      have bH_9 := bH_8.below hb9
      have bI_9 := bI_8.below hb9
      have cbF_9 := bF_9.cells
      have cbG_9 := bG_9.cells
      have cbH_9 := bH_9.cells
      have cbI_9 := bI_9.cells
      have B9 := Below.seq B8 hb9
      clear hb9 B8 bF_8 bG_8 bH_8 bI_8 cbF_8 cbG_8 cbH_8 cbI_8
      rw [hT.out]
      go_wp2_with fail
      go_ret
      exact ⟨rfl, (by repeat (first | with_reducible exact Below.refl _ _ | with_reducible assumption | with_reducible refine Below.al ?_ _ | with_reducible refine Below.drew ?_ | with_reducible refine Below.seq ?_ (by assumption) | (with_reducible refine Below.setCell ?_ ?_ _); rotate_left; focus (first | exact Nat.le_refl _ | (simp; done) | (simp; omega))))⟩
end Go.Proofs.Ytahffinjglmhhaa
