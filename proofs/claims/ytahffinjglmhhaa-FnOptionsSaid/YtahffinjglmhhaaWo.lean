/-
  The walk of the law on options.
-/
import Derived.Test.YtahffinjglmhhaaDc
import Derived.Test.YtahffinjglmhhaaRdO
import Derived.Test.YtahffinjglmhhaaRtS
import Derived.Laws.StructEq
import Derived.Deep.RegionHeld3
namespace Go.Proofs.Ytahffinjglmhhaa
open Go.RowKit
set_option linter.unusedVariables false
set_option linter.unusedSimpArgs false

theorem optText_le20 (m s : Int) (k st : Bool) (v y : Int) : (optText m s k st v y).size ≤ 20 := by
  unfold optText
  split
  · rename_i h
    obtain ⟨hm, hs0, hs1, hv, hy, _⟩ := optOk_parts h
    have e1 : (putWord m 2).size = 2 := size_word (k := 2) (by decide) (by decide) hm
    have e3 : (putWord v 4).size = 4 := size_word (k := 4) (by decide) (by decide) hv
    have e4 : (putWord y 4).size = 4 := size_word (k := 4) (by decide) (by decide) hy
    have e2 : s ≠ -1 → (putWord s 1).size = 1 := fun hs => size_word (k := 1) (by decide) (by decide) (wordOk_small (by decide) (by omega) (show s ≤ (2 : Int) ^ 8 - 1 by omega))
    have c1 : (⟨#[2, 4]⟩ : ByteArray).size = 2 := rfl
    have c2 : (⟨#[3, 3]⟩ : ByteArray).size = 2 := rfl
    have c3 : (⟨#[4, 2]⟩ : ByteArray).size = 2 := rfl
    have c4 : (⟨#[]⟩ : ByteArray).size = 0 := rfl
    have c5 : (⟨#[8, 10]⟩ : ByteArray).size = 2 := rfl
    have hR : (optR m s k).size ≤ 9 := by
      unfold optR
      dsimp only
      by_cases hs : s = -1
      · rw [if_pos hs]
        split <;> split <;> simp only [ByteArray.size_append, c1, c3, c4] <;> omega
      · rw [if_neg hs]
        have := e2 hs
        split <;> split <;> simp only [ByteArray.size_append, c1, c2, c3, c4] <;> omega
    have hX : (optX m s k st v y).size ≤ 19 := by
      unfold optX
      split
      · simp only [ByteArray.size_append, c5]; omega
      · omega
    unfold padd
    rw [size_ones]
    omega
  · exact Nat.zero_le _
theorem tri_below {a b c : Nat} {v1 v2 v3 : Value} {l1 l2 l3 : List Value} {w W W' : World} (h : (∀ j, W.cell? ⟨a, j, none⟩ = (v1 :: l1).toArray[j]?) ∧ (∀ j, W.cell? ⟨b, j, none⟩ = (v2 :: l2).toArray[j]?) ∧ (∀ j, W.cell? ⟨c, j, none⟩ = (v3 :: l3).toArray[j]?) ∧ Below w.heap.size w W) (hb : Below W.heap.size W W') :
    (∀ j, W'.cell? ⟨a, j, none⟩ = (v1 :: l1).toArray[j]?) ∧ (∀ j, W'.cell? ⟨b, j, none⟩ = (v2 :: l2).toArray[j]?) ∧ (∀ j, W'.cell? ⟨c, j, none⟩ = (v3 :: l3).toArray[j]?) ∧ Below w.heap.size w W' :=
  ⟨keepA hb h.1, keepA hb h.2.1, keepA hb h.2.2.1, Below.seq h.2.2.2 hb⟩
theorem tri_drew {a b c : Nat} {v1 v2 v3 : Value} {l1 l2 l3 : List Value} {w W : World} (h : (∀ j, W.cell? ⟨a, j, none⟩ = (v1 :: l1).toArray[j]?) ∧ (∀ j, W.cell? ⟨b, j, none⟩ = (v2 :: l2).toArray[j]?) ∧ (∀ j, W.cell? ⟨c, j, none⟩ = (v3 :: l3).toArray[j]?) ∧ Below w.heap.size w W) :
    (∀ j, W.drew.cell? ⟨a, j, none⟩ = (v1 :: l1).toArray[j]?) ∧ (∀ j, W.drew.cell? ⟨b, j, none⟩ = (v2 :: l2).toArray[j]?) ∧ (∀ j, W.drew.cell? ⟨c, j, none⟩ = (v3 :: l3).toArray[j]?) ∧ Below w.heap.size w W.drew := ⟨h.1, h.2.1, h.2.2.1, Below.drew h.2.2.2⟩
theorem rd_opt {m s : Int} {k st : Bool} {v y : Int} (h : optOk m s st v y = true) (X : ByteArray) (hX : X = optText m s k st v y) :
    roB X = true ∧ (roO X).m = m ∧ (roO X).s = s ∧ (roO X).k = k ∧ (roO X).st = st ∧ (roO X).v = v ∧ (roO X).y = y := by
  subst hX
  rw [roB, roO, ro_text h]
  exact ⟨rfl, rfl, rfl, rfl, rfl, rfl, rfl⟩
theorem rd_opt0 (X : ByteArray) (hX : X = ⟨#[]⟩) : roB X = true ∧ (roO X).m = 0 ∧ (roO X).s = -1 ∧ (roO X).k = false ∧ (roO X).st = false ∧ (roO X).v = 0 ∧ (roO X).y = 0 := by
  subst hX
  have h : ro ⟨#[]⟩ 0 noOpt = some noOpt := ro_end _ _ _ (Nat.le_refl 0)
  rw [roB, roO, h]
  exact ⟨rfl, rfl, rfl, rfl, rfl, rfl, rfl⟩
theorem ro_okO (Y : ByteArray) : optOk (roO Y).m (roO Y).s (roO Y).st (roO Y).v (roO Y).y = true := by
  show okO (roO Y)
  rw [roO]
  cases h : ro Y 0 noOpt with
  | none => exact noOpt_ok
  | some p => exact ro_ok Y _ 0 noOpt p (Nat.le_refl _) noOpt_ok h
theorem ro_none {Y : ByteArray} (h : roB Y = false) : roO Y = noOpt := by
  rw [roB] at h
  rw [roO]
  cases hr : ro Y 0 noOpt with
  | none => rfl
  | some p => rw [hr] at h; cases h
theorem eql_opt (w : World) (m s : Int) (k st : Bool) (v y : Int) : (binOp .eql 59 (.agg #[.int .i64 m, .int .i64 s, .bool k, .bool st, .int .i64 v, .int .i64 y]) (.agg #[.int .i64 m, .int .i64 s, .bool k, .bool st, .int .i64 v, .int .i64 y])).run Try.prog w = .ok (.bool true) w := by
  simp [go_sem]
set_option maxRecDepth 100000 in
set_option maxHeartbeats 12000000 in
theorem fnOptions_walk (v : Value) (n : Nat) (w : World) (hb : Bytes w v n) :
    Calls Try.prog 8 #[v] w fun e w' => e = .returned (.bool true) ∧ Below w.heap.size w w' := by
  have HB := hide hb
  clear hb
  by_cases hbig : 1048576 < n
  · have e0 : decide (1048576 < n) = true := by simpa using hbig
    have E0 := hide e0
    clear e0
    go_enter Try.func8, Try.ntmps8
    go_wp2_with fail
    refine (big_any v n _ HB.out).mono ?_
    rintro e w1 ⟨rfl, rfl⟩
    rw [E0.out]
    go_wp2_with fail
    go_ret
    exact ⟨rfl, Below.refl _ _⟩
  have e0 : decide (1048576 < n) = false := by simpa using hbig
  have E0 := hide e0
  have hn : n ≤ 1048576 := by omega
  clear e0
  go_enter Try.func8, Try.ntmps8
  go_wp2_with fail
  refine (big_any v n _ HB.out).mono ?_
  rintro e w1 ⟨rfl, rfl⟩
  rw [E0.out]
  go_wp2_with fail
  refine (drawOptionsText_any v n _ hn HB.out).mono ?_
  rintro e w1 ⟨⟨m, s, k, st, x, y, rfl⟩, hb1⟩
  have B1 := hb1
  clear hb1
  obtain ⟨X, HX⟩ : ∃ X, Hid (X = optText m s k st x y) := ⟨_, hide rfl⟩
  have hX20 : X.size ≤ 20 := by rw [HX.out]; exact optText_le20 _ _ _ _ _ _
  have hX4 : ((X.size : Int) % 4 != 0) = false := by
    have : X.size % 4 = 0 := by rw [HX.out]; exact optText_mod4 _ _ _ _ _ _
    simp; omega
  have hX : X.size ≤ 140737488355328 := by omega
  go_wp2_with fail
  refine (impl_OptionsText _ _ _ _ _ _ _).mono ?_
  rintro e w2 ⟨rfl, hb2⟩
  have bO_2 := (Blk.new w1 [.int .i64 m, .int .i64 s, .bool k, .bool st, .int .i64 x, .int .i64 y] 59).below hb2
  have cbO_2 := bO_2.cells
  have B2 := Below.seq (Below.al B1 _) hb2
  clear hb2 B1
  rw [← HX.out]
  go_wp2_with fail
  refine (spec_OptionsText _ _ _ _ _ _ _).mono ?_
  rintro e w3 ⟨rfl, hb3⟩
  have bO_3 := bO_2.below hb3
  have cbO_3 := bO_3.cells
  have B3 := Below.seq B2 hb3
  clear hb3 B2 bO_2 cbO_2
  rw [← HX.out]
  go_wp2_with fail
  refine (impl_ReadOptions _ _ hX).mono ?_
  rintro e w4 ⟨rfl, hb4⟩
  have bO_4 := bO_3.below hb4
  have cbO_4 := bO_4.cells
  have B4 := Below.seq B3 hb4
  clear hb4 B3 bO_3 cbO_3
  cases hk : optOk m s st x y
  · have hX0 : X = ⟨#[]⟩ := by rw [HX.out, optText, hk]; rfl
    obtain ⟨r0, r1, r2, r3, r4, r5, r6⟩ := rd_opt0 X hX0
    rw [r0, r1, r2, r3, r4, r5, r6]
    have HK := hide hk
    clear hk hX0 r0 r1 r2 r3 r4 r5 r6
    have ca_bO_4 := (bO_4.alloc (.cells #[.int .i64 0, .int .i64 (-1), .bool false, .bool false, .int .i64 0, .int .i64 0] 59)).cells
    go_wp2_with fail
    refine (drawReadOptions_any v n _ hn (HB.out.below (Below.al B4 _))).mono ?_
    rintro e w5 ⟨⟨Y, rfl, hY⟩, hb5⟩
    have bO_5 := (bO_4.alloc _).below hb5
    have bP_5 := (Blk.new w4 [.int .i64 0, .int .i64 (-1), .bool false, .bool false, .int .i64 0, .int .i64 0] 59).below hb5
    have cbO_5 := bO_5.cells
    have cbP_5 := bP_5.cells
    have B5 := Below.seq (Below.al B4 _) hb5
    clear ca_bO_4 hb5 B4 bO_4 cbO_4
    have hY2 : Y.size ≤ 140737488355328 := by omega
    go_wp2_with fail
    refine (impl_ReadOptions _ _ hY2).mono ?_
    rintro e w6 ⟨rfl, hb6⟩
    have bO_6 := bO_5.below hb6
    have bP_6 := bP_5.below hb6
    have cbO_6 := bO_6.cells
    have cbP_6 := bP_6.cells
    have B6 := Below.seq B5 hb6
    clear hb6 B5 bO_5 bP_5 cbO_5 cbP_5
    obtain ⟨q0, HQ0⟩ : ∃ p, Hid (p = (roO Y).m) := ⟨_, hide rfl⟩
    obtain ⟨q1, HQ1⟩ : ∃ p, Hid (p = (roO Y).s) := ⟨_, hide rfl⟩
    obtain ⟨q2, HQ2⟩ : ∃ p, Hid (p = (roO Y).k) := ⟨_, hide rfl⟩
    obtain ⟨q3, HQ3⟩ : ∃ p, Hid (p = (roO Y).st) := ⟨_, hide rfl⟩
    obtain ⟨q4, HQ4⟩ : ∃ p, Hid (p = (roO Y).v) := ⟨_, hide rfl⟩
    obtain ⟨q5, HQ5⟩ : ∃ p, Hid (p = (roO Y).y) := ⟨_, hide rfl⟩
    obtain ⟨q6, HQ6⟩ : ∃ p, Hid (p = roB Y) := ⟨_, hide rfl⟩
    rw [← HQ0.out, ← HQ1.out, ← HQ2.out, ← HQ3.out, ← HQ4.out, ← HQ5.out, ← HQ6.out]
    have HV := hide (show optOk q0 q1 q3 q4 q5 = true by rw [HQ0.out, HQ1.out, HQ3.out, HQ4.out, HQ5.out]; exact ro_okO Y)
    have ca_bO_6 := (bO_6.alloc (.cells #[.int .i64 q0, .int .i64 q1, .bool q2, .bool q3, .int .i64 q4, .int .i64 q5] 59)).cells
    have ca_bP_6 := (bP_6.alloc (.cells #[.int .i64 q0, .int .i64 q1, .bool q2, .bool q3, .int .i64 q4, .int .i64 q5] 59)).cells
    go_wp2_with fail
    refine (spec_ReadOptions _ _ hY2).mono ?_
    rintro e w7 ⟨rfl, hb7⟩
    have bO_7 := (bO_6.alloc _).below hb7
    have bP_7 := (bP_6.alloc _).below hb7
    have bQ_7 := (Blk.new w6 [.int .i64 q0, .int .i64 q1, .bool q2, .bool q3, .int .i64 q4, .int .i64 q5] 59).below hb7
    have cbO_7 := bO_7.cells
    have cbP_7 := bP_7.cells
    have cbQ_7 := bQ_7.cells
    have B7 := Below.seq (Below.al B6 _) hb7
    clear ca_bO_6 ca_bP_6 hb7 B6 bO_6 bP_6 cbO_6 cbP_6
    rw [← HQ0.out, ← HQ1.out, ← HQ2.out, ← HQ3.out, ← HQ4.out, ← HQ5.out, ← HQ6.out]
    cases q6
    · have hq := ro_none HQ6.out.symm
      have z0 : q0 = 0 := by rw [HQ0.out, hq]; rfl
      have z1 : q1 = -1 := by rw [HQ1.out, hq]; rfl
      have z2 : q2 = false := by rw [HQ2.out, hq]; rfl
      have z3 : q3 = false := by rw [HQ3.out, hq]; rfl
      have z4 : q4 = 0 := by rw [HQ4.out, hq]; rfl
      have z5 : q5 = 0 := by rw [HQ5.out, hq]; rfl
      clear HQ0 HQ1 HQ2 HQ3 HQ4 HQ5 HQ6 hq
      subst z0 z1 z2 z3 z4 z5
      have hE2 := fun W => eql_opt W 0 (-1) false false 0 0
      have ca_bO_7 := (bO_7.alloc (.cells #[.int .i64 0, .int .i64 (-1), .bool false, .bool false, .int .i64 0, .int .i64 0] 59)).cells
      have ca_bP_7 := (bP_7.alloc (.cells #[.int .i64 0, .int .i64 (-1), .bool false, .bool false, .int .i64 0, .int .i64 0] 59)).cells
      have ca_bQ_7 := (bQ_7.alloc (.cells #[.int .i64 0, .int .i64 (-1), .bool false, .bool false, .int .i64 0, .int .i64 0] 59)).cells
      have BA := Below.al B7 (.cells #[.int .i64 0, .int .i64 (-1), .bool false, .bool false, .int .i64 0, .int .i64 0] 59)
      have S0 := And.intro ca_bO_7 (And.intro ca_bP_7 (And.intro ca_bQ_7 BA))
      have S0d := tri_drew S0
      have hund : undef = .tuple #[] := rfl
      go_wp2_with fail
      first | (go_region_with (first | (go_at_call 47; refine (spec_OptionsOk _ _ _ _ _ _ _).mono ?_; rintro e w20 ⟨rfl, hb20⟩; rw [HK.out]; have S1 := tri_below (by first | exact S0 | exact S0d) hb20; have S1d := tri_drew S1; have S1' := S1; obtain ⟨c1, c2, c3, B1⟩ := S1') | (go_at_call 48; refine (impl_OptionsOk _ _ _ _ _ _ _).mono ?_; rintro e w21 ⟨rfl, hb21⟩; rw [HV.out]; have S2 := tri_below (by first | exact S1 | exact S1d) hb21; have S2d := tri_drew S2; have S2' := S2; obtain ⟨c4, c5, c6, B2⟩ := S2') | (go_at_call 49; refine (impl_NoOptions _).mono ?_; rintro e w22 ⟨rfl, hb22⟩; have S3 := tri_below (by first | exact S2 | exact S2d) hb22; have S3d := tri_drew S3; have S3' := S3; obtain ⟨c7, c8, c9, B3⟩ := S3'))) | fail
      all_goals
        go_wp2
        go_ret
        first | exact ⟨rfl, B3⟩ | exact ⟨rfl, B2⟩
    · clear HQ0 HQ1 HQ2 HQ3 HQ4 HQ5 HQ6
      have ca_bO_7 := (bO_7.alloc (.cells #[.int .i64 q0, .int .i64 q1, .bool q2, .bool q3, .int .i64 q4, .int .i64 q5] 59)).cells
      have ca_bP_7 := (bP_7.alloc (.cells #[.int .i64 q0, .int .i64 q1, .bool q2, .bool q3, .int .i64 q4, .int .i64 q5] 59)).cells
      have ca_bQ_7 := (bQ_7.alloc (.cells #[.int .i64 q0, .int .i64 q1, .bool q2, .bool q3, .int .i64 q4, .int .i64 q5] 59)).cells
      have BA := Below.al B7 (.cells #[.int .i64 q0, .int .i64 q1, .bool q2, .bool q3, .int .i64 q4, .int .i64 q5] 59)
      have S0 := And.intro ca_bO_7 (And.intro ca_bP_7 (And.intro ca_bQ_7 BA))
      have S0d := tri_drew S0
      have hund : undef = .tuple #[] := rfl
      go_wp2_with fail
      first | (go_region_with (first | (go_at_call 47; refine (spec_OptionsOk _ _ _ _ _ _ _).mono ?_; rintro e w20 ⟨rfl, hb20⟩; rw [HK.out]; have S1 := tri_below (by first | exact S0 | exact S0d) hb20; have S1d := tri_drew S1; have S1' := S1; obtain ⟨c1, c2, c3, B1⟩ := S1') | (go_at_call 48; refine (impl_OptionsOk _ _ _ _ _ _ _).mono ?_; rintro e w21 ⟨rfl, hb21⟩; rw [HV.out]; have S2 := tri_below (by first | exact S1 | exact S1d) hb21; have S2d := tri_drew S2; have S2' := S2; obtain ⟨c4, c5, c6, B2⟩ := S2') | (go_at_call 49; refine (impl_NoOptions _).mono ?_; rintro e w22 ⟨rfl, hb22⟩; have S3 := tri_below (by first | exact S2 | exact S2d) hb22; have S3d := tri_drew S3; have S3' := S3; obtain ⟨c7, c8, c9, B3⟩ := S3'))) | fail
      all_goals
        go_wp2
        go_ret
        first | exact ⟨rfl, B3⟩ | exact ⟨rfl, B2⟩
  · obtain ⟨r0, r1, r2, r3, r4, r5, r6⟩ := rd_opt hk X HX.out
    rw [r0, r1, r2, r3, r4, r5, r6]
    have HK := hide hk
    clear hk r0 r1 r2 r3 r4 r5 r6
    have ca_bO_4 := (bO_4.alloc (.cells #[.int .i64 m, .int .i64 s, .bool k, .bool st, .int .i64 x, .int .i64 y] 59)).cells
    go_wp2_with fail
    refine (drawReadOptions_any v n _ hn (HB.out.below (Below.al B4 _))).mono ?_
    rintro e w5 ⟨⟨Y, rfl, hY⟩, hb5⟩
    have bO_5 := (bO_4.alloc _).below hb5
    have bP_5 := (Blk.new w4 [.int .i64 m, .int .i64 s, .bool k, .bool st, .int .i64 x, .int .i64 y] 59).below hb5
    have cbO_5 := bO_5.cells
    have cbP_5 := bP_5.cells
    have B5 := Below.seq (Below.al B4 _) hb5
    clear ca_bO_4 hb5 B4 bO_4 cbO_4
    have hY2 : Y.size ≤ 140737488355328 := by omega
    go_wp2_with fail
    refine (impl_ReadOptions _ _ hY2).mono ?_
    rintro e w6 ⟨rfl, hb6⟩
    have bO_6 := bO_5.below hb6
    have bP_6 := bP_5.below hb6
    have cbO_6 := bO_6.cells
    have cbP_6 := bP_6.cells
    have B6 := Below.seq B5 hb6
    clear hb6 B5 bO_5 bP_5 cbO_5 cbP_5
    obtain ⟨q0, HQ0⟩ : ∃ p, Hid (p = (roO Y).m) := ⟨_, hide rfl⟩
    obtain ⟨q1, HQ1⟩ : ∃ p, Hid (p = (roO Y).s) := ⟨_, hide rfl⟩
    obtain ⟨q2, HQ2⟩ : ∃ p, Hid (p = (roO Y).k) := ⟨_, hide rfl⟩
    obtain ⟨q3, HQ3⟩ : ∃ p, Hid (p = (roO Y).st) := ⟨_, hide rfl⟩
    obtain ⟨q4, HQ4⟩ : ∃ p, Hid (p = (roO Y).v) := ⟨_, hide rfl⟩
    obtain ⟨q5, HQ5⟩ : ∃ p, Hid (p = (roO Y).y) := ⟨_, hide rfl⟩
    obtain ⟨q6, HQ6⟩ : ∃ p, Hid (p = roB Y) := ⟨_, hide rfl⟩
    rw [← HQ0.out, ← HQ1.out, ← HQ2.out, ← HQ3.out, ← HQ4.out, ← HQ5.out, ← HQ6.out]
    have HV := hide (show optOk q0 q1 q3 q4 q5 = true by rw [HQ0.out, HQ1.out, HQ3.out, HQ4.out, HQ5.out]; exact ro_okO Y)
    have ca_bO_6 := (bO_6.alloc (.cells #[.int .i64 q0, .int .i64 q1, .bool q2, .bool q3, .int .i64 q4, .int .i64 q5] 59)).cells
    have ca_bP_6 := (bP_6.alloc (.cells #[.int .i64 q0, .int .i64 q1, .bool q2, .bool q3, .int .i64 q4, .int .i64 q5] 59)).cells
    go_wp2_with fail
    refine (spec_ReadOptions _ _ hY2).mono ?_
    rintro e w7 ⟨rfl, hb7⟩
    have bO_7 := (bO_6.alloc _).below hb7
    have bP_7 := (bP_6.alloc _).below hb7
    have bQ_7 := (Blk.new w6 [.int .i64 q0, .int .i64 q1, .bool q2, .bool q3, .int .i64 q4, .int .i64 q5] 59).below hb7
    have cbO_7 := bO_7.cells
    have cbP_7 := bP_7.cells
    have cbQ_7 := bQ_7.cells
    have B7 := Below.seq (Below.al B6 _) hb7
    clear ca_bO_6 ca_bP_6 hb7 B6 bO_6 bP_6 cbO_6 cbP_6
    rw [← HQ0.out, ← HQ1.out, ← HQ2.out, ← HQ3.out, ← HQ4.out, ← HQ5.out, ← HQ6.out]
    cases q6
    · have hq := ro_none HQ6.out.symm
      have z0 : q0 = 0 := by rw [HQ0.out, hq]; rfl
      have z1 : q1 = -1 := by rw [HQ1.out, hq]; rfl
      have z2 : q2 = false := by rw [HQ2.out, hq]; rfl
      have z3 : q3 = false := by rw [HQ3.out, hq]; rfl
      have z4 : q4 = 0 := by rw [HQ4.out, hq]; rfl
      have z5 : q5 = 0 := by rw [HQ5.out, hq]; rfl
      clear HQ0 HQ1 HQ2 HQ3 HQ4 HQ5 HQ6 hq
      subst z0 z1 z2 z3 z4 z5
      have hE2 := fun W => eql_opt W 0 (-1) false false 0 0
      have ca_bO_7 := (bO_7.alloc (.cells #[.int .i64 0, .int .i64 (-1), .bool false, .bool false, .int .i64 0, .int .i64 0] 59)).cells
      have ca_bP_7 := (bP_7.alloc (.cells #[.int .i64 0, .int .i64 (-1), .bool false, .bool false, .int .i64 0, .int .i64 0] 59)).cells
      have ca_bQ_7 := (bQ_7.alloc (.cells #[.int .i64 0, .int .i64 (-1), .bool false, .bool false, .int .i64 0, .int .i64 0] 59)).cells
      have hE := fun W => eql_opt W m s k st x y
      have BA := Below.al B7 (.cells #[.int .i64 0, .int .i64 (-1), .bool false, .bool false, .int .i64 0, .int .i64 0] 59)
      have S0 := And.intro ca_bO_7 (And.intro ca_bP_7 (And.intro ca_bQ_7 BA))
      have S0d := tri_drew S0
      -- the first guard holds
      go_wp2_with fail
      first | (go_region_with (first | (go_at_call 47; refine (spec_OptionsOk _ _ _ _ _ _ _).mono ?_; rintro e w20 ⟨rfl, hb20⟩; rw [HK.out]; have S1 := tri_below (by first | exact S0 | exact S0d) hb20; have S1d := tri_drew S1; have S1' := S1; obtain ⟨c1, c2, c3, B1⟩ := S1') | (go_at_call 48; refine (impl_OptionsOk _ _ _ _ _ _ _).mono ?_; rintro e w21 ⟨rfl, hb21⟩; rw [HV.out]; have S2 := tri_below (by first | exact S1 | exact S1d) hb21; have S2d := tri_drew S2; have S2' := S2; obtain ⟨c4, c5, c6, B2⟩ := S2') | (go_at_call 49; refine (impl_NoOptions _).mono ?_; rintro e w22 ⟨rfl, hb22⟩; have S3 := tri_below (by first | exact S2 | exact S2d) hb22; have S3d := tri_drew S3; have S3' := S3; obtain ⟨c7, c8, c9, B3⟩ := S3'))) | fail
      all_goals
        go_wp2
        go_ret
        first | exact ⟨rfl, B3⟩ | exact ⟨rfl, B2⟩
    · clear HQ0 HQ1 HQ2 HQ3 HQ4 HQ5 HQ6
      have ca_bO_7 := (bO_7.alloc (.cells #[.int .i64 q0, .int .i64 q1, .bool q2, .bool q3, .int .i64 q4, .int .i64 q5] 59)).cells
      have ca_bP_7 := (bP_7.alloc (.cells #[.int .i64 q0, .int .i64 q1, .bool q2, .bool q3, .int .i64 q4, .int .i64 q5] 59)).cells
      have ca_bQ_7 := (bQ_7.alloc (.cells #[.int .i64 q0, .int .i64 q1, .bool q2, .bool q3, .int .i64 q4, .int .i64 q5] 59)).cells
      have hE := fun W => eql_opt W m s k st x y
      have BA := Below.al B7 (.cells #[.int .i64 q0, .int .i64 q1, .bool q2, .bool q3, .int .i64 q4, .int .i64 q5] 59)
      have S0 := And.intro ca_bO_7 (And.intro ca_bP_7 (And.intro ca_bQ_7 BA))
      have S0d := tri_drew S0
      -- the first guard holds
      go_wp2_with fail
      first | (go_region_with (first | (go_at_call 47; refine (spec_OptionsOk _ _ _ _ _ _ _).mono ?_; rintro e w20 ⟨rfl, hb20⟩; rw [HK.out]; have S1 := tri_below (by first | exact S0 | exact S0d) hb20; have S1d := tri_drew S1; have S1' := S1; obtain ⟨c1, c2, c3, B1⟩ := S1') | (go_at_call 48; refine (impl_OptionsOk _ _ _ _ _ _ _).mono ?_; rintro e w21 ⟨rfl, hb21⟩; rw [HV.out]; have S2 := tri_below (by first | exact S1 | exact S1d) hb21; have S2d := tri_drew S2; have S2' := S2; obtain ⟨c4, c5, c6, B2⟩ := S2') | (go_at_call 49; refine (impl_NoOptions _).mono ?_; rintro e w22 ⟨rfl, hb22⟩; have S3 := tri_below (by first | exact S2 | exact S2d) hb22; have S3d := tri_drew S3; have S3' := S3; obtain ⟨c7, c8, c9, B3⟩ := S3'))) | fail
      all_goals
        go_wp2
        go_ret
        first | exact ⟨rfl, B3⟩ | exact ⟨rfl, B2⟩
end Go.Proofs.Ytahffinjglmhhaa
