/-
  The walks of the laws over drawn numbers: folding, places and their order.
-/
import Derived.Test.YtcapkadknabfiaaDz
import Derived.Test.YtcapkadknabfiaaOver
import Derived.Test.YtcapkadknabfiaaApp
namespace Go.Proofs.Ytcapkadknabfiaa
open Go.RowKit
set_option linter.unusedVariables false
theorem fold_law (n : Int) (h : 0 ≤ n) : (n - fold n) % 65535 = 0 ∧ 0 ≤ fold n ∧ fold n ≤ 65535 ∧ fold (fold n) = fold n := by
  obtain ⟨a, b⟩ := fold_bd n
  refine ⟨?_, a, b, fold_small _ a b⟩
  unfold fold
  split <;> omega
theorem fnFolded_walk (v : Value) (n : Nat) (w : World) (hb : Bytes w v n) :
    Calls Try.prog 8 #[v] w fun e w' => e = .returned (.bool true) ∧ Below w.heap.size w w' := by
  have HB := hide hb
  clear hb
  by_cases hbig : 1048576 < n
  · have e0 : decide (1048576 < n) = true := by simpa using hbig
    have E0 := hide e0
    clear e0
    go_enter Try.func8, Try.ntmps8
    go_wp2_with fail
    refine (big_any v n _ HB.out).mono ?_
    rintro e w1 ⟨rfl, rfl⟩
    rw [E0.out]
    go_wp2_with fail
    go_ret
    exact ⟨rfl, Below.refl _ _⟩
  have e0 : decide (1048576 < n) = false := by simpa using hbig
  have E0 := hide e0
  have hn : n ≤ 1048576 := by omega
  clear e0
  go_enter Try.func8, Try.ntmps8
  go_wp2_with fail
  refine (big_any v n _ HB.out).mono ?_
  rintro e w1 ⟨rfl, rfl⟩
  rw [E0.out]
  (go_wp2_with fail; refine (drawFolded_any v n _ hn HB.out).mono ?_; rintro e w1 ⟨⟨x, rfl, hx0, hx1⟩, hb1⟩)
  (go_wp2_with fail; refine (impl_Folded _ _ hx1).mono ?_; rintro e w2 ⟨rfl, rfl⟩)
  (go_wp2_with fail; refine (spec_Folded _ _ hx1).mono ?_; rintro e w2 ⟨rfl, rfl⟩)
  by_cases hn : x < 0
  · have hf := hide (fold_neg x hn)
    rw [hf.out]
    go_wp2_with fail
    go_ret
    exact ⟨rfl, hb1⟩
  · obtain ⟨f1, f2, f3, f4⟩ := fold_law x (by omega)
    obtain ⟨y, hy⟩ : ∃ y, y = fold x := ⟨_, rfl⟩
    rw [← hy] at f1 f2 f3 f4 ⊢
    have g1 : ((x - y).tmod 65535 == 0) = true := by
      rw [beq_iff_eq]; exact Int.tmod_eq_zero_of_dvd (Int.dvd_of_emod_eq_zero f1)
    have g2 : (fold y == y) = true := by rw [f4]; simp
    clear f4 hy f1
    (go_wp2_with fail; refine (impl_Folded _ _ (by omega)).mono ?_; rintro e w2 ⟨rfl, rfl⟩)
    go_wp2_with fail
    go_ret
    exact ⟨rfl, hb1⟩
theorem seq_law (a n : Int) (ha : I64 a) (hn : I64 n) : r32 (sdiff (r32 (a + n)) a) = r32 n ∧ r32 (r32 (a + n) + -(r32 n)) = r32 a ∧ r32 (a + sdiff (r32 (a + n)) a) = r32 (a + n) ∧ -2147483648 ≤ sdiff (r32 (a + n)) a ∧ sdiff (r32 (a + n)) a ≤ 2147483647 := by
  unfold sdiff r32
  split <;> omega
theorem fnSeq_walk (v : Value) (n : Nat) (w : World) (hb : Bytes w v n) :
    Calls Try.prog 11 #[v] w fun e w' => e = .returned (.bool true) ∧ Below w.heap.size w w' := by
  have HB := hide hb
  clear hb
  by_cases hbig : 1048576 < n
  · have e0 : decide (1048576 < n) = true := by simpa using hbig
    have E0 := hide e0
    clear e0
    go_enter Try.func11, Try.ntmps11
    go_wp2_with fail
    refine (big_any v n _ HB.out).mono ?_
    rintro e w1 ⟨rfl, rfl⟩
    rw [E0.out]
    go_wp2_with fail
    go_ret
    exact ⟨rfl, Below.refl _ _⟩
  have e0 : decide (1048576 < n) = false := by simpa using hbig
  have E0 := hide e0
  have hn : n ≤ 1048576 := by omega
  clear e0
  go_enter Try.func11, Try.ntmps11
  go_wp2_with fail
  refine (big_any v n _ HB.out).mono ?_
  rintro e w1 ⟨rfl, rfl⟩
  rw [E0.out]
  (go_wp2_with fail; refine (drawSeqAdd_any v n _ hn HB.out).mono ?_; rintro e w1 ⟨⟨a, m, rfl, ha, hm⟩, hb1⟩)
  (go_wp2_with fail; refine (impl_SeqAdd _ _ _).mono ?_; rintro e w2 ⟨rfl, rfl⟩)
  obtain ⟨s1, s2, s3, s4, s5⟩ := seq_law a m ha hm
  obtain ⟨r0, r1⟩ := r32_bd (a + m)
  obtain ⟨q0, q1⟩ := r32_bd m
  obtain ⟨x, hx⟩ : ∃ x, x = r32 (a + m) := ⟨_, rfl⟩
  obtain ⟨d, hd⟩ : ∃ d, d = sdiff x a := ⟨_, rfl⟩
  obtain ⟨y, hy⟩ : ∃ y, y = r32 m := ⟨_, rfl⟩
  rw [← hx, ← hy] at s1
  rw [← hx, ← hy] at s2
  rw [← hx] at s3 s4 s5 r0 r1 ⊢
  rw [← hy] at q0 q1
  rw [← hd] at s1 s3 s4 s5
  have Hx := hide hx
  have Hd := hide hd
  have Hy := hide hy
  have S1 := hide s1
  have S2 := hide s2
  have S3 := hide s3
  clear hx hd hy s1 s2 s3
  (go_wp2_with fail; refine (spec_SeqAdd _ _ _).mono ?_; rintro e w2 ⟨rfl, rfl⟩)
  rw [← Hx.out]
  (go_wp2_with fail; refine (impl_SeqDiff _ _ _).mono ?_; rintro e w2 ⟨rfl, rfl⟩)
  rw [← Hd.out]
  (go_wp2_with fail; refine (place_any _ _).mono ?_; rintro e w2 ⟨rfl, rfl⟩)
  rw [S1.out]
  (go_wp2_with fail; refine (place_any _ _).mono ?_; rintro e w2 ⟨rfl, rfl⟩)
  rw [← Hy.out]
  (go_wp2_with fail; refine (place_any _ _).mono ?_; rintro e w2 ⟨rfl, rfl⟩)
  rw [← Hy.out]
  (go_wp2_with fail; refine (impl_SeqAdd _ _ _).mono ?_; rintro e w2 ⟨rfl, rfl⟩)
  rw [S2.out]
  (go_wp2_with fail; refine (place_any _ _).mono ?_; rintro e w2 ⟨rfl, rfl⟩)
  (go_wp2_with fail; refine (impl_SeqAdd _ _ _).mono ?_; rintro e w2 ⟨rfl, rfl⟩)
  rw [S3.out]
  go_wp2_with fail
  go_ret
  exact ⟨rfl, hb1⟩
theorem order_law (a b n : Int) : decide (sdiff a b ≤ 0) = (decide (sdiff a b < 0) || (r32 a == r32 b)) ∧ decide (sdiff (r32 (a + n)) (r32 (b + n)) < 0) = decide (sdiff a b < 0) ∧ (r32 (a - r32 b) ≠ 2147483648 → decide (sdiff a b < 0) = true → decide (sdiff b a < 0) = false) := by
  refine ⟨?_, ?_, ?_⟩
  · rw [Bool.eq_iff_iff]
    simp
    unfold sdiff r32
    split <;> omega
  · rw [decide_eq_decide]
    unfold sdiff r32
    split <;> split <;> omega
  · intro h1 h2
    simp at h2 ⊢
    unfold sdiff at *
    unfold r32 at h1
    split at h2 <;> split <;> omega
theorem r32_wrap (x : Int) : r32 (wrap64 x) = r32 x := wrap64_m32 x
theorem fnSeqOrder_walk (v : Value) (n : Nat) (w : World) (hb : Bytes w v n) :
    Calls Try.prog 18 #[v] w fun e w' => e = .returned (.bool true) ∧ Below w.heap.size w w' := by
  have HB := hide hb
  clear hb
  by_cases hbig : 1048576 < n
  · have e0 : decide (1048576 < n) = true := by simpa using hbig
    have E0 := hide e0
    clear e0
    go_enter Try.func18, Try.ntmps18
    go_wp2_with fail
    refine (big_any v n _ HB.out).mono ?_
    rintro e w1 ⟨rfl, rfl⟩
    rw [E0.out]
    go_wp2_with fail
    go_ret
    exact ⟨rfl, Below.refl _ _⟩
  have e0 : decide (1048576 < n) = false := by simpa using hbig
  have E0 := hide e0
  have hn : n ≤ 1048576 := by omega
  clear e0
  go_enter Try.func18, Try.ntmps18
  go_wp2_with fail
  refine (big_any v n _ HB.out).mono ?_
  rintro e w1 ⟨rfl, rfl⟩
  rw [E0.out]
  (go_wp2_with fail; refine (drawSeqBelow_any v n _ hn HB.out).mono ?_; rintro e w1 ⟨⟨a, b, rfl, ha, hb⟩, hb1⟩)
  (go_wp2_with fail; refine (at0_any v n 3 _ hn (by omega) (HB.out.below hb1)).mono ?_; rintro e w2 ⟨⟨m, rfl, hm0, hm1⟩, rfl⟩)
  obtain ⟨o1, o2, o3⟩ := order_law a b (m * 16843009)
  obtain ⟨p, hp⟩ : ∃ p, p = decide (sdiff a b < 0) := ⟨_, rfl⟩
  obtain ⟨q, hq⟩ : ∃ q, q = decide (sdiff b a < 0) := ⟨_, rfl⟩
  obtain ⟨A, hA⟩ : ∃ A, A = r32 a := ⟨_, rfl⟩
  obtain ⟨B, hB⟩ : ∃ B, B = r32 b := ⟨_, rfl⟩
  obtain ⟨F, hF⟩ : ∃ F, F = r32 (a - B) := ⟨_, rfl⟩
  rw [← hp, ← hA, ← hB] at o1
  rw [← hp] at o2
  rw [← hp, ← hq, ← hB, ← hF] at o3
  have hF' : r32 (wrap64 (a - B)) = F := by rw [r32_wrap, hF]
  replace hp := hp.symm
  replace hq := hq.symm
  replace hA := hA.symm
  replace hB := hB.symm
  clear ha hb hF
  by_cases hAB : A = B
  all_goals
    first
      | (have e1 : (A == B) = true := by simpa using hAB
         rw [e1] at o1)
      | (have e1 : (A == B) = false := by simpa using hAB
         rw [e1] at o1)
    cases p <;> cases q <;> by_cases hf : F = 2147483648
    all_goals
      (first
        | (exfalso; have := o3 hf rfl; cases this; done)
        | (have f1 : (F == 2147483648) = true := by simpa using hf
           clear o3 hf hAB
           go_wp2_with (first | (go_at_call 78; refine (impl_SeqBelow _ _ _).mono ?_; rintro e w1 ⟨rfl, rfl⟩) | (go_at_call 79; refine (spec_SeqBelow _ _ _).mono ?_; rintro e w1 ⟨rfl, rfl⟩) | (go_at_call 80; refine (impl_SeqUpTo _ _ _).mono ?_; rintro e w1 ⟨rfl, rfl⟩) | (go_at_call 53; refine (impl_SeqAdd _ _ _).mono ?_; rintro e w1 ⟨rfl, rfl⟩) | (go_at_call 56; refine (place_any _ _).mono ?_; rintro e w1 ⟨rfl, rfl⟩))
           go_ret
           exact ⟨rfl, hb1⟩)
        | (have f1 : (F == 2147483648) = false := by simpa using hf
           clear o3 hf hAB
           go_wp2_with (first | (go_at_call 78; refine (impl_SeqBelow _ _ _).mono ?_; rintro e w1 ⟨rfl, rfl⟩) | (go_at_call 79; refine (spec_SeqBelow _ _ _).mono ?_; rintro e w1 ⟨rfl, rfl⟩) | (go_at_call 80; refine (impl_SeqUpTo _ _ _).mono ?_; rintro e w1 ⟨rfl, rfl⟩) | (go_at_call 53; refine (impl_SeqAdd _ _ _).mono ?_; rintro e w1 ⟨rfl, rfl⟩) | (go_at_call 56; refine (place_any _ _).mono ?_; rintro e w1 ⟨rfl, rfl⟩))
           go_ret
           exact ⟨rfl, hb1⟩))
def metK (x f s : Int) : Nat → Bool
  | 0 => false
  | k + 1 => metK x f s k || inWin (r32 (x + (k : Int))) f s
theorem metK_iff (x f s : Int) (k : Nat) : metK x f s k = true ↔ ∃ j : Nat, j < k ∧ inWin (r32 (x + (j : Int))) f s = true := by
  induction k with
  | zero => simp [metK]
  | succ k ih =>
    rw [metK, Bool.or_eq_true, ih]
    constructor
    · rintro (⟨j, h1, h2⟩ | h)
      · exact ⟨j, by omega, h2⟩
      · exact ⟨k, by omega, h⟩
    · rintro ⟨j, h1, h2⟩
      rcases Nat.lt_or_ge j k with h | h
      · exact .inl ⟨j, h, h2⟩
      · right; rw [show k = j by omega]; exact h2
theorem met_law (x n f s : Int) (k : Nat) (hk : (k : Int) = max n 0) (h2 : n ≤ 65536) : ov x n f s = metK x f s k := by
  cases h : metK x f s k
  · refine ov_end x n f s fun j h1 _ => ?_
    cases h3 : inWin (r32 (x + (j : Int))) f s
    · rfl
    · rw [(metK_iff x f s k).2 ⟨j, by omega, h3⟩] at h
      cases h
  · obtain ⟨j, h1, h3⟩ := (metK_iff x f s k).1 h
    exact ov_hit x n f s j (by omega) (by omega) h3
theorem win_self (f s : Int) (h : 1 ≤ s) : inWin f f s = true := by rw [inWin_iff]; omega
theorem win_back (f s : Int) (h : s ≤ 4294967295) : inWin (r32 (f + -1)) f s = false := by rw [inWin_no, r32_shift]; omega
theorem fnWindow_walk (v : Value) (n : Nat) (w : World) (hb : Bytes w v n) :
    Calls Try.prog 17 #[v] w fun e w' => e = .returned (.bool true) ∧ Below w.heap.size w w' := by
  have HB := hide hb
  clear hb
  by_cases hbig : 1048576 < n
  · have e0 : decide (1048576 < n) = true := by simpa using hbig
    have E0 := hide e0
    clear e0
    go_enter Try.func17, Try.ntmps17
    go_wp2_with fail
    refine (big_any v n _ HB.out).mono ?_
    rintro e w1 ⟨rfl, rfl⟩
    rw [E0.out]
    go_wp2_with fail
    go_ret
    exact ⟨rfl, Below.refl _ _⟩
  have e0 : decide (1048576 < n) = false := by simpa using hbig
  have E0 := hide e0
  have hn : n ≤ 1048576 := by omega
  clear e0
  go_enter Try.func17, Try.ntmps17
  go_wp2_with fail
  refine (big_any v n _ HB.out).mono ?_
  rintro e w1 ⟨rfl, rfl⟩
  rw [E0.out]
  (go_wp2_with fail; refine (drawOverlaps_any v n _ hn HB.out).mono ?_; rintro e w1 ⟨⟨x, m, f, s, rfl, hx, hm0, hm1, hf, hs⟩, hb1⟩)
  (go_wp2_with fail; refine (impl_Overlaps _ _ _ _ _).mono ?_; rintro e w2 ⟨rfl, rfl⟩)
  obtain ⟨W, hW⟩ : ∃ W, W = ov x m f s := ⟨_, rfl⟩
  obtain ⟨I, hI⟩ : ∃ I, I = inWin x f s := ⟨_, rfl⟩
  have HW := hide hW
  have HI := hide hI
  rw [← hW]
  have hs' : -9223372036854775808 ≤ s ∧ s ≤ 9223372036854775807 := hs
  obtain ⟨hs0, hs1⟩ := hs'
  clear hW hI hx hf hs
  (go_wp2_with fail; refine (spec_Overlaps _ _ _ _ _ (by omega)).mono ?_; rintro e w2 ⟨rfl, rfl⟩)
  rw [← HW.out]
  (go_wp2_with fail; refine (impl_InWindow _ _ _ _).mono ?_; rintro e w2 ⟨rfl, rfl⟩)
  rw [← HI.out]
  (go_wp2_with fail; refine (spec_InWindow _ _ _ _).mono ?_; rintro e w2 ⟨rfl, rfl⟩)
  rw [← HI.out]
  go_wp2_with fail
  go_loop [8, 9] (fun t i => ∃ k : Nat, (k : Int) ≤ max m 0 ∧ i = .int .i64 k ∧ ∃ b : Bool, t = .bool b ∧ Hid (b = metK x f s k)) (fun _ i => (40 - intOf i).toNat)
  case atStart => exact ⟨0, by omega, rfl, _, rfl, hide rfl⟩
  case round =>
    obtain ⟨k, hk, rfl, b, rfl, Hk⟩ := hrel
    by_cases hlt : (k : Int) < m
    · obtain ⟨c, hc⟩ : ∃ c, c = inWin (r32 (x + (k : Int))) f s := ⟨_, rfl⟩
      have HK1 := hide (show (b || c) = metK x f s (k + 1) by rw [metK, ← Hk.out, hc])
      have HC := hide hc
      clear hc Hk
      cases b
      · go_wp2_with (first | (go_at_call 53; refine (impl_SeqAdd _ _ _).mono ?_; rintro e w1 ⟨rfl, rfl⟩) | (go_at_call 75; refine (impl_InWindow _ _ _ _).mono ?_; rintro e w1 ⟨rfl, rfl⟩; rw [← HC.out]))
        go_round
        case rel => exact ⟨k + 1, by omega, by go_num, c, rfl, hide (by rw [← HK1.out]; simp)⟩
        case measure => simp [intOf]; omega
      · go_wp2_with fail
        go_round
        case rel => exact ⟨k + 1, by omega, by go_num, true, rfl, hide (by rw [← HK1.out]; simp)⟩
        case measure => simp [intOf]; omega
    · have hb : b = W := by
        rw [Hk.out, HW.out, met_law x m f s k (by omega) (by omega)]
      subst hb
      clear Hk HW
      by_cases c1 : s < 1
      · have e1 := win_back f s (by omega)
        have E1 := hide e1
        clear e1
        cases b
        all_goals
          go_wp2_with (first | (go_at_call 53; refine (impl_SeqAdd _ _ _).mono ?_; rintro e w1 ⟨rfl, rfl⟩) | (go_at_call 75; refine (impl_InWindow _ _ _ _).mono ?_; rintro e w1 ⟨rfl, rfl⟩; rw [E1.out]))
          go_ret
          exact ⟨rfl, hb1⟩
      · have E2 := hide (win_self f s (by omega))
        by_cases c2 : s ≤ 4294967295
        · have E1 := hide (win_back f s c2)
          cases b
          all_goals
            go_wp2_with (first | (go_at_call 53; refine (impl_SeqAdd _ _ _).mono ?_; rintro e w1 ⟨rfl, rfl⟩) | (go_at_call 75; refine (impl_InWindow _ _ _ _).mono ?_; rintro e w1 ⟨rfl, rfl⟩; (first | rw [E1.out] | rw [E2.out])))
            go_ret
            exact ⟨rfl, hb1⟩
        · cases b
          all_goals
            go_wp2_with (first | (go_at_call 53; refine (impl_SeqAdd _ _ _).mono ?_; rintro e w1 ⟨rfl, rfl⟩) | (go_at_call 75; refine (impl_InWindow _ _ _ _).mono ?_; rintro e w1 ⟨rfl, rfl⟩; rw [E2.out]))
            go_ret
            exact ⟨rfl, hb1⟩
end Go.Proofs.Ytcapkadknabfiaa
