/-
  The walks of the laws over drawn words and sums.
-/
import Derived.Test.YtcapkadknabfiaaDz
import Derived.Test.YtcapkadknabfiaaApp
import Derived.Test.YtcapkadknabfiaaTu
import Derived.Deep.QuietTactic
import Derived.Deep.RegionWith
import Derived.BigQuiet
namespace Go.Proofs.Ytcapkadknabfiaa
open Go.RowKit
set_option linter.unusedVariables false
theorem strNe (s : ByteArray) (h : 0 < s.size) : (s.toList == []) = false ∧ (([] : List UInt8) == s.toList) = false ∧ s.toList.isEmpty = false ∧ ¬ s.toList = [] := by
  have h1 : s.toList ≠ [] := fun e => by rw [toList_nil_iff] at e; omega
  cases hs : s.toList with
  | nil => exact absurd hs h1
  | cons a b => exact ⟨rfl, rfl, rfl, by simp⟩
theorem word_back (a : Int) (k : Nat) (h1 : 1 ≤ k) (h6 : k ≤ 6) (hok : wordOk a (8 * (k : Int)) = true) :
    (putWord a k).size = k ∧ getV (⟨#[97, 98]⟩ ++ putWord a k ++ ⟨#[99]⟩) 2 k = a ∧ getOk (⟨#[97, 98]⟩ ++ putWord a k ++ ⟨#[99]⟩) 2 k = true := by
  have e := size_word h1 h6 hok
  have z : (⟨#[97, 98]⟩ ++ putWord a k ++ ⟨#[99]⟩ : ByteArray).size = k + 3 := by
    rw [ByteArray.size_append, ByteArray.size_append, e]
    show 2 + k + 1 = k + 3
    omega
  refine ⟨e, getV_mid (x := ⟨#[97, 98]⟩) (y := ⟨#[99]⟩) (a := 2) (by rw [ByteArray.append_assoc]) rfl h1 h6 hok, ?_⟩
  rw [getOk, Bool.and_eq_true, rng_true, rng_true, z]
  omega
theorem fnWord_walk (v : Value) (n : Nat) (w : World) (hb : Bytes w v n) :
    Calls Try.prog 13 #[v] w fun e w' => e = .returned (.bool true) ∧ Below w.heap.size w w' := by
  have HB := hide hb
  clear hb
  by_cases hbig : 1048576 < n
  · have e0 : decide (1048576 < n) = true := by simpa using hbig
    have E0 := hide e0
    clear e0
    go_enter Try.func13, Try.ntmps13
    go_wp2_with fail
    refine (big_any v n _ HB.out).mono ?_
    rintro e w1 ⟨rfl, rfl⟩
    rw [E0.out]
    go_wp2_with fail
    go_ret
    exact ⟨rfl, Below.refl _ _⟩
  have e0 : decide (1048576 < n) = false := by simpa using hbig
  have E0 := hide e0
  have hn : n ≤ 1048576 := by omega
  clear e0
  go_enter Try.func13, Try.ntmps13
  go_wp2_with fail
  refine (big_any v n _ HB.out).mono ?_
  rintro e w1 ⟨rfl, rfl⟩
  rw [E0.out]
  (go_wp2_with fail; refine (drawPutWord_any v n _ hn HB.out).mono ?_; rintro e w1 ⟨⟨a, z, rfl, ha, hz0, hz1⟩, hb1⟩)
  clear ha
  (go_wp2_with fail; refine (impl_PutWord _ _ _).mono ?_; rintro e w2 ⟨rfl, hb2⟩)
  by_cases hg : rng z 1 6 = true ∧ wordOk a (8 * z) = true
  · obtain ⟨g1, g2⟩ := hg
    rw [rng_true] at g1
    obtain ⟨k, rfl⟩ : ∃ k : Nat, z = k := ⟨z.toNat, by omega⟩
    obtain ⟨q1, q2, q3⟩ := word_back a k (by omega) (by omega) g2
    obtain ⟨P, hP⟩ : ∃ P, P = putWord a k := ⟨_, rfl⟩
    rw [← hP] at q1 q2 q3 ⊢
    obtain ⟨n1, n2, n3, n4⟩ := strNe P (by omega)
    have hq1 : ((P.size : Int) == (k : Int)) = true := by rw [q1]; simp
    have hs : (⟨#[97, 98]⟩ ++ P ++ ⟨#[99]⟩ : ByteArray).size ≤ 140737488355328 := by
      rw [ByteArray.size_append, ByteArray.size_append, q1]
      show 2 + k + 1 ≤ _
      omega
    have HS := hide hs
    have HP := hide hP
    have Q2 := hide q2
    have Q3 := hide q3
    have hps : P.size ≤ 6 := by omega
    clear hs hP q1 q2 q3 g2
    (go_wp2_with fail; refine (spec_PutWord _ _ _).mono ?_; rintro e w3 ⟨rfl, hb3⟩)
    rw [← HP.out]
    (go_wp2_with fail; refine (impl_GetWord _ _ _ _ HS.out).mono ?_; rintro e w4 ⟨rfl, rfl⟩)
    rw [Q2.out, Q3.out]
    go_wp2_with fail
    go_ret
    exact ⟨rfl, (by repeat (first | with_reducible exact Below.refl _ _ | with_reducible assumption | with_reducible refine Below.al ?_ _ | with_reducible refine Below.drew ?_ | with_reducible refine Below.seq ?_ (by assumption) | (with_reducible refine Below.setCell ?_ ?_ _); rotate_left; focus (first | exact Nat.le_refl _ | (simp; done) | (simp; omega))))⟩
  · have e : putWord a z = ⟨#[]⟩ := by
      rw [putWord, if_neg (by simpa using hg)]
    have E := hide e
    rw [e]
    have hs : (⟨#[97, 98]⟩ ++ ⟨#[]⟩ ++ ⟨#[99]⟩ : ByteArray).size ≤ 140737488355328 := by decide
    have HS := hide hs
    clear e hs
    (go_wp2_with fail; refine (spec_PutWord _ _ _).mono ?_; rintro e w3 ⟨rfl, hb3⟩)
    rw [E.out]
    (go_wp2_with fail; refine (impl_GetWord _ _ _ _ HS.out).mono ?_; rintro e w4 ⟨rfl, rfl⟩)
    by_cases c1 : z < 1
    · obtain ⟨B, hB⟩ : ∃ B, B = wordOk a (8 * z) := ⟨_, rfl⟩
      have HBB := hide hB
      clear hB
      (go_wp2_with fail; refine (impl_WordOk _ _ _).mono ?_; rintro e w5 ⟨rfl, rfl⟩)
      rw [← HBB.out]
      cases B
      all_goals
        go_wp2_with fail
        go_ret
        exact ⟨rfl, (by repeat (first | with_reducible exact Below.refl _ _ | with_reducible assumption | with_reducible refine Below.al ?_ _ | with_reducible refine Below.drew ?_ | with_reducible refine Below.seq ?_ (by assumption) | (with_reducible refine Below.setCell ?_ ?_ _); rotate_left; focus (first | exact Nat.le_refl _ | (simp; done) | (simp; omega))))⟩
    by_cases c2 : 6 < z
    · obtain ⟨B, hB⟩ : ∃ B, B = wordOk a (8 * z) := ⟨_, rfl⟩
      have HBB := hide hB
      clear hB
      (go_wp2_with fail; refine (impl_WordOk _ _ _).mono ?_; rintro e w5 ⟨rfl, rfl⟩)
      rw [← HBB.out]
      cases B
      all_goals
        go_wp2_with fail
        go_ret
        exact ⟨rfl, (by repeat (first | with_reducible exact Below.refl _ _ | with_reducible assumption | with_reducible refine Below.al ?_ _ | with_reducible refine Below.drew ?_ | with_reducible refine Below.seq ?_ (by assumption) | (with_reducible refine Below.setCell ?_ ?_ _); rotate_left; focus (first | exact Nat.le_refl _ | (simp; done) | (simp; omega))))⟩
    · have hB : wordOk a (8 * z) = false := by
        cases hh : wordOk a (8 * z)
        · rfl
        · exact absurd ⟨by rw [rng_true]; omega, hh⟩ hg
      have HBB := hide hB
      clear hB
      (go_wp2_with fail; refine (impl_WordOk _ _ _).mono ?_; rintro e w5 ⟨rfl, rfl⟩)
      rw [HBB.out]
      go_wp2_with fail
      go_ret
      exact ⟨rfl, (by repeat (first | with_reducible exact Below.refl _ _ | with_reducible assumption | with_reducible refine Below.al ?_ _ | with_reducible refine Below.drew ?_ | with_reducible refine Below.seq ?_ (by assumption) | (with_reducible refine Below.setCell ?_ ?_ _); rotate_left; focus (first | exact Nat.le_refl _ | (simp; done) | (simp; omega))))⟩
set_option maxRecDepth 100000 in
theorem fnWordRead_walk (v : Value) (n : Nat) (w : World) (hb : Bytes w v n) :
    Calls Try.prog 9 #[v] w fun e w' => e = .returned (.bool true) ∧ Below w.heap.size w w' := by
  have HB := hide hb
  clear hb
  by_cases hbig : 1048576 < n
  · have e0 : decide (1048576 < n) = true := by simpa using hbig
    have E0 := hide e0
    clear e0
    go_enter Try.func9, Try.ntmps9
    go_wp2_with fail
    refine (big_any v n _ HB.out).mono ?_
    rintro e w1 ⟨rfl, rfl⟩
    rw [E0.out]
    go_wp2_with fail
    go_ret
    exact ⟨rfl, Below.refl _ _⟩
  have e0 : decide (1048576 < n) = false := by simpa using hbig
  have E0 := hide e0
  have hn : n ≤ 1048576 := by omega
  clear e0
  go_enter Try.func9, Try.ntmps9
  go_wp2_with fail
  refine (big_any v n _ HB.out).mono ?_
  rintro e w1 ⟨rfl, rfl⟩
  rw [E0.out]
  (go_wp2_with fail; refine (drawGetWord_any v n _ hn HB.out).mono ?_; rintro e w1 ⟨⟨s, a, z, rfl, hs, ha, hz0, hz1⟩, hb1⟩)
  clear ha
  have hs' : s.size ≤ 140737488355328 := by omega
  (go_wp2_with fail; refine (impl_GetWord _ _ _ _ hs').mono ?_; rintro e w2 ⟨rfl, rfl⟩)
  by_cases hg : getOk s a z = true
  · have hg' := hg
    rw [getOk, Bool.and_eq_true, rng_true, rng_true] at hg'
    obtain ⟨k, rfl⟩ : ∃ k : Nat, z = k := ⟨z.toNat, by omega⟩
    obtain ⟨i, rfl⟩ : ∃ i : Nat, a = i := ⟨a.toNat, by omega⟩
    have e1 := getV_in s i k (by omega) (by omega) (by omega)
    have e2 := putWord_gw s i k (by omega) (by omega) (by omega)
    obtain ⟨g0, g1⟩ := gw_bd6 s i k (by omega)
    obtain ⟨V, hV⟩ : ∃ V, V = gw s i k := ⟨_, rfl⟩
    rw [← hV] at e1 e2 g0 g1
    have E1 := hide e1
    have E2 := hide e2
    have HG := hide hg
    rw [e1, hg]
    have i0 : (0 : Int) ≤ (i : Int) := by omega
    have i1 : (i : Int) ≤ (i : Int) + (k : Int) := by omega
    have i2 : (i : Int) + (k : Int) ≤ (s.size : Int) := by omega
    clear hV e1 e2 hg hg' i0
    have i0 : (0 : Int) ≤ (i : Int) := Int.natCast_nonneg _
    (go_wp2_with fail; refine (spec_GetWord _ _ _ _ hs').mono ?_; rintro e w2 ⟨rfl, rfl⟩)
    rw [E1.out, HG.out]
    have iw : IntKind.i64.wrap ((i : Int) + (k : Int)) = (i : Int) + (k : Int) := IntWalk.i64_in _ ⟨by omega, by omega⟩
    have iz : (0 : Int) ≤ (i : Int) + (k : Int) := by omega
    have tn : ((i : Int) + (k : Int)).toNat = i + k := by omega
    go_wp2_with fail
    refine wp_region_any (by kernel_rfl) ?_
    change wpAny _ _ _ _ _ _ _ (World.drew _)
    (refine wpAny_take (i := 0) (v := ?_) rfl (by kernel_rfl) (by kernel_rfl) (by kernel_rfl) (fun _ _ _ h => h) (Or.inl ⟨by kernel_rfl, ?_⟩) ?_; rotate_left; focus (intro w; go_simp; try with_reducible rfl))
    (refine wpAny_take (i := 1) (v := ?_) rfl (by kernel_rfl) (by kernel_rfl) (by kernel_rfl) (fun _ _ _ h => h) (Or.inl ⟨by kernel_rfl, ?_⟩) ?_; rotate_left; focus (intro w; go_simp; try with_reducible rfl))
    (refine wpAny_take (i := 2) (v := ?_) rfl (by kernel_rfl) (by kernel_rfl) (by kernel_rfl) (fun _ _ _ h => h) (Or.inl ⟨by kernel_rfl, ?_⟩) ?_; rotate_left; focus (intro w; go_simp; try with_reducible rfl))
    refine wpAny_take (i := 3) (v := undef) rfl (by kernel_rfl) (by kernel_rfl) (by kernel_rfl) (fun _ _ _ h => h) (Or.inr ⟨by kernel_rfl, rfl⟩) ?_
    refine wpAny_take (i := 4) (v := undef) rfl (by kernel_rfl) (by kernel_rfl) (by kernel_rfl) (fun _ _ _ h => h) (Or.inr ⟨by kernel_rfl, rfl⟩) ?_
    (refine wpAny_take (i := 5) (v := ?_) rfl (by kernel_rfl) (by kernel_rfl) (by kernel_rfl) (fun _ _ _ h => h) (Or.inl ⟨by kernel_rfl, ?_⟩) ?_; rotate_left; focus (intro w; go_simp; try with_reducible rfl))
    (refine wpAny_take (i := 6) (v := ?_) rfl (by kernel_rfl) (by kernel_rfl) (by kernel_rfl) (fun _ _ _ h => h) (Or.inl ⟨by kernel_rfl, ?_⟩) ?_; rotate_left; focus (intro w; go_simp; try with_reducible rfl))
    (refine wpAny_take (i := 7) (v := ?_) rfl (by kernel_rfl) (by kernel_rfl) (by kernel_rfl) (fun _ _ _ h => h) (Or.inl ⟨by kernel_rfl, ?_⟩) ?_; rotate_left; focus (intro w; go_simp; try with_reducible rfl))
    (refine wpAny_take (i := 8) (v := ?_) rfl (by kernel_rfl) (by kernel_rfl) (by kernel_rfl) (fun _ _ _ h => h) (Or.inl ⟨by kernel_rfl, ?_⟩) ?_; rotate_left; focus (intro w; go_simp; try with_reducible rfl))
    (refine wpAny_take (i := 9) (v := ?_) rfl (by kernel_rfl) (by kernel_rfl) (by kernel_rfl) (fun _ _ _ h => h) (Or.inl ⟨by kernel_rfl, ?_⟩) ?_; rotate_left; focus (intro w; go_simp; try with_reducible rfl))
    (refine wpAny_take (i := 10) (v := ?_) rfl (by kernel_rfl) (by kernel_rfl) (by kernel_rfl) (fun _ _ _ h => h) (Or.inl ⟨by kernel_rfl, ?_⟩) ?_; rotate_left; focus (intro w; go_simp; try with_reducible rfl))
    (refine wpAny_take (i := 12) (v := ?_) rfl (by kernel_rfl) (by kernel_rfl) (by kernel_rfl) (fun _ _ _ h => h) (Or.inl ⟨by kernel_rfl, ?_⟩) ?_; rotate_left; focus (intro w; go_simp; try with_reducible rfl))
    (refine wpAny_take (i := 13) (v := ?_) rfl (by kernel_rfl) (by kernel_rfl) (by kernel_rfl) (fun _ _ _ h => h) (Or.inl ⟨by kernel_rfl, ?_⟩) ?_; rotate_left; focus (intro w; go_simp; try with_reducible rfl))
    (refine wpAny_take (i := 14) (v := ?_) rfl (by kernel_rfl) (by kernel_rfl) (by kernel_rfl) (fun _ _ _ h => h) (Or.inl ⟨by kernel_rfl, ?_⟩) ?_; rotate_left; focus (intro w; go_simp; try with_reducible rfl))
    (refine wpAny_take (i := 15) (v := ?_) rfl (by kernel_rfl) (by kernel_rfl) (by kernel_rfl) (fun _ _ _ h => h) (Or.inl ⟨by kernel_rfl, ?_⟩) ?_; rotate_left; focus (intro w; go_simp; try with_reducible rfl))
    (refine wpAny_take (i := 16) (v := ?_) rfl (by kernel_rfl) (by kernel_rfl) (by kernel_rfl) (fun _ _ _ h => h) (Or.inl ⟨by kernel_rfl, ?_⟩) ?_; rotate_left; focus (intro w; go_simp; try with_reducible rfl))
    (refine wpAny_take (i := 17) (v := ?_) rfl (by kernel_rfl) (by kernel_rfl) (by kernel_rfl) (fun _ _ _ h => h) (Or.inl ⟨by kernel_rfl, ?_⟩) ?_; rotate_left; focus (intro w; go_simp; try with_reducible rfl))
    refine wpAny_ready (rs := [11]) (by kernel_rfl) (by simp) ?_
    refine AllReady.cons rfl (fun K hK => ?_) AllReady.nil
    go_simp
    go_wp2_with (first | (go_at_call 46; refine (impl_PutWord _ _ _).mono ?_; rintro e w2 ⟨rfl, hb2⟩; rw [E2.out]))
    try (refine hK _ _ ?_; clear hK K)
    (refine wpAny_take (i := 18) (v := ?_) rfl (by kernel_rfl) (by kernel_rfl) (by kernel_rfl) (fun _ _ _ h => h) (Or.inl ⟨by kernel_rfl, ?_⟩) ?_; rotate_left; focus (intro w; go_simp; try with_reducible rfl))
    (refine wpAny_take (i := 19) (v := ?_) rfl (by kernel_rfl) (by kernel_rfl) (by kernel_rfl) (fun _ _ _ h => h) (Or.inl ⟨by kernel_rfl, ?_⟩) ?_; rotate_left; focus (intro w; go_simp; try with_reducible rfl))
    (refine wpAny_take (i := 20) (v := ?_) rfl (by kernel_rfl) (by kernel_rfl) (by kernel_rfl) (fun _ _ _ h => h) (Or.inl ⟨by kernel_rfl, ?_⟩) ?_; rotate_left; focus (intro w; go_simp; try with_reducible rfl))
    (refine wpAny_take (i := 21) (v := ?_) rfl (by kernel_rfl) (by kernel_rfl) (by kernel_rfl) (fun _ _ _ h => h) (Or.inl ⟨by kernel_rfl, ?_⟩) ?_; rotate_left; focus (intro w; go_simp; try with_reducible rfl))
    refine wpAny_done (by kernel_rfl) ?_ _
    have hb3 : Below w.heap.size w w2 := Below.seq hb1 (show Below w1.heap.size w1 w2 from ⟨hb2.os, hb2.tape, hb2.output, hb2.size, hb2.block⟩)
    all_goals
      (try clear tn iw iz)
      go_wp2_with fail
      go_ret
      exact ⟨rfl, hb3⟩
  · have hg0 : getOk s a z = false := by simpa using hg
    have e1 : getV s a z = 0 := by rw [getV, if_neg hg]
    have E1 := hide e1
    have HG := hide hg0
    rw [e1, hg0]
    clear e1 hg hg0
    (go_wp2_with fail; refine (spec_GetWord _ _ _ _ hs').mono ?_; rintro e w2 ⟨rfl, rfl⟩)
    rw [E1.out, HG.out]
    go_wp2_with fail
    refine wp_region_any (by kernel_rfl) ?_
    change wpAny _ _ _ _ _ _ _ (World.drew _)
    (refine wpAny_take (i := 0) (v := ?_) rfl (by kernel_rfl) (by kernel_rfl) (by kernel_rfl) (fun _ _ _ h => h) (Or.inl ⟨by kernel_rfl, ?_⟩) ?_; rotate_left; focus (intro w; go_simp; try with_reducible rfl))
    (refine wpAny_take (i := 1) (v := ?_) rfl (by kernel_rfl) (by kernel_rfl) (by kernel_rfl) (fun _ _ _ h => h) (Or.inl ⟨by kernel_rfl, ?_⟩) ?_; rotate_left; focus (intro w; go_simp; try with_reducible rfl))
    (refine wpAny_take (i := 2) (v := ?_) rfl (by kernel_rfl) (by kernel_rfl) (by kernel_rfl) (fun _ _ _ h => h) (Or.inl ⟨by kernel_rfl, ?_⟩) ?_; rotate_left; focus (intro w; go_simp; try with_reducible rfl))
    (refine wpAny_take (i := 3) (v := ?_) rfl (by kernel_rfl) (by kernel_rfl) (by kernel_rfl) (fun _ _ _ h => h) (Or.inl ⟨by kernel_rfl, ?_⟩) ?_; rotate_left; focus (intro w; go_simp; try with_reducible rfl))
    (refine wpAny_take (i := 4) (v := ?_) rfl (by kernel_rfl) (by kernel_rfl) (by kernel_rfl) (fun _ _ _ h => h) (Or.inl ⟨by kernel_rfl, ?_⟩) ?_; rotate_left; focus (intro w; go_simp; try with_reducible rfl))
    (refine wpAny_take (i := 5) (v := ?_) rfl (by kernel_rfl) (by kernel_rfl) (by kernel_rfl) (fun _ _ _ h => h) (Or.inl ⟨by kernel_rfl, ?_⟩) ?_; rotate_left; focus (intro w; go_simp; try with_reducible rfl))
    (refine wpAny_take (i := 6) (v := ?_) rfl (by kernel_rfl) (by kernel_rfl) (by kernel_rfl) (fun _ _ _ h => h) (Or.inl ⟨by kernel_rfl, ?_⟩) ?_; rotate_left; focus (intro w; go_simp; try with_reducible rfl))
    refine wpAny_take (i := 7) (v := undef) rfl (by kernel_rfl) (by kernel_rfl) (by kernel_rfl) (fun _ _ _ h => h) (Or.inr ⟨by kernel_rfl, rfl⟩) ?_
    refine wpAny_take (i := 8) (v := undef) rfl (by kernel_rfl) (by kernel_rfl) (by kernel_rfl) (fun _ _ _ h => h) (Or.inr ⟨by kernel_rfl, rfl⟩) ?_
    refine wpAny_take (i := 9) (v := undef) rfl (by kernel_rfl) (by kernel_rfl) (by kernel_rfl) (fun _ _ _ h => h) (Or.inr ⟨by kernel_rfl, rfl⟩) ?_
    refine wpAny_take (i := 10) (v := undef) rfl (by kernel_rfl) (by kernel_rfl) (by kernel_rfl) (fun _ _ _ h => h) (Or.inr ⟨by kernel_rfl, rfl⟩) ?_
    refine wpAny_take (i := 11) (v := undef) rfl (by kernel_rfl) (by kernel_rfl) (by kernel_rfl) (fun _ _ _ h => h) (Or.inr ⟨by kernel_rfl, rfl⟩) ?_
    refine wpAny_take (i := 12) (v := undef) rfl (by kernel_rfl) (by kernel_rfl) (by kernel_rfl) (fun _ _ _ h => h) (Or.inr ⟨by kernel_rfl, rfl⟩) ?_
    refine wpAny_take (i := 13) (v := undef) rfl (by kernel_rfl) (by kernel_rfl) (by kernel_rfl) (fun _ _ _ h => h) (Or.inr ⟨by kernel_rfl, rfl⟩) ?_
    refine wpAny_take (i := 14) (v := undef) rfl (by kernel_rfl) (by kernel_rfl) (by kernel_rfl) (fun _ _ _ h => h) (Or.inr ⟨by kernel_rfl, rfl⟩) ?_
    refine wpAny_take (i := 15) (v := undef) rfl (by kernel_rfl) (by kernel_rfl) (by kernel_rfl) (fun _ _ _ h => h) (Or.inr ⟨by kernel_rfl, rfl⟩) ?_
    refine wpAny_take (i := 16) (v := undef) rfl (by kernel_rfl) (by kernel_rfl) (by kernel_rfl) (fun _ _ _ h => h) (Or.inr ⟨by kernel_rfl, rfl⟩) ?_
    refine wpAny_take (i := 17) (v := undef) rfl (by kernel_rfl) (by kernel_rfl) (by kernel_rfl) (fun _ _ _ h => h) (Or.inr ⟨by kernel_rfl, rfl⟩) ?_
    refine wpAny_take (i := 18) (v := undef) rfl (by kernel_rfl) (by kernel_rfl) (by kernel_rfl) (fun _ _ _ h => h) (Or.inr ⟨by kernel_rfl, rfl⟩) ?_
    refine wpAny_take (i := 19) (v := undef) rfl (by kernel_rfl) (by kernel_rfl) (by kernel_rfl) (fun _ _ _ h => h) (Or.inr ⟨by kernel_rfl, rfl⟩) ?_
    (refine wpAny_take (i := 20) (v := ?_) rfl (by kernel_rfl) (by kernel_rfl) (by kernel_rfl) (fun _ _ _ h => h) (Or.inl ⟨by kernel_rfl, ?_⟩) ?_; rotate_left; focus (intro w; go_simp; try with_reducible rfl))
    (refine wpAny_take (i := 21) (v := ?_) rfl (by kernel_rfl) (by kernel_rfl) (by kernel_rfl) (fun _ _ _ h => h) (Or.inl ⟨by kernel_rfl, ?_⟩) ?_; rotate_left; focus (intro w; go_simp; try with_reducible rfl))
    refine wpAny_done (by kernel_rfl) ?_ _
    all_goals
      go_wp2_with fail
      go_ret
      exact ⟨by kernel_rfl, hb1.drew⟩
theorem sum_law (S : ByteArray) (he : S.size % 2 = 0) : sumOf (S ++ putWord (sumOf S) 2) = 0 ∧ (S ++ putWord (sumOf S) 2).size = S.size + 2 := by
  have b := sumOf_bd S
  have hok : wordOk (sumOf S) 16 = true := wordOk_small (by decide) b.1 (show _ ≤ (2 : Int) ^ 16 - 1 by omega)
  have e : (putWord (sumOf S) 2).size = 2 := size_word (k := 2) (by decide) (by decide) hok
  refine ⟨?_, by rw [ByteArray.size_append, e]⟩
  have h := sum_up S ByteArray.empty he
  rw [show wordSum ByteArray.empty = 0 from rfl, Int.add_zero, ByteArray.append_empty] at h
  exact h
set_option maxRecDepth 100000 in
theorem fnSum_walk (v : Value) (n : Nat) (w : World) (hb : Bytes w v n) :
    Calls Try.prog 16 #[v] w fun e w' => e = .returned (.bool true) ∧ Below w.heap.size w w' := by
  have HB := hide hb
  clear hb
  by_cases hbig : 1048576 < n
  · have e0 : decide (1048576 < n) = true := by simpa using hbig
    have E0 := hide e0
    clear e0
    go_enter Try.func16, Try.ntmps16
    go_wp2_with fail
    refine (big_any v n _ HB.out).mono ?_
    rintro e w1 ⟨rfl, rfl⟩
    rw [E0.out]
    go_wp2_with fail
    go_ret
    exact ⟨rfl, Below.refl _ _⟩
  have e0 : decide (1048576 < n) = false := by simpa using hbig
  have E0 := hide e0
  have hn : n ≤ 1048576 := by omega
  clear e0
  go_enter Try.func16, Try.ntmps16
  go_wp2_with fail
  refine (big_any v n _ HB.out).mono ?_
  rintro e w1 ⟨rfl, rfl⟩
  rw [E0.out]
  (go_wp2_with fail; refine (drawSumOf_any v n _ hn HB.out).mono ?_; rintro e w1 ⟨⟨s, rfl, hs⟩, hb1⟩)
  by_cases hp : s.size % 2 = 0
  · have hs2 : ((s.size : Int) % 2 == 1) = false := by simp; omega
    go_wp2_with fail
    obtain ⟨S, hS⟩ : ∃ S, S = s := ⟨_, rfl⟩
    have hS1 : S.size ≤ 1001 := by rw [hS]; omega
    have hS2 : S.size % 2 = 0 := by rw [hS]; exact hp
    rw [← hS]
    clear hS hs2 hs hp
    have hsz : S.size ≤ 140737488355328 := by omega
    obtain ⟨l1, l2⟩ := sum_law S hS2
    obtain ⟨P, hP⟩ : ∃ P, P = putWord (sumOf S) 2 := ⟨_, rfl⟩
    rw [← hP] at l1 l2
    have HP := hide hP
    have L1 := hide (show (sumOf (S ++ P) == 0) = true by rw [l1]; rfl)
    have LZ := hide l1
    have hPs : P.size = 2 := by rw [ByteArray.size_append] at l2; omega
    have ht : (S ++ P).size ≤ 140737488355328 := by omega
    have HT := hide ht
    have L2 := hide l2
    clear hP l1 hS2 ht l2
    refine (impl_SumOf _ _ hsz).mono ?_
    rintro e w2 ⟨rfl, rfl⟩
    (go_wp2_with fail; refine (impl_PutWord _ _ _).mono ?_; rintro e w2 ⟨rfl, hb2⟩)
    rw [← HP.out]
    (go_wp2_with fail; refine (impl_SumRight _ _ HT.out).mono ?_; rintro e w3 ⟨rfl, rfl⟩)
    rw [L1.out]
    obtain ⟨T, hT⟩ : ∃ T, T = S ++ P := ⟨_, rfl⟩
    have l2 := L2.out
    have lz := LZ.out
    rw [← hT] at l2 lz ⊢
    have tz : T.size ≤ 1003 := by omega
    have tz0 : 2 ≤ T.size := by omega
    have LT := hide lz
    clear hT l2 lz HT L1 LZ L2
    (go_wp2_with fail; refine (impl_SumOf _ _ hsz).mono ?_; rintro e w3 ⟨rfl, rfl⟩)
    (go_wp2_with fail; refine (spec_SumOf _ _ hsz).mono ?_; rintro e w3 ⟨rfl, rfl⟩)
    obtain ⟨cap, w3, hconv, c1, c2, c3, c4, c5⟩ := conv_bytes (P := Try.prog) w2 9 55 5 T Try.underlying9 Try.underlying55 Try.underlying5
    have C4 := hide c4
    have C5 := hide c5
    have C2 := hide c2
    have hb13 : Below w.heap.size w w3 := Below.seq (Below.seq hb1 hb2) c3
    have g0 : w.heap.size ≤ w2.heap.size := (Below.seq hb1 hb2).size
    clear c2 c4 c5 hsz
    go_wp2_with fail
    refine (at0_any v n 1 _ hn (by omega) (HB.out.below hb13)).mono ?_
    rintro e w4 ⟨⟨x, rfl, x0, x1⟩, rfl⟩
    have tzi : (T.size : Int) ≠ 0 := by omega
    have m0 := Int.emod_nonneg x tzi
    have m1 := Int.emod_lt_of_pos x (show (0 : Int) < T.size by omega)
    obtain ⟨k, hk⟩ : ∃ k : Nat, x % (T.size : Int) = k := ⟨(x % (T.size : Int)).toNat, by omega⟩
    rw [hk] at m0 m1
    clear tzi
    go_wp2_with fail
    refine (at0_any v n 2 _ hn (by omega) (HB.out.below hb13)).mono ?_
    rintro e w4 ⟨⟨y, rfl, y0, y1⟩, rfl⟩
    have r0 := Int.emod_nonneg y (b := 255) (by decide)
    have r1 := Int.emod_lt_of_pos y (b := 255) (by decide)
    obtain ⟨q, hq⟩ : ∃ q, y % 255 = q := ⟨_, rfl⟩
    rw [hq] at r0 r1
    have cell := C4.out k (by omega)
    have frz := C5.out k (by omega)
    obtain ⟨b0, b1⟩ := byt_bd T k
    obtain ⟨u0, u1, u2⟩ := xor_u8 (byt T k) (1 + q) b0 b1 (by omega) (by omega)
    obtain ⟨z, hz⟩ : ∃ z, bits .xor .u8 (byt T k) (1 + q) = z := ⟨_, rfl⟩
    have Hbad := hide (show (sumOf (setB T k (bits .xor .u8 (byt T k) (1 + q))) == 0) = false by
      simpa using turned_bad T k _ (by omega) u0 u1 u2 LT.out)
    rw [hz] at Hbad
    have hback := conv_back (P := Try.prog) w3 55 9 5 T w2.heap.size k cap z Try.underlying55 Try.underlying5 Try.underlying9 (by omega) C4.out
    have hbs : (setB T k z).size ≤ 140737488355328 := by rw [size_setB]; omega
    have HBS := hide hbs
    clear hbs u0 u1 u2 b0 b1
    go_wp2_with fail
    refine (impl_SumRight _ _ HBS.out).mono ?_
    rintro e w4 ⟨rfl, rfl⟩
    rw [Hbad.out]
    go_wp2_with fail
    go_ret
    exact ⟨rfl, hb13.setCell g0 _⟩
  · have hs2 : ((s.size : Int) % 2 == 1) = true := by simp; omega
    go_wp2_with fail
    obtain ⟨S, hS⟩ : ∃ S, S = s ++ ⟨#[120]⟩ := ⟨_, rfl⟩
    have hS0 : S.size = s.size + 1 := by rw [hS, ByteArray.size_append]; rfl
    have hS1 : S.size ≤ 1001 := by omega
    have hS2 : S.size % 2 = 0 := by omega
    rw [← hS]
    clear hS hs2 hs hp hS0
    have hsz : S.size ≤ 140737488355328 := by omega
    obtain ⟨l1, l2⟩ := sum_law S hS2
    obtain ⟨P, hP⟩ : ∃ P, P = putWord (sumOf S) 2 := ⟨_, rfl⟩
    rw [← hP] at l1 l2
    have HP := hide hP
    have L1 := hide (show (sumOf (S ++ P) == 0) = true by rw [l1]; rfl)
    have LZ := hide l1
    have hPs : P.size = 2 := by rw [ByteArray.size_append] at l2; omega
    have ht : (S ++ P).size ≤ 140737488355328 := by omega
    have HT := hide ht
    have L2 := hide l2
    clear hP l1 hS2 ht l2
    refine (impl_SumOf _ _ hsz).mono ?_
    rintro e w2 ⟨rfl, rfl⟩
    (go_wp2_with fail; refine (impl_PutWord _ _ _).mono ?_; rintro e w2 ⟨rfl, hb2⟩)
    rw [← HP.out]
    (go_wp2_with fail; refine (impl_SumRight _ _ HT.out).mono ?_; rintro e w3 ⟨rfl, rfl⟩)
    rw [L1.out]
    obtain ⟨T, hT⟩ : ∃ T, T = S ++ P := ⟨_, rfl⟩
    have l2 := L2.out
    have lz := LZ.out
    rw [← hT] at l2 lz ⊢
    have tz : T.size ≤ 1003 := by omega
    have tz0 : 2 ≤ T.size := by omega
    have LT := hide lz
    clear hT l2 lz HT L1 LZ L2
    (go_wp2_with fail; refine (impl_SumOf _ _ hsz).mono ?_; rintro e w3 ⟨rfl, rfl⟩)
    (go_wp2_with fail; refine (spec_SumOf _ _ hsz).mono ?_; rintro e w3 ⟨rfl, rfl⟩)
    obtain ⟨cap, w3, hconv, c1, c2, c3, c4, c5⟩ := conv_bytes (P := Try.prog) w2 9 55 5 T Try.underlying9 Try.underlying55 Try.underlying5
    have C4 := hide c4
    have C5 := hide c5
    have C2 := hide c2
    have hb13 : Below w.heap.size w w3 := Below.seq (Below.seq hb1 hb2) c3
    have g0 : w.heap.size ≤ w2.heap.size := (Below.seq hb1 hb2).size
    clear c2 c4 c5 hsz
    go_wp2_with fail
    refine (at0_any v n 1 _ hn (by omega) (HB.out.below hb13)).mono ?_
    rintro e w4 ⟨⟨x, rfl, x0, x1⟩, rfl⟩
    have tzi : (T.size : Int) ≠ 0 := by omega
    have m0 := Int.emod_nonneg x tzi
    have m1 := Int.emod_lt_of_pos x (show (0 : Int) < T.size by omega)
    obtain ⟨k, hk⟩ : ∃ k : Nat, x % (T.size : Int) = k := ⟨(x % (T.size : Int)).toNat, by omega⟩
    rw [hk] at m0 m1
    clear tzi
    go_wp2_with fail
    refine (at0_any v n 2 _ hn (by omega) (HB.out.below hb13)).mono ?_
    rintro e w4 ⟨⟨y, rfl, y0, y1⟩, rfl⟩
    have r0 := Int.emod_nonneg y (b := 255) (by decide)
    have r1 := Int.emod_lt_of_pos y (b := 255) (by decide)
    obtain ⟨q, hq⟩ : ∃ q, y % 255 = q := ⟨_, rfl⟩
    rw [hq] at r0 r1
    have cell := C4.out k (by omega)
    have frz := C5.out k (by omega)
    obtain ⟨b0, b1⟩ := byt_bd T k
    obtain ⟨u0, u1, u2⟩ := xor_u8 (byt T k) (1 + q) b0 b1 (by omega) (by omega)
    obtain ⟨z, hz⟩ : ∃ z, bits .xor .u8 (byt T k) (1 + q) = z := ⟨_, rfl⟩
    have Hbad := hide (show (sumOf (setB T k (bits .xor .u8 (byt T k) (1 + q))) == 0) = false by
      simpa using turned_bad T k _ (by omega) u0 u1 u2 LT.out)
    rw [hz] at Hbad
    have hback := conv_back (P := Try.prog) w3 55 9 5 T w2.heap.size k cap z Try.underlying55 Try.underlying5 Try.underlying9 (by omega) C4.out
    have hbs : (setB T k z).size ≤ 140737488355328 := by rw [size_setB]; omega
    have HBS := hide hbs
    clear hbs u0 u1 u2 b0 b1
    go_wp2_with fail
    refine (impl_SumRight _ _ HBS.out).mono ?_
    rintro e w4 ⟨rfl, rfl⟩
    rw [Hbad.out]
    go_wp2_with fail
    go_ret
    exact ⟨rfl, hb13.setCell g0 _⟩
set_option maxRecDepth 100000 in
theorem fnSumParts_walk (v : Value) (n : Nat) (w : World) (hb : Bytes w v n) :
    Calls Try.prog 10 #[v] w fun e w' => e = .returned (.bool true) ∧ Below w.heap.size w w' := by
  have HB := hide hb
  clear hb
  by_cases hbig : 1048576 < n
  · have e0 : decide (1048576 < n) = true := by simpa using hbig
    have E0 := hide e0
    clear e0
    go_enter Try.func10, Try.ntmps10
    go_wp2_with fail
    refine (big_any v n _ HB.out).mono ?_
    rintro e w1 ⟨rfl, rfl⟩
    rw [E0.out]
    go_wp2_with fail
    go_ret
    exact ⟨rfl, Below.refl _ _⟩
  have e0 : decide (1048576 < n) = false := by simpa using hbig
  have E0 := hide e0
  have hn : n ≤ 1048576 := by omega
  clear e0
  go_enter Try.func10, Try.ntmps10
  go_wp2_with fail
  refine (big_any v n _ HB.out).mono ?_
  rintro e w1 ⟨rfl, rfl⟩
  rw [E0.out]
  (go_wp2_with fail; refine (drawWordSum_any v n _ hn HB.out).mono ?_; rintro e w1 ⟨⟨s, rfl, hs⟩, hb1⟩)
  (go_wp2_with fail; refine (tail_any v n _ hn (HB.out.below hb1)).mono ?_; rintro e w2 ⟨⟨u, rfl, hu⟩, rfl⟩)
  have HU := hide hu
  clear hu
  (go_wp2_with fail; refine (drawWordSum_any u (n - 1) _ (by omega) HU.out).mono ?_; rintro e w2 ⟨⟨t, rfl, ht⟩, hb2'⟩)
  have hb2 : Below w.heap.size w w2 := Below.seq hb1 hb2'
  by_cases hp : s.size % 2 = 0 <;> by_cases hq : t.size % 2 = 0
  · have p1 : ((s.size : Int) % 2 == 1) = false := by simp; omega
    have q1 : ((t.size : Int) % 2 == 1) = false := by simp; omega
    go_wp2_with fail
    obtain ⟨S, hS⟩ : ∃ S, S = s := ⟨_, rfl⟩
    obtain ⟨T, hT⟩ : ∃ T, T = t := ⟨_, rfl⟩
    have hs1 : S.size ≤ 1000 := by first | (rw [hS, ByteArray.size_extract]; omega) | (rw [hS]; omega)
    have hs2 : S.size % 2 = 0 := by first | (rw [hS, ByteArray.size_extract]; omega) | (rw [hS]; omega)
    have ht1 : T.size ≤ 1000 := by first | (rw [hT, ByteArray.size_extract]; omega) | (rw [hT]; omega)
    have ht2 : T.size % 2 = 0 := by first | (rw [hT, ByteArray.size_extract]; omega) | (rw [hT]; omega)
    rw [← hS, ← hT]
    clear hS hT hp hq p1 q1 hs ht
    have a1 := hide (wordSum_app S T hs2)
    have a2 := hide (wordSum_app T S ht2)
    have z1 : (S ++ T).size ≤ 140737488355328 := by rw [ByteArray.size_append]; omega
    have z2 : (T ++ S).size ≤ 140737488355328 := by rw [ByteArray.size_append]; omega
    have z3 : S.size ≤ 140737488355328 := by omega
    have z4 : T.size ≤ 140737488355328 := by omega
    obtain ⟨A, hA⟩ : ∃ A, A = wordSum S := ⟨_, rfl⟩
    obtain ⟨B, hB⟩ : ∃ B, B = wordSum T := ⟨_, rfl⟩
    have sA := ws_bd S S.size
    have sB := ws_bd T T.size
    have A0 : 0 ≤ A := by rw [hA]; exact sA.1
    have B0 : 0 ≤ B := by rw [hB]; exact sB.1
    have A1 : A ≤ 65280000 := by rw [hA]; have := sA.2; unfold wordSum; omega
    have B1 : B ≤ 65280000 := by rw [hB]; have := sB.2; unfold wordSum; omega
    clear sA sB
    have e1 : wordSum (S ++ T) = A + B := by rw [a1.out, hA, hB]
    have e2 : wordSum (T ++ S) = A + B := by rw [a2.out, hA, hB]; omega
    have f1 := hide (show sumOf (S ++ T) = 65535 - fold (A + B) by rw [sumOf, e1])
    have f2 := hide (show sumOf (T ++ S) = 65535 - fold (A + B) by rw [sumOf, e2])
    have E1 := hide e1
    have E2 := hide e2
    have HA := hide hA
    have HB' := hide hB
    have Z1 := hide z1
    have Z2 := hide z2
    have Z3 := hide z3
    have Z4 := hide z4
    clear e1 e2 hA hB a1 a2 z1 z2 z3 z4
    refine (impl_WordSum _ _ Z1.out).mono ?_
    rintro e w2 ⟨rfl, rfl⟩
    rw [E1.out]
    (go_wp2_with fail; refine (impl_WordSum _ _ Z2.out).mono ?_; rintro e w2 ⟨rfl, rfl⟩)
    rw [E2.out]
    (go_wp2_with fail; refine (impl_SumOf _ _ Z1.out).mono ?_; rintro e w2 ⟨rfl, rfl⟩)
    rw [f1.out]
    (go_wp2_with fail; refine (impl_SumOf _ _ Z2.out).mono ?_; rintro e w2 ⟨rfl, rfl⟩)
    rw [f2.out]
    (go_wp2_with fail; refine (impl_WordSum _ _ Z1.out).mono ?_; rintro e w2 ⟨rfl, rfl⟩)
    rw [E1.out]
    (go_wp2_with fail; refine (impl_WordSum _ _ Z3.out).mono ?_; rintro e w2 ⟨rfl, rfl⟩)
    rw [← HA.out]
    (go_wp2_with fail; refine (impl_WordSum _ _ Z4.out).mono ?_; rintro e w2 ⟨rfl, rfl⟩)
    rw [← HB'.out]
    (go_wp2_with fail; refine (impl_WordSum _ _ Z3.out).mono ?_; rintro e w2 ⟨rfl, rfl⟩)
    rw [← HA.out]
    (go_wp2_with fail; refine (spec_WordSum _ _ Z3.out).mono ?_; rintro e w2 ⟨rfl, rfl⟩)
    rw [← HA.out]
    go_wp2_with fail
    go_ret
    exact ⟨rfl, hb2⟩
  · have p1 : ((s.size : Int) % 2 == 1) = false := by simp; omega
    have q1 : ((t.size : Int) % 2 == 1) = true := by simp; omega
    have q2 : (1 : Int) ≤ (t.size : Int) := by omega
    go_wp2_with fail
    obtain ⟨S, hS⟩ : ∃ S, S = s := ⟨_, rfl⟩
    obtain ⟨T, hT⟩ : ∃ T, T = t.extract 1 t.size := ⟨_, rfl⟩
    have hs1 : S.size ≤ 1000 := by first | (rw [hS, ByteArray.size_extract]; omega) | (rw [hS]; omega)
    have hs2 : S.size % 2 = 0 := by first | (rw [hS, ByteArray.size_extract]; omega) | (rw [hS]; omega)
    have ht1 : T.size ≤ 1000 := by first | (rw [hT, ByteArray.size_extract]; omega) | (rw [hT]; omega)
    have ht2 : T.size % 2 = 0 := by first | (rw [hT, ByteArray.size_extract]; omega) | (rw [hT]; omega)
    rw [← hS, ← hT]
    clear hS hT hp hq p1 q1 hs ht
    have a1 := hide (wordSum_app S T hs2)
    have a2 := hide (wordSum_app T S ht2)
    have z1 : (S ++ T).size ≤ 140737488355328 := by rw [ByteArray.size_append]; omega
    have z2 : (T ++ S).size ≤ 140737488355328 := by rw [ByteArray.size_append]; omega
    have z3 : S.size ≤ 140737488355328 := by omega
    have z4 : T.size ≤ 140737488355328 := by omega
    obtain ⟨A, hA⟩ : ∃ A, A = wordSum S := ⟨_, rfl⟩
    obtain ⟨B, hB⟩ : ∃ B, B = wordSum T := ⟨_, rfl⟩
    have sA := ws_bd S S.size
    have sB := ws_bd T T.size
    have A0 : 0 ≤ A := by rw [hA]; exact sA.1
    have B0 : 0 ≤ B := by rw [hB]; exact sB.1
    have A1 : A ≤ 65280000 := by rw [hA]; have := sA.2; unfold wordSum; omega
    have B1 : B ≤ 65280000 := by rw [hB]; have := sB.2; unfold wordSum; omega
    clear sA sB
    have e1 : wordSum (S ++ T) = A + B := by rw [a1.out, hA, hB]
    have e2 : wordSum (T ++ S) = A + B := by rw [a2.out, hA, hB]; omega
    have f1 := hide (show sumOf (S ++ T) = 65535 - fold (A + B) by rw [sumOf, e1])
    have f2 := hide (show sumOf (T ++ S) = 65535 - fold (A + B) by rw [sumOf, e2])
    have E1 := hide e1
    have E2 := hide e2
    have HA := hide hA
    have HB' := hide hB
    have Z1 := hide z1
    have Z2 := hide z2
    have Z3 := hide z3
    have Z4 := hide z4
    clear e1 e2 hA hB a1 a2 z1 z2 z3 z4
    refine (impl_WordSum _ _ Z1.out).mono ?_
    rintro e w2 ⟨rfl, rfl⟩
    rw [E1.out]
    (go_wp2_with fail; refine (impl_WordSum _ _ Z2.out).mono ?_; rintro e w2 ⟨rfl, rfl⟩)
    rw [E2.out]
    (go_wp2_with fail; refine (impl_SumOf _ _ Z1.out).mono ?_; rintro e w2 ⟨rfl, rfl⟩)
    rw [f1.out]
    (go_wp2_with fail; refine (impl_SumOf _ _ Z2.out).mono ?_; rintro e w2 ⟨rfl, rfl⟩)
    rw [f2.out]
    (go_wp2_with fail; refine (impl_WordSum _ _ Z1.out).mono ?_; rintro e w2 ⟨rfl, rfl⟩)
    rw [E1.out]
    (go_wp2_with fail; refine (impl_WordSum _ _ Z3.out).mono ?_; rintro e w2 ⟨rfl, rfl⟩)
    rw [← HA.out]
    (go_wp2_with fail; refine (impl_WordSum _ _ Z4.out).mono ?_; rintro e w2 ⟨rfl, rfl⟩)
    rw [← HB'.out]
    (go_wp2_with fail; refine (impl_WordSum _ _ Z3.out).mono ?_; rintro e w2 ⟨rfl, rfl⟩)
    rw [← HA.out]
    (go_wp2_with fail; refine (spec_WordSum _ _ Z3.out).mono ?_; rintro e w2 ⟨rfl, rfl⟩)
    rw [← HA.out]
    go_wp2_with fail
    go_ret
    exact ⟨rfl, hb2⟩
  · have p1 : ((s.size : Int) % 2 == 1) = true := by simp; omega
    have q1 : ((t.size : Int) % 2 == 1) = false := by simp; omega
    have p2 : (1 : Int) ≤ (s.size : Int) := by omega
    go_wp2_with fail
    obtain ⟨S, hS⟩ : ∃ S, S = s.extract 1 s.size := ⟨_, rfl⟩
    obtain ⟨T, hT⟩ : ∃ T, T = t := ⟨_, rfl⟩
    have hs1 : S.size ≤ 1000 := by first | (rw [hS, ByteArray.size_extract]; omega) | (rw [hS]; omega)
    have hs2 : S.size % 2 = 0 := by first | (rw [hS, ByteArray.size_extract]; omega) | (rw [hS]; omega)
    have ht1 : T.size ≤ 1000 := by first | (rw [hT, ByteArray.size_extract]; omega) | (rw [hT]; omega)
    have ht2 : T.size % 2 = 0 := by first | (rw [hT, ByteArray.size_extract]; omega) | (rw [hT]; omega)
    rw [← hS, ← hT]
    clear hS hT hp hq p1 q1 hs ht
    have a1 := hide (wordSum_app S T hs2)
    have a2 := hide (wordSum_app T S ht2)
    have z1 : (S ++ T).size ≤ 140737488355328 := by rw [ByteArray.size_append]; omega
    have z2 : (T ++ S).size ≤ 140737488355328 := by rw [ByteArray.size_append]; omega
    have z3 : S.size ≤ 140737488355328 := by omega
    have z4 : T.size ≤ 140737488355328 := by omega
    obtain ⟨A, hA⟩ : ∃ A, A = wordSum S := ⟨_, rfl⟩
    obtain ⟨B, hB⟩ : ∃ B, B = wordSum T := ⟨_, rfl⟩
    have sA := ws_bd S S.size
    have sB := ws_bd T T.size
    have A0 : 0 ≤ A := by rw [hA]; exact sA.1
    have B0 : 0 ≤ B := by rw [hB]; exact sB.1
    have A1 : A ≤ 65280000 := by rw [hA]; have := sA.2; unfold wordSum; omega
    have B1 : B ≤ 65280000 := by rw [hB]; have := sB.2; unfold wordSum; omega
    clear sA sB
    have e1 : wordSum (S ++ T) = A + B := by rw [a1.out, hA, hB]
    have e2 : wordSum (T ++ S) = A + B := by rw [a2.out, hA, hB]; omega
    have f1 := hide (show sumOf (S ++ T) = 65535 - fold (A + B) by rw [sumOf, e1])
    have f2 := hide (show sumOf (T ++ S) = 65535 - fold (A + B) by rw [sumOf, e2])
    have E1 := hide e1
    have E2 := hide e2
    have HA := hide hA
    have HB' := hide hB
    have Z1 := hide z1
    have Z2 := hide z2
    have Z3 := hide z3
    have Z4 := hide z4
    clear e1 e2 hA hB a1 a2 z1 z2 z3 z4
    refine (impl_WordSum _ _ Z1.out).mono ?_
    rintro e w2 ⟨rfl, rfl⟩
    rw [E1.out]
    (go_wp2_with fail; refine (impl_WordSum _ _ Z2.out).mono ?_; rintro e w2 ⟨rfl, rfl⟩)
    rw [E2.out]
    (go_wp2_with fail; refine (impl_SumOf _ _ Z1.out).mono ?_; rintro e w2 ⟨rfl, rfl⟩)
    rw [f1.out]
    (go_wp2_with fail; refine (impl_SumOf _ _ Z2.out).mono ?_; rintro e w2 ⟨rfl, rfl⟩)
    rw [f2.out]
    (go_wp2_with fail; refine (impl_WordSum _ _ Z1.out).mono ?_; rintro e w2 ⟨rfl, rfl⟩)
    rw [E1.out]
    (go_wp2_with fail; refine (impl_WordSum _ _ Z3.out).mono ?_; rintro e w2 ⟨rfl, rfl⟩)
    rw [← HA.out]
    (go_wp2_with fail; refine (impl_WordSum _ _ Z4.out).mono ?_; rintro e w2 ⟨rfl, rfl⟩)
    rw [← HB'.out]
    (go_wp2_with fail; refine (impl_WordSum _ _ Z3.out).mono ?_; rintro e w2 ⟨rfl, rfl⟩)
    rw [← HA.out]
    (go_wp2_with fail; refine (spec_WordSum _ _ Z3.out).mono ?_; rintro e w2 ⟨rfl, rfl⟩)
    rw [← HA.out]
    go_wp2_with fail
    go_ret
    exact ⟨rfl, hb2⟩
  · have p1 : ((s.size : Int) % 2 == 1) = true := by simp; omega
    have q1 : ((t.size : Int) % 2 == 1) = true := by simp; omega
    have p2 : (1 : Int) ≤ (s.size : Int) := by omega
    have q2 : (1 : Int) ≤ (t.size : Int) := by omega
    go_wp2_with fail
    obtain ⟨S, hS⟩ : ∃ S, S = s.extract 1 s.size := ⟨_, rfl⟩
    obtain ⟨T, hT⟩ : ∃ T, T = t.extract 1 t.size := ⟨_, rfl⟩
    have hs1 : S.size ≤ 1000 := by first | (rw [hS, ByteArray.size_extract]; omega) | (rw [hS]; omega)
    have hs2 : S.size % 2 = 0 := by first | (rw [hS, ByteArray.size_extract]; omega) | (rw [hS]; omega)
    have ht1 : T.size ≤ 1000 := by first | (rw [hT, ByteArray.size_extract]; omega) | (rw [hT]; omega)
    have ht2 : T.size % 2 = 0 := by first | (rw [hT, ByteArray.size_extract]; omega) | (rw [hT]; omega)
    rw [← hS, ← hT]
    clear hS hT hp hq p1 q1 hs ht
    have a1 := hide (wordSum_app S T hs2)
    have a2 := hide (wordSum_app T S ht2)
    have z1 : (S ++ T).size ≤ 140737488355328 := by rw [ByteArray.size_append]; omega
    have z2 : (T ++ S).size ≤ 140737488355328 := by rw [ByteArray.size_append]; omega
    have z3 : S.size ≤ 140737488355328 := by omega
    have z4 : T.size ≤ 140737488355328 := by omega
    obtain ⟨A, hA⟩ : ∃ A, A = wordSum S := ⟨_, rfl⟩
    obtain ⟨B, hB⟩ : ∃ B, B = wordSum T := ⟨_, rfl⟩
    have sA := ws_bd S S.size
    have sB := ws_bd T T.size
    have A0 : 0 ≤ A := by rw [hA]; exact sA.1
    have B0 : 0 ≤ B := by rw [hB]; exact sB.1
    have A1 : A ≤ 65280000 := by rw [hA]; have := sA.2; unfold wordSum; omega
    have B1 : B ≤ 65280000 := by rw [hB]; have := sB.2; unfold wordSum; omega
    clear sA sB
    have e1 : wordSum (S ++ T) = A + B := by rw [a1.out, hA, hB]
    have e2 : wordSum (T ++ S) = A + B := by rw [a2.out, hA, hB]; omega
    have f1 := hide (show sumOf (S ++ T) = 65535 - fold (A + B) by rw [sumOf, e1])
    have f2 := hide (show sumOf (T ++ S) = 65535 - fold (A + B) by rw [sumOf, e2])
    have E1 := hide e1
    have E2 := hide e2
    have HA := hide hA
    have HB' := hide hB
    have Z1 := hide z1
    have Z2 := hide z2
    have Z3 := hide z3
    have Z4 := hide z4
    clear e1 e2 hA hB a1 a2 z1 z2 z3 z4
    refine (impl_WordSum _ _ Z1.out).mono ?_
    rintro e w2 ⟨rfl, rfl⟩
    rw [E1.out]
    (go_wp2_with fail; refine (impl_WordSum _ _ Z2.out).mono ?_; rintro e w2 ⟨rfl, rfl⟩)
    rw [E2.out]
    (go_wp2_with fail; refine (impl_SumOf _ _ Z1.out).mono ?_; rintro e w2 ⟨rfl, rfl⟩)
    rw [f1.out]
    (go_wp2_with fail; refine (impl_SumOf _ _ Z2.out).mono ?_; rintro e w2 ⟨rfl, rfl⟩)
    rw [f2.out]
    (go_wp2_with fail; refine (impl_WordSum _ _ Z1.out).mono ?_; rintro e w2 ⟨rfl, rfl⟩)
    rw [E1.out]
    (go_wp2_with fail; refine (impl_WordSum _ _ Z3.out).mono ?_; rintro e w2 ⟨rfl, rfl⟩)
    rw [← HA.out]
    (go_wp2_with fail; refine (impl_WordSum _ _ Z4.out).mono ?_; rintro e w2 ⟨rfl, rfl⟩)
    rw [← HB'.out]
    (go_wp2_with fail; refine (impl_WordSum _ _ Z3.out).mono ?_; rintro e w2 ⟨rfl, rfl⟩)
    rw [← HA.out]
    (go_wp2_with fail; refine (spec_WordSum _ _ Z3.out).mono ?_; rintro e w2 ⟨rfl, rfl⟩)
    rw [← HA.out]
    go_wp2_with fail
    go_ret
    exact ⟨rfl, hb2⟩
end Go.Proofs.Ytcapkadknabfiaa
