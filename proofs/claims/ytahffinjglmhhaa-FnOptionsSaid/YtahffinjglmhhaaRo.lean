/-
  Options read from their text: the reading as a plain function, and that it gives back what was written.
-/
import Derived.Test.YtahffinjglmhhaaOText
import Derived.Test.YtahffinjglmhhaaApp
namespace Go.Proofs.Ytahffinjglmhhaa
open Go.RowKit
set_option linter.unusedVariables false

structure Opt where
  m : Int
  s : Int
  k : Bool
  st : Bool
  v : Int
  y : Int
def noOpt : Opt := ⟨0, -1, false, false, 0, 0⟩
/-- One option laid: its kind at a, its length n. -/
def layO (s : ByteArray) (a n : Nat) (o : Opt) : Opt :=
  if byt s a = 2 ∧ n = 4 then { o with m := gw s (a + 2) 2 }
  else if byt s a = 3 ∧ n = 3 then { o with s := min (byt s (a + 2)) 14 }
  else if byt s a = 4 ∧ n = 2 then { o with k := true }
  else if byt s a = 8 ∧ n = 10 then { o with st := true, v := gw s (a + 2) 4, y := gw s (a + 6) 4 }
  else o
/-- The options from a on. -/
def ro (s : ByteArray) (a : Nat) (o : Opt) : Option Opt :=
  if h : a < s.size then
    if byt s a = 0 then some o
    else if byt s a = 1 then ro s (a + 1) o
    else if s.size ≤ a + 1 then none
    else if h2 : byt s (a + 1) < 2 ∨ (s.size : Int) - a < byt s (a + 1) then none
    else ro s (a + (byt s (a + 1)).toNat) (layO s a (byt s (a + 1)).toNat o)
  else some o
  termination_by s.size - a
  decreasing_by all_goals omega
theorem ro_end (S : ByteArray) (a : Nat) (o : Opt) (h : S.size ≤ a) : ro S a o = some o := by
  rw [ro, dif_neg (by omega)]
theorem ro_zero (S : ByteArray) (a : Nat) (o : Opt) (h : a < S.size) (h0 : byt S a = 0) : ro S a o = some o := by
  rw [ro, dif_pos h, if_pos h0]
theorem ro_one (S : ByteArray) (a : Nat) (o : Opt) (h : a < S.size) (h1 : byt S a = 1) : ro S a o = ro S (a + 1) o := by
  rw [ro, dif_pos h, if_neg (by omega), if_pos h1]
theorem ro_cut (S : ByteArray) (a : Nat) (o : Opt) (h : a < S.size) (h0 : byt S a ≠ 0) (h1 : byt S a ≠ 1) (h2 : S.size ≤ a + 1) : ro S a o = none := by
  rw [ro, dif_pos h, if_neg h0, if_neg h1, if_pos h2]
theorem ro_bad (S : ByteArray) (a : Nat) (o : Opt) (h : a < S.size) (h0 : byt S a ≠ 0) (h1 : byt S a ≠ 1) (h3 : byt S (a + 1) < 2 ∨ (S.size : Int) - a < byt S (a + 1)) : ro S a o = none := by
  by_cases h2 : S.size ≤ a + 1
  · exact ro_cut S a o h h0 h1 h2
  · rw [ro, dif_pos h, if_neg h0, if_neg h1, if_neg h2, dif_pos h3]
theorem ro_opt (S : ByteArray) (a n : Nat) (o : Opt) (h0 : byt S a ≠ 0) (h1 : byt S a ≠ 1) (hn : byt S (a + 1) = n) (n2 : 2 ≤ n) (h : a + n ≤ S.size) : ro S a o = ro S (a + n) (layO S a n o) := by
  have e : (byt S (a + 1)).toNat = n := by omega
  rw [ro, dif_pos (by omega), if_neg h0, if_neg h1, if_neg (by omega), dif_neg (by omega), e]
theorem ro_app (S x y : ByteArray) (hS : S = x ++ y) (o : Opt) (k n : Nat) (hk : byt y 0 = k) (k2 : 2 ≤ k) (hn : byt y 1 = n) (n2 : 2 ≤ n) (h : n ≤ y.size) : ro S x.size o = ro S (x.size + n) (layO S x.size n o) := by
  have e0 : byt S (x.size + 0) = byt y 0 := byt_mid hS rfl 0
  have e1 : byt S (x.size + 1) = byt y 1 := byt_mid hS rfl 1
  rw [Nat.add_zero] at e0
  exact ro_opt S x.size n o (by omega) (by omega) (by omega) n2 (by rw [hS, ByteArray.size_append]; omega)
theorem two_size (a b : UInt8) : (⟨#[a, b]⟩ : ByteArray).size = 2 := rfl
theorem two_byt (a b : UInt8) (y : ByteArray) : byt (⟨#[a, b]⟩ ++ y) 0 = a.toNat ∧ byt (⟨#[a, b]⟩ ++ y) 1 = b.toNat := by
  constructor
  · rw [byt_app_lt _ _ _ (by rw [two_size]; decide)]; rfl
  · rw [byt_app_lt _ _ _ (by rw [two_size]; decide)]; rfl
/-! The four options, read as they were written. -/
theorem ro_mss {S x y : ByteArray} {m : Int} (hS : S = x ++ (⟨#[2, 4]⟩ ++ putWord m 2) ++ y) (hm : wordOk m 16 = true) (o : Opt) :
    ro S x.size o = ro S (x ++ (⟨#[2, 4]⟩ ++ putWord m 2)).size { o with m := m } := by
  have e : (putWord m 2).size = 2 := size_word (k := 2) (by decide) (by decide) hm
  have hS1 : S = x ++ (⟨#[2, 4]⟩ ++ (putWord m 2 ++ y)) := by rw [hS]; simp only [ByteArray.append_assoc]
  obtain ⟨b0, b1⟩ := two_byt 2 4 (putWord m 2 ++ y)
  have hb : byt S (x.size + 0) = 2 := (byt_mid hS1 rfl 0).trans b0
  rw [Nat.add_zero] at hb
  have hg : gw S (x.size + 2) 2 = m := gw_mid (x := x ++ ⟨#[2, 4]⟩) (y := y) (k := 2) (by rw [hS]; simp only [ByteArray.append_assoc]; rfl) (by rw [ByteArray.size_append, two_size]) (by decide) (by decide) hm
  rw [ro_app S x _ hS1 o 2 4 b0 (by decide) b1 (by decide) (by rw [ByteArray.size_append, ByteArray.size_append, two_size, e]; omega)]
  rw [layO, if_pos ⟨hb, rfl⟩, hg, ByteArray.size_append, ByteArray.size_append, two_size, e]
theorem ro_scale {S x y : ByteArray} {s : Int} (hS : S = x ++ (⟨#[3, 3]⟩ ++ putWord s 1) ++ y) (h0 : 0 ≤ s) (h1 : s ≤ 14) (o : Opt) :
    ro S x.size o = ro S (x ++ (⟨#[3, 3]⟩ ++ putWord s 1)).size { o with s := s } := by
  have hm : wordOk s 8 = true := wordOk_small (by decide) h0 (show s ≤ (2 : Int) ^ 8 - 1 by omega)
  have e : (putWord s 1).size = 1 := size_word (k := 1) (by decide) (by decide) hm
  have hS1 : S = x ++ (⟨#[3, 3]⟩ ++ (putWord s 1 ++ y)) := by rw [hS]; simp only [ByteArray.append_assoc]
  obtain ⟨b0, b1⟩ := two_byt 3 3 (putWord s 1 ++ y)
  have hb : byt S (x.size + 0) = 3 := (byt_mid hS1 rfl 0).trans b0
  rw [Nat.add_zero] at hb
  have hg : gw S (x.size + 2) 1 = s := gw_mid (x := x ++ ⟨#[3, 3]⟩) (y := y) (k := 1) (by rw [hS]; simp only [ByteArray.append_assoc]; rfl) (by rw [ByteArray.size_append, two_size]) (by decide) (by decide) hm
  rw [byt_gw] at hg
  rw [ro_app S x _ hS1 o 3 3 b0 (by decide) b1 (by decide) (by rw [ByteArray.size_append, ByteArray.size_append, two_size, e]; omega)]
  rw [layO, if_neg (by omega), if_pos ⟨hb, rfl⟩, hg, ByteArray.size_append, ByteArray.size_append, two_size, e, show min s 14 = s by omega]
theorem ro_sack {S x y : ByteArray} (hS : S = x ++ ⟨#[4, 2]⟩ ++ y) (o : Opt) : ro S x.size o = ro S (x ++ ⟨#[4, 2]⟩).size { o with k := true } := by
  have hS1 : S = x ++ (⟨#[4, 2]⟩ ++ y) := by rw [hS, ByteArray.append_assoc]
  obtain ⟨b0, b1⟩ := two_byt 4 2 y
  have hb : byt S (x.size + 0) = 4 := (byt_mid hS1 rfl 0).trans b0
  rw [Nat.add_zero] at hb
  rw [ro_app S x _ hS1 o 4 2 b0 (by decide) b1 (by decide) (by rw [ByteArray.size_append, two_size]; omega)]
  rw [layO, if_neg (by omega), if_neg (by omega), if_pos ⟨hb, rfl⟩, ByteArray.size_append, two_size]
theorem ro_stamp {S x y : ByteArray} {v u : Int} (hS : S = x ++ (⟨#[8, 10]⟩ ++ putWord v 4 ++ putWord u 4) ++ y) (hv : wordOk v 32 = true) (hu : wordOk u 32 = true) (o : Opt) :
    ro S x.size o = ro S (x ++ (⟨#[8, 10]⟩ ++ putWord v 4 ++ putWord u 4)).size { o with st := true, v := v, y := u } := by
  have e1 : (putWord v 4).size = 4 := size_word (k := 4) (by decide) (by decide) hv
  have e2 : (putWord u 4).size = 4 := size_word (k := 4) (by decide) (by decide) hu
  have hS1 : S = x ++ (⟨#[8, 10]⟩ ++ (putWord v 4 ++ putWord u 4 ++ y)) := by rw [hS]; simp only [ByteArray.append_assoc]
  obtain ⟨b0, b1⟩ := two_byt 8 10 (putWord v 4 ++ putWord u 4 ++ y)
  have hb : byt S (x.size + 0) = 8 := (byt_mid hS1 rfl 0).trans b0
  rw [Nat.add_zero] at hb
  have hg : gw S (x.size + 2) 4 = v := gw_mid (x := x ++ ⟨#[8, 10]⟩) (y := putWord u 4 ++ y) (k := 4) (by rw [hS]; simp only [ByteArray.append_assoc]; rfl) (by rw [ByteArray.size_append, two_size]) (by decide) (by decide) hv
  have hg2 : gw S (x.size + 6) 4 = u := gw_mid (x := x ++ ⟨#[8, 10]⟩ ++ putWord v 4) (y := y) (k := 4) (by rw [hS]; simp only [ByteArray.append_assoc]; rfl) (by rw [ByteArray.size_append, ByteArray.size_append, two_size, e1]) (by decide) (by decide) hu
  rw [ro_app S x _ hS1 o 8 10 b0 (by decide) b1 (by decide) (by simp only [ByteArray.size_append, two_size, e1, e2]; omega)]
  rw [layO, if_neg (by omega), if_neg (by omega), if_neg (by omega), if_pos ⟨hb, rfl⟩, hg, hg2]
  simp only [ByteArray.size_append, two_size, e1, e2]
theorem ro_ones (j : Nat) : ∀ (S x : ByteArray) (o : Opt), S = x ++ ones j → ro S x.size o = some o := by
  induction j with
  | zero => intro S x o h; rw [ones_zero] at h; exact ro_end S _ o (by rw [h]; exact Nat.le_refl _)
  | succ j ih =>
    intro S x o h
    have hj : ones (j + 1) = ⟨#[1]⟩ ++ ones j := rfl
    rw [hj, ← ByteArray.append_assoc] at h
    have hs : (x ++ ⟨#[1]⟩).size = x.size + 1 := by rw [ByteArray.size_append]; rfl
    have hb : byt S (x.size + 0) = 1 := by
      rw [h, ByteArray.append_assoc, byt_app_ge, byt_app_lt _ _ _ (by decide)]; rfl
    rw [Nat.add_zero] at hb
    rw [ro_one S _ o (by rw [h, ByteArray.size_append, hs]; omega) hb, ← hs]
    exact ih S _ o h
def r1 (m : Int) : ByteArray := if m = 0 then ⟨#[]⟩ else ⟨#[]⟩ ++ (⟨#[2, 4]⟩ ++ putWord m 2)
def r2 (m s : Int) : ByteArray := if s = -1 then r1 m else r1 m ++ (⟨#[3, 3]⟩ ++ putWord s 1)
theorem optR_eq (m s : Int) (k : Bool) : optR m s k = if k then r2 m s ++ ⟨#[4, 2]⟩ else r2 m s := rfl
theorem optOk_parts {m s : Int} {st : Bool} {v y : Int} (h : optOk m s st v y = true) : wordOk m 16 = true ∧ -1 ≤ s ∧ s ≤ 14 ∧ wordOk v 32 = true ∧ wordOk y 32 = true ∧ (st = false → v = 0 ∧ y = 0) := by
  obtain ⟨a, b, c⟩ := optOk_s h
  simp only [optOk, Bool.and_eq_true] at h
  obtain ⟨⟨⟨⟨_, h1⟩, _⟩, h2⟩, h3⟩ := h
  exact ⟨h1, a, b, h2, h3, c⟩
/-- What was written is read back. -/
theorem ro_text {m s : Int} {k st : Bool} {v y : Int} (h : optOk m s st v y = true) : ro (optText m s k st v y) 0 noOpt = some ⟨m, s, k, st, v, y⟩ := by
  obtain ⟨hm, hs0, hs1, hv, hy, hst⟩ := optOk_parts h
  obtain ⟨S, hS⟩ : ∃ S, S = optText m s k st v y := ⟨_, rfl⟩
  have e0 : S = optX m s k st v y ++ ones ((4 - (optX m s k st v y).size % 4) % 4) := by rw [hS, optText, if_pos h, padd]
  obtain ⟨z4, h4⟩ : ∃ z, S = optX m s k st v y ++ z := ⟨_, e0⟩
  obtain ⟨z3, h3⟩ : ∃ z, S = optR m s k ++ z := by
    unfold optX at h4
    split at h4
    · exact ⟨_, by rw [h4, ByteArray.append_assoc]⟩
    · exact ⟨_, h4⟩
  obtain ⟨z2, h2⟩ : ∃ z, S = r2 m s ++ z := by
    rw [optR_eq] at h3
    split at h3
    · exact ⟨_, by rw [h3, ByteArray.append_assoc]⟩
    · exact ⟨_, h3⟩
  obtain ⟨z1, h1⟩ : ∃ z, S = r1 m ++ z := by
    unfold r2 at h2
    split at h2
    · exact ⟨_, h2⟩
    · exact ⟨_, by rw [h2, ByteArray.append_assoc]⟩
  rw [← hS]
  have s1 : ro S 0 noOpt = ro S (r1 m).size { noOpt with m := m } := by
    unfold r1 at h1 ⊢
    split
    · rename_i e; subst e; rfl
    · rename_i e
      rw [if_neg e] at h1
      exact ro_mss (x := ⟨#[]⟩) h1 hm noOpt
  have s2 : ro S (r1 m).size { noOpt with m := m } = ro S (r2 m s).size { noOpt with m := m, s := s } := by
    unfold r2 at h2 ⊢
    split
    · rename_i e; subst e; rfl
    · rename_i e
      rw [if_neg e] at h2
      exact ro_scale h2 (by omega) hs1 _
  have s3 : ro S (r2 m s).size { noOpt with m := m, s := s } = ro S (optR m s k).size { noOpt with m := m, s := s, k := k } := by
    rw [optR_eq] at h3 ⊢
    cases k
    · rfl
    · exact ro_sack h3 _
  have s4 : ro S (optR m s k).size { noOpt with m := m, s := s, k := k } = ro S (optX m s k st v y).size ⟨m, s, k, st, v, y⟩ := by
    unfold optX at h4 ⊢
    cases st
    · obtain ⟨rfl, rfl⟩ := hst rfl
      rfl
    · exact ro_stamp h4 hv hy _
  rw [s1, s2, s3, s4]
  exact ro_ones _ S _ _ e0
/-- What is read is right. -/
def okO (o : Opt) : Prop := optOk o.m o.s o.st o.v o.y = true
theorem gw_wordOk (s : ByteArray) (a k : Nat) (h1 : 1 ≤ k) (h6 : k ≤ 6) : wordOk (gw s a k) (8 * (k : Int)) = true := gw_ok s a k h1 h6
theorem layO_ok (s : ByteArray) (a n : Nat) (o : Opt) (h : okO o) : okO (layO s a n o) := by
  have h' := h
  unfold okO optOk at h
  simp only [Bool.and_eq_true] at h
  obtain ⟨⟨⟨⟨a1, a2⟩, a3⟩, a4⟩, a5⟩ := h
  unfold layO
  split
  · unfold okO optOk
    simp only [Bool.and_eq_true]
    exact ⟨⟨⟨⟨a1, gw_wordOk s (a + 2) 2 (by decide) (by decide)⟩, a3⟩, a4⟩, a5⟩
  split
  · obtain ⟨b0, b1⟩ := byt_bd s (a + 2)
    unfold okO optOk
    simp only [Bool.and_eq_true]
    exact ⟨⟨⟨⟨a1, a2⟩, by rw [rng_true]; omega⟩, a4⟩, a5⟩
  split
  · exact h'
  split
  · unfold okO optOk
    simp only [Bool.and_eq_true]
    exact ⟨⟨⟨⟨rfl, a2⟩, a3⟩, gw_wordOk s (a + 2) 4 (by decide) (by decide)⟩, gw_wordOk s (a + 6) 4 (by decide) (by decide)⟩
  · exact h'
theorem noOpt_ok : okO noOpt := by show optOk 0 (-1) false 0 0 = true; decide
theorem ro_ok (s : ByteArray) : ∀ (d a : Nat) (o p : Opt), s.size - a ≤ d → okO o → ro s a o = some p → okO p := by
  intro d
  induction d with
  | zero =>
    intro a o p hd ho h
    rw [ro_end s a o (by omega)] at h
    cases h
    exact ho
  | succ d ih =>
    intro a o p hd ho h
    by_cases ha : a < s.size
    · rw [ro, dif_pos ha] at h
      split at h
      · cases h; exact ho
      split at h
      · exact ih _ _ _ (by omega) ho h
      split at h
      · cases h
      split at h
      · cases h
      · exact ih _ _ _ (by omega) (layO_ok s a _ o ho) h
    · rw [ro_end s a o (by omega)] at h
      cases h
      exact ho
end Go.Proofs.Ytahffinjglmhhaa
