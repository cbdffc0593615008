/-
  Packets: what was written is read back, whatever stands behind it; with a byte of the head turned nothing is read (plain).
-/
import Derived.Test.YtahffinjglmhhaaRdP
namespace Go.Proofs.Ytahffinjglmhhaa
open Go.RowKit
set_option linter.unusedVariables false

theorem and191 : ∀ x : Fin 2, bits .and .u8 ((x.val * 64 : Nat) : Int) 191 = 0 := by decide
set_option maxHeartbeats 1000000 in
theorem rt_pkt {s d t p i : Int} {b : ByteArray} (z : ByteArray) (h : pktOk s d t p i b = true) :
    (pktText s d t p i b ++ z).size = 20 + b.size + z.size ∧ byt (pktText s d t p i b ++ z) 0 = 69 ∧ sumOf ((pktText s d t p i b ++ z).extract 0 20) = 0 ∧ getV (pktText s d t p i b ++ z) 2 2 = 20 + (b.size : Int) ∧
    byt (pktText s d t p i b ++ z) 6 = 0 ∧ byt (pktText s d t p i b ++ z) 7 = 0 ∧ byt (pktText s d t p i b ++ z) 8 = t ∧ byt (pktText s d t p i b ++ z) 9 = p ∧ getV (pktText s d t p i b ++ z) 4 2 = i ∧
    getV (pktText s d t p i b ++ z) 12 4 = s ∧ getV (pktText s d t p i b ++ z) 16 4 = d ∧ (pktText s d t p i b ++ z).extract 20 (20 + b.size) = b := by
  obtain ⟨h1, h2, h3, h4, h5, h6⟩ := pktOk_parts h
  obtain ⟨c1, c2⟩ := rng_true.1 h3
  have hl : wordOk (20 + (b.size : Int)) 16 = true := wordOk_small (by decide) (by omega) (show _ ≤ (2 : Int) ^ 16 - 1 by omega)
  have ht : wordOk t 8 = true := wordOk_small (by decide) (by omega) (show _ ≤ (2 : Int) ^ 8 - 1 by omega)
  have e1 : (putWord (20 + (b.size : Int)) 2).size = 2 := size_word (k := 2) (by decide) (by decide) hl
  have e2 : (putWord i 2).size = 2 := size_word (k := 2) (by decide) (by decide) h5
  have e3 : (putWord t 1).size = 1 := size_word (k := 1) (by decide) (by decide) ht
  have e4 : (putWord p 1).size = 1 := size_word (k := 1) (by decide) (by decide) h4
  have e5 : (putWord s 4).size = 4 := size_word (k := 4) (by decide) (by decide) h1
  have e6 : (putWord d 4).size = 4 := size_word (k := 4) (by decide) (by decide) h2
  have sb := sumOf_bd (pkF t p i b.size ++ pkB s d)
  have hs : wordOk (sumOf (pkF t p i b.size ++ pkB s d)) 16 = true := wordOk_small (by decide) (by omega) (show _ ≤ (2 : Int) ^ 16 - 1 by omega)
  have e7 : (putWord (sumOf (pkF t p i b.size ++ pkB s d)) 2).size = 2 := size_word (k := 2) (by decide) (by decide) hs
  have eF := pkF_size h
  have eB : (pkB s d).size = 8 := by rw [pkB, ByteArray.size_append, e5, e6]
  have k1 : (⟨#[69, 0]⟩ : ByteArray).size = 2 := rfl
  have k2 : (⟨#[0, 0]⟩ : ByteArray).size = 2 := rfl
  obtain ⟨S, hS⟩ : ∃ S, S = pktText s d t p i b ++ z := ⟨_, rfl⟩
  obtain ⟨v, hv⟩ : ∃ v, v = putWord (sumOf (pkF t p i b.size ++ pkB s d)) 2 := ⟨_, rfl⟩
  have e0 : S = pkF t p i b.size ++ v ++ pkB s d ++ (b ++ z) := by rw [hS, pktText, if_pos h, hv]; simp only [ByteArray.append_assoc]
  rw [← hv] at e7
  have e : S = ⟨#[69, 0]⟩ ++ (putWord (20 + (b.size : Int)) 2 ++ (putWord i 2 ++ (⟨#[0, 0]⟩ ++ (putWord t 1 ++ (putWord p 1 ++ (v ++ (putWord s 4 ++ (putWord d 4 ++ (b ++ z))))))))) := by
    rw [e0, pkF, pkB]; simp only [ByteArray.append_assoc]
  rw [← hS]
  refine ⟨?_, ?_, ?_, ?_, ?_, ?_, ?_, ?_, ?_, ?_, ?_, ?_⟩
  · rw [e]; simp only [ByteArray.size_append, e1, e2, e3, e4, e5, e6, e7, k1, k2]; omega
  · rw [e, byt_app_lt _ _ _ (by rw [k1]; decide)]; rfl
  · have ex : S.extract 0 20 = pkF t p i b.size ++ v ++ pkB s d := by
      rw [e0]; exact ByteArray.extract_append_eq_left (by simp only [ByteArray.size_append, eF, e7, eB])
    have es : sumOf (pkF t p i b.size ++ pkB s d) = 65535 - fold (wordSum (pkF t p i b.size) + wordSum (pkB s d)) := by
      rw [sumOf, wordSum_app _ _ (by rw [eF])]
    rw [ex, hv, es]
    exact sum_up _ _ (by rw [eF])
  · exact getV_mid (x := ⟨#[69, 0]⟩) (k := 2) (a := 2) e rfl (by decide) (by decide) hl
  · have e' : S = (⟨#[69, 0]⟩ ++ putWord (20 + (b.size : Int)) 2 ++ putWord i 2) ++ (⟨#[0, 0]⟩ ++ (putWord t 1 ++ (putWord p 1 ++ (v ++ (putWord s 4 ++ (putWord d 4 ++ (b ++ z))))))) := by rw [e]; simp only [ByteArray.append_assoc]
    exact (byt_mid e' (a := 6) (by simp only [ByteArray.size_append, k1, e1, e2]) 0).trans (by rw [byt_app_lt _ _ _ (by rw [k2]; decide)]; rfl)
  · have e' : S = (⟨#[69, 0]⟩ ++ putWord (20 + (b.size : Int)) 2 ++ putWord i 2) ++ (⟨#[0, 0]⟩ ++ (putWord t 1 ++ (putWord p 1 ++ (v ++ (putWord s 4 ++ (putWord d 4 ++ (b ++ z))))))) := by rw [e]; simp only [ByteArray.append_assoc]
    exact (byt_mid e' (a := 6) (by simp only [ByteArray.size_append, k1, e1, e2]) 1).trans (by rw [byt_app_lt _ _ _ (by rw [k2]; decide)]; rfl)
  · rw [← byt_gw]
    exact gw_mid (x := ⟨#[69, 0]⟩ ++ putWord (20 + (b.size : Int)) 2 ++ putWord i 2 ++ ⟨#[0, 0]⟩) (k := 1) (a := 8) (y := putWord p 1 ++ (v ++ (putWord s 4 ++ (putWord d 4 ++ (b ++ z))))) (by rw [e]; simp only [ByteArray.append_assoc]; rfl) (by simp only [ByteArray.size_append, k1, k2, e1, e2]) (by decide) (by decide) ht
  · rw [← byt_gw]
    exact gw_mid (x := ⟨#[69, 0]⟩ ++ putWord (20 + (b.size : Int)) 2 ++ putWord i 2 ++ ⟨#[0, 0]⟩ ++ putWord t 1) (k := 1) (a := 9) (y := v ++ (putWord s 4 ++ (putWord d 4 ++ (b ++ z)))) (by rw [e]; simp only [ByteArray.append_assoc]; rfl) (by simp only [ByteArray.size_append, k1, k2, e1, e2, e3]) (by decide) (by decide) h4
  · exact getV_mid (x := ⟨#[69, 0]⟩ ++ putWord (20 + (b.size : Int)) 2) (k := 2) (a := 4) (y := ⟨#[0, 0]⟩ ++ (putWord t 1 ++ (putWord p 1 ++ (v ++ (putWord s 4 ++ (putWord d 4 ++ (b ++ z))))))) (by rw [e]; simp only [ByteArray.append_assoc]; rfl) (by simp only [ByteArray.size_append, k1, e1]) (by decide) (by decide) h5
  · exact getV_mid (x := pkF t p i b.size ++ v) (k := 4) (a := 12) (y := putWord d 4 ++ (b ++ z)) (by rw [e0, pkB]; simp only [ByteArray.append_assoc]; rfl) (by simp only [ByteArray.size_append, eF, e7]) (by decide) (by decide) h1
  · exact getV_mid (x := pkF t p i b.size ++ v ++ putWord s 4) (k := 4) (a := 16) (y := b ++ z) (by rw [e0, pkB]; simp only [ByteArray.append_assoc]; rfl) (by simp only [ByteArray.size_append, eF, e7, e5]) (by decide) (by decide) h2
  · exact mid_of (x := pkF t p i b.size ++ v ++ pkB s d) e0 (by simp only [ByteArray.size_append, eF, e7, eB]) (by simp only [ByteArray.size_append, eF, e7, eB])
theorem rt_pkt_C {s d t p i : Int} {b : ByteArray} (z : ByteArray) (h : pktOk s d t p i b = true) : rpC (pktText s d t p i b ++ z) = 0 := by
  obtain ⟨a1, a2, a3, a4, a5, a6, a7, a8, a9, a10, a11, a12⟩ := rt_pkt z h
  obtain ⟨h1, h2, h3, h4, h5, h6⟩ := pktOk_parts h
  obtain ⟨c1, c2⟩ := rng_true.1 h3
  have hl : rpLen (pktText s d t p i b ++ z) = false := by
    rw [rpLen, a4, a1]; simp; omega
  have hf : rpFrag (pktText s d t p i b ++ z) = false := by
    rw [rpFrag, a5, a6]; decide
  rw [rpC, if_neg (by omega), if_neg (by omega), if_neg (by omega), hl, if_neg (by decide), hf, if_neg (by decide), if_neg (by omega)]
theorem setB_take (s : ByteArray) (j : Nat) (v : Int) (n : Nat) : (setB s j v).extract 0 n = setB (s.extract 0 n) j v := by
  apply ba_ext
  rw [Lib.extract_data, setB, setB, strOfNums_data, strOfNums_data, nums, nums, Lib.extract_data, List.drop_zero, List.drop_zero, Nat.sub_zero, ← List.map_take, List.take_set, List.map_take]
theorem byt_ext (s : ByteArray) (n j : Nat) (hj : j < n) (hn : n ≤ s.size) : byt (s.extract 0 n) j = byt s j := by
  have e : s.extract 0 n ++ s.extract n s.size = s := by rw [extract_app s 0 n s.size (by omega) hn (Nat.le_refl _), extract_all]
  have z : (s.extract 0 n).size = n := by rw [ByteArray.size_extract]; omega
  conv => rhs; rw [← e]
  rw [byt_app_lt _ _ _ (by omega)]
theorem rpC_zero (s : ByteArray) (h : rpC s = 0) : 20 ≤ s.size ∧ byt s 0 = 69 ∧ sumOf (s.extract 0 20) = 0 ∧ rpLen s = false ∧ rpFrag s = false ∧ byt s 8 ≠ 0 := by
  unfold rpC at h
  split at h
  · omega
  split at h
  · omega
  split at h
  · omega
  split at h
  · omega
  split at h
  · omega
  split at h
  · omega
  rename_i a b c d e f
  exact ⟨by omega, by omega, by omega, by simpa using d, by simpa using e, f⟩
/-- A packet's head with one byte turned. -/
theorem rt_pkt_turned {s d t p i : Int} {b : ByteArray} (h : pktOk s d t p i b = true) (j : Nat) (v : Int) (hj : j < 20) (h0 : 0 ≤ v) (h1 : v ≤ 255) (hne : v ≠ byt (pktText s d t p i b) j) : rpC (setB (pktText s d t p i b) j v) ≠ 0 := by
  obtain ⟨a1, a2, a3, _⟩ := rt_pkt ByteArray.empty h
  rw [ByteArray.append_empty] at a1 a2 a3
  have z : ByteArray.empty.size = 0 := rfl
  intro hc
  obtain ⟨_, _, c3, _⟩ := rpC_zero _ hc
  rw [setB_take] at c3
  exact turned_bad _ j v (by rw [ByteArray.size_extract]; omega) h0 h1 (by rw [byt_ext _ _ _ hj (by omega)]; exact hne) a3 c3
theorem pktOk_of (s : ByteArray) (h : rpC s = 0) : pktOk (getV s 12 4) (getV s 16 4) (byt s 8) (byt s 9) (getV s 4 2) (s.extract 20 (getV s 2 2).toNat) = true ∧ (s.extract 20 (getV s 2 2).toNat).size + 20 ≤ s.size := by
  obtain ⟨h1, h2, h3, h4, h5, h6⟩ := rpC_zero s h
  have hl : ¬ (getV s 2 2 < 20 ∨ (s.size : Int) < getV s 2 2 ∨ 1500 < getV s 2 2) := by simpa [rpLen] using h4
  obtain ⟨b0, b1⟩ := byt_bd s 8
  have g1 : wordOk (getV s 12 4) 32 = true := by rw [show getV s 12 4 = gw s 12 4 from getV_in s 12 4 (by omega) (by omega) (by omega)]; exact gw_ok s 12 4 (by omega) (by omega)
  have g2 : wordOk (getV s 16 4) 32 = true := by rw [show getV s 16 4 = gw s 16 4 from getV_in s 16 4 (by omega) (by omega) (by omega)]; exact gw_ok s 16 4 (by omega) (by omega)
  have g3 : wordOk (getV s 4 2) 16 = true := by rw [show getV s 4 2 = gw s 4 2 from getV_in s 4 2 (by omega) (by omega) (by omega)]; exact gw_ok s 4 2 (by omega) (by omega)
  have g4 : wordOk (byt s 9) 8 = true := by rw [← byt_gw]; exact gw_ok s 9 1 (by omega) (by omega)
  have g5 : rng (byt s 8) 1 255 = true := by rw [rng_true]; omega
  have z : (s.extract 20 (getV s 2 2).toNat).size = (getV s 2 2).toNat - 20 := by rw [ByteArray.size_extract]; omega
  refine ⟨?_, by omega⟩
  rw [pktOk, g1, g2, g3, g4, g5]
  simp only [Bool.and_true, Bool.true_and, decide_eq_true_eq]
  omega
end Go.Proofs.Ytahffinjglmhhaa
