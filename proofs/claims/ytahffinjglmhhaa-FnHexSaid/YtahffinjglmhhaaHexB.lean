/-
  Figures read back are the bytes; parts joined are the text (plain).
-/
import Derived.Test.YtahffinjglmhhaaUnh
import Derived.Test.YtahffinjglmhhaaJoiB
import Derived.Test.YtahffinjglmhhaaApp
namespace Go.Proofs.Ytahffinjglmhhaa
open Go.RowKit
set_option linter.unusedVariables false

theorem hx_get (s : ByteArray) (j : Nat) : ∀ k, j < k → (hx s k)[2 * j]? = some (hc (byt s j / 16)) ∧ (hx s k)[2 * j + 1]? = some (hc (byt s j % 16)) := by
  intro k
  induction k with
  | zero => intro h; omega
  | succ k ih =>
    intro h
    rw [hx]
    by_cases e : j = k
    · subst e
      rw [List.getElem?_append_right (by rw [hx_len]; omega), List.getElem?_append_right (by rw [hx_len]; omega), hx_len]
      rw [show 2 * j - 2 * j = 0 by omega, show 2 * j + 1 - 2 * j = 1 by omega]
      exact ⟨rfl, rfl⟩
    · rw [List.getElem?_append_left (by rw [hx_len]; omega), List.getElem?_append_left (by rw [hx_len]; omega)]
      exact ih (by omega)
theorem hc_bd (x : Int) (h0 : 0 ≤ x) (h1 : x < 16) : 0 ≤ hc x ∧ hc x ≤ 255 ∧ hf (hc x) = x := by
  unfold hc
  split
  · exact ⟨by omega, by omega, by unfold hf; rw [if_pos (by omega)]; omega⟩
  · exact ⟨by omega, by omega, by unfold hf; rw [if_neg (by omega), if_pos (by omega)]; omega⟩
theorem hexT_byt (s : ByteArray) (j : Nat) (h : j < s.size) : hf (byt (strOfNums (hx s s.size)) (2 * j)) = byt s j / 16 ∧ hf (byt (strOfNums (hx s s.size)) (2 * j + 1)) = byt s j % 16 := by
  obtain ⟨a, b⟩ := hx_get s j s.size h
  obtain ⟨b0, b1⟩ := byt_bd s j
  obtain ⟨p1, p2, p3⟩ := hc_bd (byt s j / 16) (by omega) (by omega)
  obtain ⟨q1, q2, q3⟩ := hc_bd (byt s j % 16) (by omega) (by omega)
  rw [byt_str _ _ _ a p1 p2, byt_str _ _ _ b q1 q2]
  exact ⟨p3, q3⟩
theorem hexT_size (s : ByteArray) : (strOfNums (hx s s.size)).size = 2 * s.size := by rw [strOfNums_size, hx_len]
theorem unhex_hex (s : ByteArray) : unhexB (strOfNums (hx s s.size)) = true ∧ unhexV (strOfNums (hx s s.size)) = s := by
  have h : ∀ k, k ≤ s.size → uhB (strOfNums (hx s s.size)) k = true ∧ uhL (strOfNums (hx s s.size)) k = bl s 0 k := by
    intro k
    induction k with
    | zero => intro _; exact ⟨rfl, rfl⟩
    | succ k ih =>
      intro hk
      obtain ⟨i1, i2⟩ := ih (by omega)
      obtain ⟨e1, e2⟩ := hexT_byt s k (by omega)
      obtain ⟨b0, b1⟩ := byt_bd s k
      refine ⟨uhB_step _ _ i1 (by rw [e1]; omega) (by rw [e2]; omega), ?_⟩
      rw [uhL, i2, e1, e2, bl, bl, List.range_succ, List.map_append]
      congr 1
      simp only [List.map_cons, List.map_nil, Nat.zero_add]
      congr 1
      omega
  obtain ⟨h1, h2⟩ := h s.size (Nat.le_refl _)
  obtain ⟨g1, g2⟩ := unhex_good (strOfNums (hx s s.size)) s.size (by rw [hexT_size]) h1
  refine ⟨g1, ?_⟩
  rw [g2, h2, bl_str s 0 s.size (by omega), Nat.zero_add, extract_all]
end Go.Proofs.Ytahffinjglmhhaa
