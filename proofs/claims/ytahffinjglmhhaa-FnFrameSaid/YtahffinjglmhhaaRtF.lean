/-
  Frames and messages of ARP: what was written is read back (plain).
-/
import Derived.Test.YtahffinjglmhhaaRdA
import Derived.Test.YtahffinjglmhhaaApp
namespace Go.Proofs.Ytahffinjglmhhaa
open Go.RowKit
set_option linter.unusedVariables false

theorem frameOk_parts {d s t : Int} {b : ByteArray} (h : frameOk d s t b = true) : wordOk d 48 = true ∧ wordOk s 48 = true ∧ 1536 ≤ t ∧ t ≤ 65535 ∧ wordOk t 16 = true ∧ b.size ≤ 1586 := by
  simp only [frameOk, Bool.and_eq_true, decide_eq_true_eq] at h
  obtain ⟨⟨⟨h1, h2⟩, h3⟩, h4⟩ := h
  obtain ⟨c1, c2⟩ := rng_true.1 h3
  exact ⟨h1, h2, c1, c2, wordOk_small (by decide) (by omega) (show t ≤ (2 : Int) ^ 16 - 1 by omega), by omega⟩
theorem rt_frame {d s t : Int} {b : ByteArray} (h : frameOk d s t b = true) :
    (frameText d s t b).size = 14 + b.size ∧ getV (frameText d s t b) 0 6 = d ∧ getV (frameText d s t b) 6 6 = s ∧ getV (frameText d s t b) 12 2 = t ∧ (frameText d s t b).extract 14 (frameText d s t b).size = b := by
  obtain ⟨h1, h2, _, _, h3, h4⟩ := frameOk_parts h
  have e1 : (putWord d 6).size = 6 := size_word (k := 6) (by decide) (by decide) h1
  have e2 : (putWord s 6).size = 6 := size_word (k := 6) (by decide) (by decide) h2
  have e3 : (putWord t 2).size = 2 := size_word (k := 2) (by decide) (by decide) h3
  have e : frameText d s t b = putWord d 6 ++ putWord s 6 ++ putWord t 2 ++ b := by rw [frameText, if_pos h]
  refine ⟨?_, ?_, ?_, ?_, ?_⟩
  · rw [e]; simp only [ByteArray.size_append, e1, e2, e3]
  · exact getV_mid (x := ⟨#[]⟩) (y := putWord s 6 ++ (putWord t 2 ++ b)) (k := 6) (a := 0) (by rw [e]; simp only [ByteArray.append_assoc]; exact ByteArray.empty_append.symm) rfl (by decide) (by decide) h1
  · exact getV_mid (x := putWord d 6) (y := putWord t 2 ++ b) (k := 6) (a := 6) (by rw [e]; simp only [ByteArray.append_assoc]; rfl) e1 (by decide) (by decide) h2
  · exact getV_mid (x := putWord d 6 ++ putWord s 6) (y := b) (k := 2) (a := 12) (by rw [e]; simp only [ByteArray.append_assoc]; rfl) (by rw [ByteArray.size_append, e1, e2]) (by decide) (by decide) h3
  · exact tail_of (x := putWord d 6 ++ putWord s 6 ++ putWord t 2) e (by simp only [ByteArray.size_append, e1, e2, e3])
theorem rt_frame_yes {d s t : Int} {b : ByteArray} (h : frameOk d s t b = true) : rfB (frameText d s t b) = true := by
  obtain ⟨e1, e2, e3, e4, e5⟩ := rt_frame h
  rw [rfB, rfOk, e2, e3, e4, e5, h]
  simp
  omega
theorem rt_frame_no {d s t : Int} {b : ByteArray} (h : frameOk d s t b = false) : rfB (frameText d s t b) = false := by
  have e : frameText d s t b = ⟨#[]⟩ := by rw [frameText, h]; rfl
  rw [e]
  rfl
theorem frameText_back (s : ByteArray) (h : rfB s = true) : frameText (rfI s (getV s 0 6)) (rfI s (getV s 6 6)) (rfI s (getV s 12 2)) (rfS s) = s := by
  simp only [rfI, rfS, h, if_true]
  simp only [rfB, Bool.and_eq_true, decide_eq_true_eq] at h
  exact frameText_rd s h.1 h.2

theorem arpOk_parts {k sh si dh di : Int} (h : arpOk k sh si dh di = true) : 1 ≤ k ∧ k ≤ 2 ∧ wordOk k 16 = true ∧ wordOk sh 48 = true ∧ wordOk dh 48 = true ∧ wordOk si 32 = true ∧ wordOk di 32 = true := by
  simp only [arpOk, Bool.and_eq_true] at h
  obtain ⟨⟨⟨⟨h0, h1⟩, h2⟩, h3⟩, h4⟩ := h
  obtain ⟨c1, c2⟩ := rng_true.1 h0
  exact ⟨c1, c2, wordOk_small (by decide) (by omega) (show k ≤ (2 : Int) ^ 16 - 1 by omega), h1, h2, h3, h4⟩
theorem rt_arp {k sh si dh di : Int} (z : ByteArray) (h : arpOk k sh si dh di = true) :
    28 ≤ (arpText k sh si dh di ++ z).size ∧ raHd (arpText k sh si dh di ++ z) = true ∧ getV (arpText k sh si dh di ++ z) 6 2 = k ∧ getV (arpText k sh si dh di ++ z) 8 6 = sh ∧ getV (arpText k sh si dh di ++ z) 14 4 = si ∧ getV (arpText k sh si dh di ++ z) 18 6 = dh ∧ getV (arpText k sh si dh di ++ z) 24 4 = di := by
  obtain ⟨_, _, h0, h1, h2, h3, h4⟩ := arpOk_parts h
  have e0 : (putWord k 2).size = 2 := size_word (k := 2) (by decide) (by decide) h0
  have e1 : (putWord sh 6).size = 6 := size_word (k := 6) (by decide) (by decide) h1
  have e2 : (putWord si 4).size = 4 := size_word (k := 4) (by decide) (by decide) h3
  have e3 : (putWord dh 6).size = 6 := size_word (k := 6) (by decide) (by decide) h2
  have e4 : (putWord di 4).size = 4 := size_word (k := 4) (by decide) (by decide) h4
  have eh : (⟨#[0, 1, 8, 0, 6, 4]⟩ : ByteArray).size = 6 := rfl
  obtain ⟨S, hS⟩ : ∃ S, S = arpText k sh si dh di ++ z := ⟨_, rfl⟩
  have e : S = ⟨#[0, 1, 8, 0, 6, 4]⟩ ++ (putWord k 2 ++ (putWord sh 6 ++ (putWord si 4 ++ (putWord dh 6 ++ (putWord di 4 ++ z))))) := by
    rw [hS, arpText, if_pos h]; simp only [ByteArray.append_assoc]
  rw [← hS]
  refine ⟨?_, ?_, ?_, ?_, ?_, ?_, ?_⟩
  · rw [e]; simp only [ByteArray.size_append, e0, e1, e2, e3, e4, eh]; omega
  · rw [raHd, e, ByteArray.extract_append_eq_left eh.symm, ByteArray.toList_eq]; rfl
  · exact getV_mid (x := ⟨#[0, 1, 8, 0, 6, 4]⟩) (k := 2) (a := 6) e rfl (by decide) (by decide) h0
  · exact getV_mid (x := ⟨#[0, 1, 8, 0, 6, 4]⟩ ++ putWord k 2) (k := 6) (a := 8) (y := putWord si 4 ++ (putWord dh 6 ++ (putWord di 4 ++ z))) (by rw [e]; simp only [ByteArray.append_assoc]; rfl) (by simp only [ByteArray.size_append, e0, eh]) (by decide) (by decide) h1
  · exact getV_mid (x := ⟨#[0, 1, 8, 0, 6, 4]⟩ ++ putWord k 2 ++ putWord sh 6) (k := 4) (a := 14) (y := putWord dh 6 ++ (putWord di 4 ++ z)) (by rw [e]; simp only [ByteArray.append_assoc]; rfl) (by simp only [ByteArray.size_append, e0, e1, eh]) (by decide) (by decide) h3
  · exact getV_mid (x := ⟨#[0, 1, 8, 0, 6, 4]⟩ ++ putWord k 2 ++ putWord sh 6 ++ putWord si 4) (k := 6) (a := 18) (y := putWord di 4 ++ z) (by rw [e]; simp only [ByteArray.append_assoc]; rfl) (by simp only [ByteArray.size_append, e0, e1, e2, eh]) (by decide) (by decide) h2
  · exact getV_mid (x := ⟨#[0, 1, 8, 0, 6, 4]⟩ ++ putWord k 2 ++ putWord sh 6 ++ putWord si 4 ++ putWord dh 6) (k := 4) (a := 24) (y := z) (by rw [e]; simp only [ByteArray.append_assoc]; rfl) (by simp only [ByteArray.size_append, e0, e1, e2, e3, eh]) (by decide) (by decide) h4
theorem rt_arp_yes {k sh si dh di : Int} (z : ByteArray) (h : arpOk k sh si dh di = true) : raB (arpText k sh si dh di ++ z) = true := by
  obtain ⟨a1, a2, a3, a4, a5, a6, a7⟩ := rt_arp z h
  rw [raB, a2, raOk, a3, a4, a5, a6, a7, h]
  simp
  simp at a1
  omega
theorem rt_arp_no {k sh si dh di : Int} (z : ByteArray) (hz : z.size < 28) (h : arpOk k sh si dh di = false) : raB (arpText k sh si dh di ++ z) = false := by
  have e : arpText k sh si dh di = ByteArray.empty := by rw [arpText, h]; rfl
  rw [e, ByteArray.empty_append, raB]
  have : ¬ 28 ≤ z.size := by omega
  simp [this]
end Go.Proofs.Ytahffinjglmhhaa
