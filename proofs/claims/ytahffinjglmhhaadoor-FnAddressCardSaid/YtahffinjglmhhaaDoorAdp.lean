/-
  Addresses: four numbers below 256 with dots between (plain).
-/
import Derived.Test.YtahffinjglmhhaaDoorJoiB
import Derived.Test.YtahffinjglmhhaaDoorNumb
import Derived.Test.YtahffinjglmhhaaDoorApp
namespace Go.Proofs.YtahffinjglmhhaaDoor
open Go.RowKit
set_option linter.unusedVariables false

def dec (x : Nat) : ByteArray := ⟨(Lib.decDigits x).toArray⟩
def dec3 (x : Nat) : List UInt8 := if x < 10 then [UInt8.ofNat (48 + x)] else if x < 100 then [UInt8.ofNat (48 + x / 10), UInt8.ofNat (48 + x % 10)] else [UInt8.ofNat (48 + x / 100), UInt8.ofNat (48 + x / 10 % 10), UInt8.ofNat (48 + x % 10)]
theorem dec_dec3 (x : Nat) (h : x < 1000) : Lib.decDigits x = dec3 x := by
  unfold dec3
  split
  · rename_i h1; rw [Lib.decDigits, dif_pos h1]
  split
  · rename_i h1 h2
    rw [Lib.decDigits, dif_neg h1, Lib.decDigits, dif_pos (by omega)]; rfl
  · rename_i h1 h2
    rw [Lib.decDigits, dif_neg h1, Lib.decDigits, dif_neg (by omega), Lib.decDigits, dif_pos (by omega)]
    have : x / 10 / 10 = x / 100 := by omega
    rw [this]; rfl
set_option maxRecDepth 100000 in
theorem dec3_fin : ∀ x : Fin 256, numOk ⟨(dec3 x.val).toArray⟩ = true ∧ numV ⟨(dec3 x.val).toArray⟩ = (x.val : Int) ∧ (46 : UInt8) ∉ dec3 x.val := by decide +kernel
theorem dec_byte (x : Int) (h0 : 0 ≤ x) (h1 : x ≤ 255) : numOk (dec x.toNat) = true ∧ numV (dec x.toNat) = x ∧ (46 : UInt8) ∉ (dec x.toNat).data.toList := by
  have h := dec3_fin ⟨x.toNat, by omega⟩
  rw [dec, dec_dec3 _ (by omega)]
  refine ⟨h.1, ?_, h.2.2⟩
  have := h.2.1
  rw [this]
  show ((x.toNat : Nat) : Int) = x
  omega
theorem dec_num (p : ByteArray) (h : numOk p = true) : dec (numV p).toNat = p := by
  obtain ⟨a1, a2, a3, a4⟩ := (numOk_iff p).1 h
  have e := (dec_iff p a1 a4).2 a3
  have hv : (numV p).toNat = dvN p p.size := by rw [numV, h]; simp
  rw [dec, hv, e]
theorem numV_nn (p : ByteArray) : 0 ≤ numV p ∧ numV p ≤ 999999999999 := by
  cases h : numOk p
  · rw [numV, h]; simp
  · obtain ⟨a1, a2, a3, a4⟩ := (numOk_iff p).1 h
    have h1 := dvN_lt p p.size a4
    have h2 := pow12 p.size a2
    rw [numV, h]
    simp
    omega
def word4 (n : Int) (i : Nat) : Int := byt (putWord n 4) i
def addrL (n : Int) (k : Nat) : List ByteArray := (List.range k).map fun i => dec (word4 n i).toNat
def addrText (n : Int) : ByteArray := joined (addrL n (putWord n 4).size) ⟨#[46]⟩
def adOk (ps : List ByteArray) : Bool := decide (ps.length = 4) && ps.all fun p => numOk p && decide (numV p ≤ 255)
/-- What the first k parts make, taken modulo 256 each. -/
def na (ps : List ByteArray) : Nat → Int
  | 0 => 0
  | k + 1 => 256 * na ps k + numV (ps.getD k ByteArray.empty) % 256
theorem na_bd (ps : List ByteArray) : ∀ k, 0 ≤ na ps k ∧ na ps k < 256 ^ k := by
  intro k
  induction k with
  | zero => exact ⟨Int.le_refl _, by simp [na]⟩
  | succ k ih =>
    have e : (256 : Int) ^ (k + 1) = 256 ^ k * 256 := Int.pow_succ _ _
    have := numV_nn (ps.getD k ByteArray.empty)
    rw [na, e]
    omega
theorem word4_of (a b c d : Int) (ha : 0 ≤ a ∧ a ≤ 255) (hb : 0 ≤ b ∧ b ≤ 255) (hc : 0 ≤ c ∧ c ≤ 255) (hd : 0 ≤ d ∧ d ≤ 255) (n : Int) (hn : n = 256 * (256 * (256 * (256 * 0 + a) + b) + c) + d) :
    (putWord n 4).size = 4 ∧ word4 n 0 = a ∧ word4 n 1 = b ∧ word4 n 2 = c ∧ word4 n 3 = d := by
  have hok : wordOk n (8 * ((4 : Nat) : Int)) = true := wordOk_small (by decide) (by omega) (show n ≤ (2 : Int) ^ 32 - 1 by omega)
  have hs := size_word (k := 4) (by decide) (by decide) hok
  have hp := putWord_str (k := 4) (by decide) (by decide) hok
  refine ⟨hs, ?_, ?_, ?_, ?_⟩
  all_goals
    rw [word4, show putWord n 4 = strOfNums (beL 4 n) from hp, byt_put 4 n _ (by decide)]
    simp
    omega
theorem addr_bytes (n : Int) (i : Nat) : 0 ≤ word4 n i ∧ word4 n i ≤ 255 := byt_bd _ _
theorem all_mem {ps : List ByteArray} (h : adOk ps = true) : ps.length = 4 ∧ ∀ p ∈ ps, numOk p = true ∧ numV p ≤ 255 := by
  rw [adOk, Bool.and_eq_true, decide_eq_true_eq, List.all_eq_true] at h
  refine ⟨h.1, fun p hp => ?_⟩
  have := h.2 p hp
  rw [Bool.and_eq_true, decide_eq_true_eq] at this
  exact this
theorem ad_no {ps : List ByteArray} (h : ps.length ≠ 4 ∨ ∃ p ∈ ps, numOk p = false ∨ 255 < numV p) : adOk ps = false := by
  cases e : adOk ps
  · rfl
  · obtain ⟨a, b⟩ := all_mem e
    rcases h with h | ⟨p, hp, h⟩
    · exact absurd a h
    · obtain ⟨c, d⟩ := b p hp
      rcases h with h | h
      · rw [h] at c; cases c
      · omega
theorem ad_yes {ps : List ByteArray} (h : ps.length = 4) (h2 : ∀ p ∈ ps, numOk p = true ∧ numV p ≤ 255) : adOk ps = true := by
  rw [adOk, Bool.and_eq_true, decide_eq_true_eq, List.all_eq_true]
  refine ⟨h, fun p hp => ?_⟩
  rw [Bool.and_eq_true, decide_eq_true_eq]
  exact h2 p hp
theorem addr_back (s : ByteArray) (h : adOk (parts s 46) = true) : addrText (na (parts s 46) 4) = s := by
  obtain ⟨a, b⟩ := all_mem h
  have hj := joined_parts s 46 (by decide) (by decide)
  generalize parts s 46 = ps at a b hj
  match ps, a with
  | [p0, p1, p2, p3], _ =>
    obtain ⟨o0, v0⟩ := b p0 (by simp)
    obtain ⟨o1, v1⟩ := b p1 (by simp)
    obtain ⟨o2, v2⟩ := b p2 (by simp)
    obtain ⟨o3, v3⟩ := b p3 (by simp)
    have n0 := numV_nn p0
    have n1 := numV_nn p1
    have n2 := numV_nn p2
    have n3 := numV_nn p3
    have hn : na [p0, p1, p2, p3] 4 = 256 * (256 * (256 * (256 * 0 + numV p0) + numV p1) + numV p2) + numV p3 := by
      show 256 * (256 * (256 * (256 * 0 + numV p0 % 256) + numV p1 % 256) + numV p2 % 256) + numV p3 % 256 = _
      omega
    obtain ⟨e4, e0, e1, e2, e3⟩ := word4_of (numV p0) (numV p1) (numV p2) (numV p3) ⟨by omega, v0⟩ ⟨by omega, v1⟩ ⟨by omega, v2⟩ ⟨by omega, v3⟩ _ hn
    rw [addrText, e4]
    have hL : addrL (na [p0, p1, p2, p3] 4) 4 = [p0, p1, p2, p3] := by
      show [dec (word4 _ 0).toNat, dec (word4 _ 1).toNat, dec (word4 _ 2).toNat, dec (word4 _ 3).toNat] = _
      rw [e0, e1, e2, e3, dec_num _ o0, dec_num _ o1, dec_num _ o2, dec_num _ o3]
    rw [hL]
    exact hj
theorem size4 (n : Int) (h0 : 0 ≤ n) (h1 : n < 4294967296) : (putWord n 4).size = 4 :=
  size_word (k := 4) (by decide) (by decide) (wordOk_small (by decide) h0 (show n ≤ (2 : Int) ^ 32 - 1 by omega))
theorem addrL_mem {n : Int} {k : Nat} {p : ByteArray} (h : p ∈ addrL n k) : ∃ i, p = dec (word4 n i).toNat := by
  simp only [addrL, List.mem_map] at h
  obtain ⟨i, _, rfl⟩ := h
  exact ⟨i, rfl⟩
theorem addr_only (s : ByteArray) (n : Int) (h0 : 0 ≤ n) (h1 : n < 4294967296) (h : addrText n = s) : adOk (parts s 46) = true := by
  have hs := size4 n h0 h1
  rw [addrText, hs] at h
  have hj := joined_parts s 46 (by decide) (by decide)
  have hk := parts_nob s 46 (by decide) (by decide) s.size (Nat.le_refl _)
  have hpe : (parts s 46) ≠ [] := by rw [parts]; simp
  have e : (parts s 46).map (·.data.toList) = (addrL n 4).map (·.data.toList) := by
    refine join_inj 46 _ _ (by simpa using hpe) (by simp [addrL]) (fun x hx => ?_) (fun y hy => ?_) ?_
    · simp only [List.mem_map] at hx
      obtain ⟨p, hp, rfl⟩ := hx
      rw [parts] at hp
      rcases List.mem_append.1 hp with hp | hp
      · exact hk.1 p hp
      · simp at hp; subst hp; exact hk.2
    · simp only [List.mem_map] at hy
      obtain ⟨p, hp, rfl⟩ := hy
      obtain ⟨i, rfl⟩ := addrL_mem hp
      obtain ⟨b0, b1⟩ := addr_bytes n i
      exact (dec_byte _ b0 b1).2.2
    · have h3 : joined (parts s 46) ⟨#[46]⟩ = joined (addrL n 4) ⟨#[46]⟩ := by rw [h]; exact hj
      have h4 := congrArg (fun t : ByteArray => t.data.toList) h3
      simp only [joined] at h4
      exact h4
  have ep : parts s 46 = addrL n 4 := by
    exact (List.map_inj_right (fun _ _ h => ba_ext h)).1 e
  rw [ep]
  refine ad_yes (by simp [addrL]) (fun p hp => ?_)
  obtain ⟨i, rfl⟩ := addrL_mem hp
  obtain ⟨b0, b1⟩ := addr_bytes n i
  obtain ⟨c1, c2, _⟩ := dec_byte _ b0 b1
  exact ⟨c1, by rw [c2]; exact b1⟩
theorem ad_empty (s : ByteArray) (h : s.size = 0) : adOk (parts s 46) = false := by
  refine ad_no (.inl ?_)
  rw [parts, h]
  simp [pt]
theorem na_lt (ps : List ByteArray) (k : Nat) (h : k ≤ 4) : 0 ≤ na ps k ∧ na ps k < 4294967296 := by
  obtain ⟨a, b⟩ := na_bd ps k
  have : (256 : Int) ^ k ≤ 256 ^ 4 := by
    have := Nat.pow_le_pow_right (n := 256) (by decide) h
    have e1 : ((256 ^ k : Nat) : Int) = (256 : Int) ^ k := by simp
    have e2 : ((256 ^ 4 : Nat) : Int) = (256 : Int) ^ 4 := by simp
    omega
  have e3 : (256 : Int) ^ 4 = 4294967296 := by decide
  omega
theorem sums_bd (L : List ByteArray) (c : Nat) (h : ∀ x ∈ L, x.size ≤ c) : sums L L.length ≤ c * L.length := by
  rw [sums, List.take_length]
  induction L with
  | nil => simp
  | cons x r ih =>
    have h1 := h x (by simp)
    have h2 := ih (fun y hy => h y (by simp [hy]))
    simp only [List.map_cons, List.sum_cons, List.length_cons, Nat.mul_succ]
    omega
theorem dec_size (x : Int) (h0 : 0 ≤ x) (h1 : x ≤ 255) : (dec x.toNat).size ≤ 12 := ((numOk_iff _).1 (dec_byte x h0 h1).1).2.1
theorem addrL_sums (n : Int) (k : Nat) : sums (addrL n k) (addrL n k).length ≤ 12 * k := by
  have := sums_bd (addrL n k) 12 (fun x hx => by
    obtain ⟨i, rfl⟩ := addrL_mem hx
    obtain ⟨b0, b1⟩ := addr_bytes n i
    exact dec_size _ b0 b1)
  have hl : (addrL n k).length = k := by simp [addrL]
  rw [hl] at this ⊢
  exact this
end Go.Proofs.YtahffinjglmhhaaDoor
