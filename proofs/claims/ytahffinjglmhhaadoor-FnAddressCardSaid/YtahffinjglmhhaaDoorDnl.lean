/-
  Plain: a number's numeral is read as that number, an address's text as that address.
-/
import Derived.Test.YtahffinjglmhhaaDoorAdp
namespace Go.Proofs.YtahffinjglmhhaaDoor
open Go.RowKit
set_option linter.unusedVariables false
theorem dvN_congr (s t : ByteArray) : ∀ k, (∀ j, j < k → byt s j = byt t j) → dvN s k = dvN t k := by
  intro k
  induction k with
  | zero => intro _; rfl
  | succ k ih => intro h; rw [dvN, dvN, ih (fun j hj => h j (by omega)), h k (by omega)]
theorem dec_data (N : Nat) : (dec N).data.toList = Lib.decDigits N := by simp [dec]
theorem dec_small (N : Nat) (h : N < 10) : Lib.decDigits N = [UInt8.ofNat (48 + N)] := by rw [Lib.decDigits, dif_pos h]
theorem dec_big (N : Nat) (h : ¬ N < 10) : Lib.decDigits N = Lib.decDigits (N / 10) ++ [UInt8.ofNat (48 + N % 10)] := by rw [Lib.decDigits, dif_neg h]
theorem byt_dec_lt (N : Nat) (h : ¬ N < 10) (j : Nat) (hj : j < (Lib.decDigits (N / 10)).length) : byt (dec N) j = byt (dec (N / 10)) j := by
  unfold byt
  rw [dec_data, dec_data, dec_big N h]
  simp [List.getD_eq_getElem?_getD, List.getElem?_append_left hj]
theorem byt_dec_last (N : Nat) (h : ¬ N < 10) : byt (dec N) (Lib.decDigits (N / 10)).length = 48 + ((N % 10 : Nat) : Int) := by
  unfold byt
  rw [dec_data, dec_big N h]
  simp [List.getD_eq_getElem?_getD]
  omega
theorem byt_dec_one (N : Nat) (h : N < 10) : byt (dec N) 0 = 48 + (N : Int) := by
  unfold byt
  rw [dec_data, dec_small N h]
  simp
  omega
theorem dec_reads : ∀ N : Nat, (∀ j, j < (Lib.decDigits N).length → isD (dec N) j) ∧ dvN (dec N) (Lib.decDigits N).length = N ∧ (0 < N → 49 ≤ byt (dec N) 0) ∧ 1 ≤ (Lib.decDigits N).length := by
  intro N
  induction N using Nat.strongRecOn with
  | ind N ih =>
    by_cases h : N < 10
    · have hb := byt_dec_one N h
      have hl : (Lib.decDigits N).length = 1 := by rw [dec_small N h]; rfl
      rw [hl]
      refine ⟨fun j hj => ?_, ?_, fun h0 => by omega, by omega⟩
      · obtain rfl : j = 0 := by omega
        rw [isD, hb]; omega
      · simp only [dvN, hb]; omega
    · obtain ⟨i1, i2, i3, i4⟩ := ih (N / 10) (by omega)
      have hl : (Lib.decDigits N).length = (Lib.decDigits (N / 10)).length + 1 := by rw [dec_big N h]; simp
      have hlast := byt_dec_last N h
      rw [hl]
      refine ⟨fun j hj => ?_, ?_, fun h0 => ?_, by omega⟩
      · by_cases hj' : j < (Lib.decDigits (N / 10)).length
        · have := i1 j hj'
          rw [isD] at this ⊢
          rw [byt_dec_lt N h j hj']; exact this
        · obtain rfl : j = (Lib.decDigits (N / 10)).length := by omega
          rw [isD, hlast]; omega
      · rw [dvN, dvN_congr _ (dec (N / 10)) _ (fun j hj => byt_dec_lt N h j hj), i2, hlast]; omega
      · rw [byt_dec_lt N h 0 (by omega)]; exact i3 (by omega)
theorem dec_sz (N : Nat) : (dec N).size = (Lib.decDigits N).length := List.size_toArray
theorem num_dec (N : Nat) (h : N ≤ 999999999999) : numOk (dec N) = true ∧ numV (dec N) = N := by
  obtain ⟨h1, h2, h3, h4⟩ := dec_reads N
  have hl : (Lib.decDigits N).length ≤ 12 := by rw [Lib.decDigits_length]; exact nD_le 12 N (by decide) (by omega)
  have hz : (dec N).size = 1 ∨ byt (dec N) 0 ≠ 48 := by
    by_cases h0 : N = 0
    · left; rw [dec_sz, dec_small N (by omega)]; rfl
    · right; have := h3 (by omega); omega
  obtain ⟨e1, e2⟩ := num_yes (dec N) ⟨by rw [dec_sz]; omega, by rw [dec_sz]; omega, hz, fun j hj => h1 j (by rw [← dec_sz]; exact hj)⟩
  refine ⟨e1, ?_⟩
  rw [e2, dec_sz, h2]
theorem num_dec_big (N : Nat) (h : ¬ N ≤ 999999999999) : numOk (dec N) = false ∧ numV (dec N) = 0 := by
  obtain ⟨h1, h2, h3, h4⟩ := dec_reads N
  refine num_no _ (fun hh => ?_)
  obtain ⟨_, h12, _, _⟩ := hh
  rw [dec_sz] at h12
  have := dvN_lt (dec N) _ h1
  have := pow12 _ h12
  omega
/-- What the numeral of a number is read as. -/
def numIn (n : Int) : Bool := decide (0 ≤ n ∧ n ≤ 999999999999)
theorem num_itoa (n : Int) : numOk ⟨(Lib.itoa n).toArray⟩ = numIn n ∧ numV ⟨(Lib.itoa n).toArray⟩ = if numIn n then n else 0 := by
  by_cases h0 : n < 0
  · have e : numIn n = false := by simp [numIn]; omega
    have hb : byt ⟨(Lib.itoa n).toArray⟩ 0 = 45 := by
      unfold byt
      rw [Lib.itoa, if_pos h0]
      rfl
    rw [e]
    refine num_no _ (fun hh => ?_)
    obtain ⟨hs, _, _, hd⟩ := hh
    have := hd 0 (by omega)
    omega
  · have ei : (⟨(Lib.itoa n).toArray⟩ : ByteArray) = dec n.toNat := by rw [Lib.itoa, if_neg h0, dec]
    rw [ei]
    by_cases h1 : n ≤ 999999999999
    · have e : numIn n = true := by simp [numIn]; omega
      obtain ⟨a, b⟩ := num_dec n.toNat (by omega)
      rw [e, a, b]
      exact ⟨rfl, by simp; omega⟩
    · have e : numIn n = false := by simp [numIn]; omega
      obtain ⟨a, b⟩ := num_dec_big n.toNat (by omega)
      rw [e, a, b]
      exact ⟨rfl, rfl⟩
theorem itoa_num (p : ByteArray) (h : numOk p = true) : (⟨(Lib.itoa (numV p)).toArray⟩ : ByteArray) = p := by
  have h0 := (numV_nn p).1
  rw [Lib.itoa, if_neg (by omega)]
  exact dec_num p h
theorem addr_parts (n : Int) (h0 : 0 ≤ n) (h1 : n < 4294967296) : parts (addrText n) 46 = addrL n 4 := by
  obtain ⟨s, h⟩ : ∃ s, addrText n = s := ⟨_, rfl⟩
  have hs := size4 n h0 h1
  rw [h]
  rw [addrText, hs] at h
  have hj := joined_parts s 46 (by decide) (by decide)
  have hk := parts_nob s 46 (by decide) (by decide) s.size (Nat.le_refl _)
  have hpe : (parts s 46) ≠ [] := by rw [parts]; simp
  have e : (parts s 46).map (·.data.toList) = (addrL n 4).map (·.data.toList) := by
    refine join_inj 46 _ _ (by simpa using hpe) (by simp [addrL]) (fun x hx => ?_) (fun y hy => ?_) ?_
    · simp only [List.mem_map] at hx
      obtain ⟨p, hp, rfl⟩ := hx
      rw [parts] at hp
      rcases List.mem_append.1 hp with hp | hp
      · exact hk.1 p hp
      · simp at hp; subst hp; exact hk.2
    · simp only [List.mem_map] at hy
      obtain ⟨p, hp, rfl⟩ := hy
      obtain ⟨i, rfl⟩ := addrL_mem hp
      obtain ⟨b0, b1⟩ := addr_bytes n i
      exact (dec_byte _ b0 b1).2.2
    · have h3 : joined (parts s 46) ⟨#[46]⟩ = joined (addrL n 4) ⟨#[46]⟩ := by rw [h]; exact hj
      have h4 := congrArg (fun t : ByteArray => t.data.toList) h3
      simp only [joined] at h4
      exact h4
  exact (List.map_inj_right (fun _ _ h => ba_ext h)).1 e
theorem addr_reads (n : Int) (h0 : 0 ≤ n) (h1 : n < 4294967296) : na (parts (addrText n) 46) 4 = n := by
  rw [addr_parts n h0 h1]
  obtain ⟨_, e0, e1, e2, e3⟩ := word4_of (n / 16777216) (n / 65536 % 256) (n / 256 % 256) (n % 256) (by omega) (by omega) (by omega) (by omega) n (by omega)
  have f : ∀ i, numV (dec (word4 n i).toNat) = word4 n i := fun i => (dec_byte _ (addr_bytes n i).1 (addr_bytes n i).2).2.1
  show 256 * (256 * (256 * (256 * 0 + numV (dec (word4 n 0).toNat) % 256) + numV (dec (word4 n 1).toNat) % 256) + numV (dec (word4 n 2).toNat) % 256) + numV (dec (word4 n 3).toNat) % 256 = n
  rw [f, f, f, f, e0, e1, e2, e3]
  omega
theorem addr_ok (n : Int) : adOk (parts (addrText n) 46) = wordOk n 32 := by
  by_cases h : wordOk n 32 = true
  · have hb : 0 ≤ n ∧ n < 4294967296 := by
      have h' := h
      rw [wordOk, Bool.and_eq_true, rng_true, rng_true] at h'
      have e : (2 : Int) ^ (32 : Int).toNat = 4294967296 := by decide
      omega
    rw [h]
    exact addr_only _ n hb.1 hb.2 rfl
  · rw [Bool.not_eq_true] at h
    rw [h]
    refine ad_empty _ ?_
    rw [addrText, putWord_no (show wordOk n (8 * 4) = false from h)]
    rfl
end Go.Proofs.YtahffinjglmhhaaDoor
