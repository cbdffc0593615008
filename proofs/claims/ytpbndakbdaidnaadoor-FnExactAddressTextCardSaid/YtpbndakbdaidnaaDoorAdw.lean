/-
  Addresses: what AddressText of the reference and Address return; the law of Address.
-/
import Derived.Test.YtpbndakbdaidnaaDoorAdp
namespace Go.Proofs.YtpbndakbdaidnaaDoor
open Go.RowKit
set_option linter.unusedVariables false
theorem str_ne_empty (s : ByteArray) (h : 0 < s.size) : (s.toList == []) = false ∧ s.toList.isEmpty = false ∧ ¬ s.toList = [] := by
  have h1 : s.toList ≠ [] := fun e => by rw [toList_nil_iff] at e; omega
  cases hs : s.toList with
  | nil => exact absurd hs h1
  | cons a b => exact ⟨rfl, rfl, by simp⟩
theorem row_belowV {w w' : World} {B size n : Nat} {e : TypeId} {v : Value} {xs : List Value} (h : w.ownsRow B e size v n xs) (hb : Below w.heap.size w w') : w'.ownsRow B e size v n xs := by
  refine ⟨h.1, ?_⟩
  rcases h.2 with ⟨h', h0⟩ | ⟨k, cap, cur, h', b0, hh, r⟩
  · exact .inl ⟨h', h0⟩
  · have hk : k < w.heap.size := by
      by_cases hlt : k < w.heap.size
      · exact hlt
      · rw [Array.getElem?_eq_none (by omega)] at hh; cases hh
    exact .inr ⟨k, cap, cur, h', b0, (hb.block k hk).trans hh, r⟩
theorem pt_sum (s : ByteArray) (b : Int) : ∀ k, k ≤ s.size → ((pt s b k).1.map (·.size)).sum ≤ (pt s b k).2 := by
  intro k
  induction k with
  | zero => intro _; simp [pt]
  | succ k ih =>
    intro hk
    have h1 := ih (by omega)
    have h2 := (pt_le s b k).1
    rw [pt]
    split
    · rw [List.map_append, List.sum_append]
      simp only [List.map_cons, List.map_nil, List.sum_cons, List.sum_nil, ByteArray.size_extract]
      omega
    · exact h1
theorem parts_sum (s : ByteArray) (b : Int) : ((parts s b).map (·.size)).sum ≤ s.size := by
  have h1 := pt_sum s b s.size (Nat.le_refl _)
  have h2 := (pt_le s b s.size).1
  rw [parts, List.map_append, List.sum_append]
  simp only [List.map_cons, List.map_nil, List.sum_cons, List.sum_nil, ByteArray.size_extract]
  omega
theorem mem_le_sum {L : List ByteArray} {p : ByteArray} (h : p ∈ L) : p.size ≤ (L.map (·.size)).sum := by
  induction L with
  | nil => cases h
  | cons x r ih =>
    rw [List.map_cons, List.sum_cons]
    rcases List.mem_cons.1 h with h | h
    · subst h; omega
    · have := ih h; omega
set_option maxHeartbeats 1000000 in
theorem spec_AddressText (n : Int) (w : World) :
    Calls Tryd.prog 7 #[.int .i64 n] w fun e w' => e = .returned (.string (addrText n)) ∧ Below w.heap.size w w' := by
  obtain ⟨i0, hi, hz0, hz1, hz2⟩ := info_parts info_str
  have HT : Hid (addrText n = joined (addrL n (putWord n 4).size) ⟨#[46]⟩) := hide rfl
  have hs6 := size_putWord_le n 4
  go_enter Tryd.func7, Tryd.ntmps7
  go_wp2_with fail
  refine (spec_PutWord _ _ _).mono ?_
  rintro e w1 ⟨rfl, hb1⟩
  have HW : Hid (∀ i, word4 n i = byt (putWord n 4) i) := hide (fun i => rfl)
  obtain ⟨S, HS⟩ : ∃ S, Hid (S = putWord n 4) := ⟨_, hide rfl⟩
  rw [← HS.out] at hs6 HT HW ⊢
  have hsz1 := hb1.size
  go_wp2_with fail
  go_loopw [4, 5] (fun v i wr => ∃ k : Nat, k ≤ S.size ∧ i = .int .i64 k ∧ wr.ownsRow w1.heap.size 9 1 v k ((addrL n k).map Value.string) ∧ Below w1.heap.size w1 wr) (fun _ i _ => S.size - (intOf i).toNat)
  case atStart => exact ⟨0, by omega, rfl, World.ownsRow_made w1 #[] 0 (Nat.le_refl _) (by decide) (by simp), (by repeat (first | with_reducible exact Below.refl _ _ | with_reducible assumption | with_reducible refine Below.al ?_ _ | with_reducible refine Below.drew ?_ | with_reducible refine Below.seq ?_ (by assumption) | (with_reducible refine Below.setCell ?_ ?_ _); rotate_left; focus (first | exact Nat.le_refl _ | (simp; done) | (simp; omega))))⟩
  case round =>
    obtain ⟨k, hk, rfl, hr, hb⟩ := hrel
    have hsz := hb.size
    by_cases hlt : k < S.size
    · have hd : (dec (word4 n k).toNat) = ⟨(Lib.decDigits S[k].toNat).toArray⟩ := by
        rw [dec, HW.out, ← byt_at S k hlt]; rfl
      have hL : addrL n (k + 1) = addrL n k ++ [dec (word4 n k).toNat] := by
        rw [addrL, List.range_succ, List.map_append]; rfl
      have HL := hide hL
      have HD := hide hd
      have hq : (S[k].toNat : Int) ≤ 255 := by rw [byt_at S k hlt]; exact (byt_bd S k).2
      have j1 : (k : Int) < (S.size : Int) := by omega
      clear hd hL
      go_wp2_with fail
      refine (spec_Digits_nn S[k].toNat _ (by omega)).mono ?_
      rintro e w2 ⟨rfl, hb2⟩
      rw [← HD.out]
      have hr2 := row_belowV hr hb2
      have hB2 := hb.trans (hb2.mono hsz)
      have hsz2 := hB2.size
      clear hr hb hb2
      go_wp2_with (at_builtin; refine wpList_append_own _ rfl _ _ 26 rfl w1.heap.size 9 i0 (.string ⟨#[]⟩) 1 16 Tryd.underlying26 hi hz0 hz1 hz2 rfl (by decide) _ _ _ rfl (hr2.alloc _) ⟨w2.heap.size, 0, none⟩ 1 1 [.string (dec (word4 n k).toNat)] rfl rfl (fun j u h => cell_one_lit _ _ _ j u h) (by intro u hu; simp at hu; subst hu; rfl) (by unfold maxLen; omega) (by omega) (by simp; omega) ?_)
      intro v' w3 hown3 hgr3 _
      have hb3 : Below w1.heap.size w1 w3 := (hB2.alloc (by omega) _).grown hgr3 (by simp; omega) (fun q hq => (hr2.lt q hq).1)
      have hown4 : w3.ownsRow w1.heap.size 9 1 v' (k + 1) ((addrL n (k + 1)).map Value.string) := by
        rw [HL.out]
        simpa using hown3
      clear hown3 hgr3 hr2 hB2
      go_wp2
      go_roundw
      case rel => exact ⟨k + 1, by omega, by go_num, hown4, hb3⟩
      case measure => simp [intOf]; omega
    · have e : k = S.size := by omega
      subst e
      have hl : (addrL n S.size).length = S.size := by simp [addrL]
      have hsum := addrL_sums n S.size
      have T := hide (Txts.of_row (B := w1.heap.size) (e := 9) (L := addrL n S.size) (by rw [hl]; exact hr))
      have hn1 : (addrL n S.size).length ≤ 1048576 := by omega
      have hs1 : sums (addrL n S.size) (addrL n S.size).length ≤ 1048576 := by omega
      clear hl hsum hr
      go_wp2_with fail
      refine (spec_Joined _ (addrL n S.size) _ _ T.out hn1 (by decide) hs1).mono ?_
      rintro e w4 ⟨rfl, hb4⟩
      rw [← HT.out]
      have hB := Below.seq hb1 (hb.trans (hb4.mono hsz))
      clear hb4 hb
      go_wp2_with fail
      go_ret
      exact ⟨rfl, hB⟩
end Go.Proofs.YtpbndakbdaidnaaDoor
