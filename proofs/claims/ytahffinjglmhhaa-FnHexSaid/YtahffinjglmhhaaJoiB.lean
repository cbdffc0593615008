/-
  Parts joined are the text; joining tells lists of parts apart (plain).
-/
import Derived.Test.YtahffinjglmhhaaJoi
import Derived.Test.YtahffinjglmhhaaPure
namespace Go.Proofs.Ytahffinjglmhhaa
open Go.RowKit
set_option linter.unusedVariables false

theorem join_last (xs : List (List UInt8)) (x y sep : List UInt8) : Lib.join (xs ++ [x ++ y]) sep = Lib.join (xs ++ [x]) sep ++ y := by
  cases xs with
  | nil => simp [Lib.join_one]
  | cons a r => rw [join_snoc _ _ _ (by simp), join_snoc _ _ _ (by simp)]; simp [List.append_assoc]
theorem ext_step (s : ByteArray) (f k : Nat) (hf : f ≤ k) (hk : k < s.size) : (s.extract f (k + 1)).data.toList = (s.extract f k).data.toList ++ [s.data.toList.getD k 0] := by
  have e := extract_app s f k (k + 1) hf (by omega) (by omega)
  rw [← e, app_data]
  congr 1
  rw [Lib.extract_data, show k + 1 - k = 1 by omega, List.getD_eq_getElem?_getD]
  have h' : k < s.data.toList.length := by simpa using hk
  rw [List.getElem?_eq_getElem h', Option.getD_some, List.drop_eq_getElem_cons h']
  rfl
theorem joined_pt (s : ByteArray) (b : Int) (hb0 : 0 ≤ b) (hb1 : b ≤ 255) : ∀ k, k ≤ s.size → Lib.join (((pt s b k).1 ++ [s.extract (pt s b k).2 k]).map (·.data.toList)) [UInt8.ofNat b.toNat] = (s.extract 0 k).data.toList := by
  intro k
  induction k with
  | zero => intro _; simp [pt, Lib.join_one]
  | succ k ih =>
    intro hk
    have hi := ih (by omega)
    have hle := (pt_le s b k).1
    rw [ext_step s 0 k (by omega) (by omega), ← hi]
    rw [pt]
    split
    · rename_i he
      rw [List.map_append, List.map_cons, List.map_nil, join_snoc _ _ _ (by simp)]
      have z : (s.extract (k + 1) (k + 1)).data.toList = [] := by rw [Lib.extract_data]; simp
      show _ ++ _ ++ (s.extract (k + 1) (k + 1)).data.toList = _
      rw [z, List.append_nil]
      congr 2
      have h' : k < s.data.toList.length := by simp; omega
      rw [byt, List.getD_eq_getElem?_getD, List.getElem?_eq_getElem h', Option.getD_some] at he
      rw [List.getD_eq_getElem?_getD, List.getElem?_eq_getElem h', Option.getD_some, ← he]
      simp
    · rw [List.map_append, List.map_cons, List.map_nil, ext_step s _ k hle (by omega), join_last, List.map_append, List.map_cons, List.map_nil]
theorem joined_parts (s : ByteArray) (b : Int) (hb0 : 0 ≤ b) (hb1 : b ≤ 255) : joined (parts s b) ⟨#[UInt8.ofNat b.toNat]⟩ = s := by
  have h := joined_pt s b hb0 hb1 s.size (Nat.le_refl _)
  rw [extract_all] at h
  apply ba_ext
  rw [joined]
  show (Lib.join _ [UInt8.ofNat b.toNat]).toArray.toList = _
  rw [parts]
  exact h
theorem joinTail_nil (sep : List UInt8) : Lib.joinTail sep [] = [] := rfl
theorem joinTail_cons (sep y : List UInt8) (r : List (List UInt8)) : Lib.joinTail sep (y :: r) = sep ++ Lib.join (y :: r) sep := by
  rw [Lib.join_cons]; simp [Lib.joinTail, List.append_assoc]
theorem takeW {b : UInt8} {x z : List UInt8} (h : b ∉ x) : (x ++ b :: z).takeWhile (· != b) = x ∧ (x ++ b :: z).dropWhile (· != b) = b :: z := by
  induction x with
  | nil => simp
  | cons a x ih =>
    have ha : a ≠ b := fun e => h (by simp [e])
    have hx : b ∉ x := fun e => h (by simp [e])
    obtain ⟨i1, i2⟩ := ih hx
    have hab : (a != b) = true := by simpa using ha
    simp only [List.cons_append, List.takeWhile_cons, List.dropWhile_cons, hab, if_true]
    exact ⟨by rw [i1], i2⟩
theorem takeW0 {b : UInt8} {x : List UInt8} (h : b ∉ x) : x.takeWhile (· != b) = x ∧ x.dropWhile (· != b) = [] := by
  induction x with
  | nil => simp
  | cons a x ih =>
    have ha : a ≠ b := fun e => h (by simp [e])
    have hx : b ∉ x := fun e => h (by simp [e])
    obtain ⟨i1, i2⟩ := ih hx
    have hab : (a != b) = true := by simpa using ha
    simp only [List.takeWhile_cons, List.dropWhile_cons, hab, if_true]
    exact ⟨by rw [i1], i2⟩
/-- Lists of texts without the byte: told apart by what they join to. -/
theorem join_inj (b : UInt8) : ∀ (xs ys : List (List UInt8)), xs ≠ [] → ys ≠ [] → (∀ x ∈ xs, b ∉ x) → (∀ y ∈ ys, b ∉ y) → Lib.join xs [b] = Lib.join ys [b] → xs = ys := by
  intro xs
  induction xs with
  | nil => intro ys h; exact absurd rfl h
  | cons x r ih =>
    intro ys _ hy hx1 hy1 h
    cases ys with
    | nil => exact absurd rfl hy
    | cons y q =>
      have hbx := hx1 x (by simp)
      have hby := hy1 y (by simp)
      rw [Lib.join_cons, Lib.join_cons] at h
      cases r with
      | nil =>
        cases q with
        | nil => rw [joinTail_nil, List.append_nil, List.append_nil] at h; rw [h]
        | cons y2 q =>
          rw [joinTail_nil, List.append_nil, joinTail_cons] at h
          have e1 := (takeW0 hbx).2
          have e2 := (takeW (b := b) (z := Lib.join (y2 :: q) [b]) hby).2
          rw [h] at e1
          rw [show y ++ ([b] ++ Lib.join (y2 :: q) [b]) = y ++ b :: Lib.join (y2 :: q) [b] from rfl, e2] at e1
          cases e1
      | cons x2 r =>
        cases q with
        | nil =>
          rw [joinTail_nil, List.append_nil, joinTail_cons] at h
          have e1 := (takeW0 hby).2
          have e2 := (takeW (b := b) (z := Lib.join (x2 :: r) [b]) hbx).2
          rw [← h] at e1
          rw [show x ++ ([b] ++ Lib.join (x2 :: r) [b]) = x ++ b :: Lib.join (x2 :: r) [b] from rfl, e2] at e1
          cases e1
        | cons y2 q =>
          rw [joinTail_cons, joinTail_cons] at h
          have h' : x ++ b :: Lib.join (x2 :: r) [b] = y ++ b :: Lib.join (y2 :: q) [b] := h
          have e1 := takeW (b := b) (z := Lib.join (x2 :: r) [b]) hbx
          have e2 := takeW (b := b) (z := Lib.join (y2 :: q) [b]) hby
          have exy : x = y := by rw [← e1.1, ← e2.1, h']
          have et : b :: Lib.join (x2 :: r) [b] = b :: Lib.join (y2 :: q) [b] := by rw [← e1.2, ← e2.2, h']
          have et2 : Lib.join (x2 :: r) [b] = Lib.join (y2 :: q) [b] := by injection et
          have := ih (y2 :: q) (by simp) (by simp) (fun z hz => hx1 z (by simp at hz ⊢; right; exact hz)) (fun z hz => hy1 z (by simp at hz ⊢; right; exact hz)) et2
          rw [exy, this]
/-- No part holds the byte. -/
theorem parts_nob (s : ByteArray) (b : Int) (hb0 : 0 ≤ b) (hb1 : b ≤ 255) : ∀ k, k ≤ s.size → (∀ p ∈ (pt s b k).1, UInt8.ofNat b.toNat ∉ p.data.toList) ∧ UInt8.ofNat b.toNat ∉ (s.extract (pt s b k).2 k).data.toList := by
  intro k
  induction k with
  | zero => intro _; simp [pt]
  | succ k ih =>
    intro hk
    obtain ⟨i1, i2⟩ := ih (by omega)
    have hle := (pt_le s b k).1
    have h' : k < s.data.toList.length := by simp; omega
    rw [pt]
    split
    · refine ⟨fun p hp => ?_, ?_⟩
      · rcases List.mem_append.1 hp with hp | hp
        · exact i1 p hp
        · simp at hp; subst hp; exact i2
      · have z : (s.extract (k + 1) (k + 1)).data.toList = [] := by rw [Lib.extract_data]; simp
        show _ ∉ (s.extract (k + 1) (k + 1)).data.toList
        rw [z]; simp
    · rename_i he
      refine ⟨i1, ?_⟩
      rw [ext_step s _ k hle (by omega)]
      intro hm
      rcases List.mem_append.1 hm with hm | hm
      · exact i2 hm
      · simp only [List.mem_singleton] at hm
        apply he
        rw [byt, ← hm]
        simp
        omega
theorem row_belowV {w w' : World} {B size n : Nat} {e : TypeId} {v : Value} {xs : List Value} (h : w.ownsRow B e size v n xs) (hb : Below w.heap.size w w') : w'.ownsRow B e size v n xs := by
  refine ⟨h.1, ?_⟩
  rcases h.2 with ⟨h', h0⟩ | ⟨k, cap, cur, h', b0, hh, r⟩
  · exact .inl ⟨h', h0⟩
  · have hk : k < w.heap.size := by
      by_cases hlt : k < w.heap.size
      · exact hlt
      · rw [Array.getElem?_eq_none (by omega)] at hh; cases hh
    exact .inr ⟨k, cap, cur, h', b0, (hb.block k hk).trans hh, r⟩
theorem pt_sum (s : ByteArray) (b : Int) : ∀ k, k ≤ s.size → ((pt s b k).1.map (·.size)).sum ≤ (pt s b k).2 := by
  intro k
  induction k with
  | zero => intro _; simp [pt]
  | succ k ih =>
    intro hk
    have h1 := ih (by omega)
    have h2 := (pt_le s b k).1
    rw [pt]
    split
    · rw [List.map_append, List.sum_append]
      simp only [List.map_cons, List.map_nil, List.sum_cons, List.sum_nil, ByteArray.size_extract]
      omega
    · exact h1
theorem parts_sum (s : ByteArray) (b : Int) : ((parts s b).map (·.size)).sum ≤ s.size := by
  have h1 := pt_sum s b s.size (Nat.le_refl _)
  have h2 := (pt_le s b s.size).1
  rw [parts, List.map_append, List.sum_append]
  simp only [List.map_cons, List.map_nil, List.sum_cons, List.sum_nil, ByteArray.size_extract]
  omega
end Go.Proofs.Ytahffinjglmhhaa
