/-
  Texts joined: what Joined returns.
-/
import Derived.Test.YtahffinjglmhhaaPart
import Derived.Test.YtahffinjglmhhaaShelf
import Derived.Lib.AppendStr
import Derived.Lib.LazyBuf
import Derived.Deep.RegionHeld3
namespace Go.Proofs.Ytahffinjglmhhaa
open Go.RowKit
set_option linter.unusedVariables false

/-- A slice of texts that can be read. -/
def Txts (w : World) (v : Value) (L : List ByteArray) : Prop :=
  ∃ a c, v = .slice a L.length c ∧ L.length ≤ c ∧ c ≤ maxLen ∧ (L = [] ∨ ∃ b o, a = some ⟨b, o, none⟩ ∧ ∀ j x, L[j]? = some x → w.cell? ⟨b, o + j, none⟩ = some (.string x))
theorem Txts.below {w w' : World} {v : Value} {L : List ByteArray} (h : Txts w v L) (hb : Below w.heap.size w w') : Txts w' v L := by
  obtain ⟨a, c, hv, h1, h2, h3⟩ := h
  refine ⟨a, c, hv, h1, h2, ?_⟩
  rcases h3 with h3 | ⟨b, o, ha, hx⟩
  · exact .inl h3
  · exact .inr ⟨b, o, ha, fun j x hj => (hb.cell (p := ⟨b, o + j, none⟩) (World.block_lt_of_cell? w _ (hx j x hj))).trans (hx j x hj)⟩
theorem Txts.of_row {w : World} {v : Value} {B : Nat} {e : TypeId} {L : List ByteArray} (r : w.ownsRow B e 1 v L.length (L.map Value.string)) : Txts w v L := by
  have r0 := r
  rcases r.2 with ⟨rfl, h0⟩ | ⟨g, cap, cur, rfl, hb, hg, hnc, hcm, hcs, htake⟩
  · exact ⟨none, 0, by rw [h0], by omega, Nat.zero_le _, .inl (List.eq_nil_of_length_eq_zero h0)⟩
  · refine ⟨_, _, rfl, hnc, hcm, .inr ⟨g, 0, rfl, fun j x hj => ?_⟩⟩
    have hl : j < L.length := (List.getElem?_eq_some_iff.1 hj).1
    rw [Nat.zero_add, r0.cellAt j (by omega), List.getElem?_map, hj]; rfl
/-- The first k texts joined. -/
def jl (L : List ByteArray) (sep : ByteArray) (k : Nat) : List UInt8 := Lib.join ((L.take k).map (·.data.toList)) sep.data.toList
def joined (L : List ByteArray) (sep : ByteArray) : ByteArray := ⟨(Lib.join (L.map (·.data.toList)) sep.data.toList).toArray⟩
theorem join_snoc (xs : List (List UInt8)) (x sep : List UInt8) (h : xs ≠ []) : Lib.join (xs ++ [x]) sep = Lib.join xs sep ++ sep ++ x := by
  cases xs with
  | nil => exact absurd rfl h
  | cons a r => rw [List.cons_append, Lib.join_cons, Lib.join_cons]; simp [Lib.joinTail, List.append_assoc]
theorem jl_all (L : List ByteArray) (sep : ByteArray) : (⟨(jl L sep L.length).toArray⟩ : ByteArray) = joined L sep := by rw [jl, joined, List.take_length]
theorem jl_one (L : List ByteArray) (sep x : ByteArray) (h : L[0]? = some x) : jl L sep 1 = x.data.toList := by
  cases L with
  | nil => cases h
  | cons y L => simp at h; subst h; simp [jl, Lib.join_one]
theorem jl_succ (L : List ByteArray) (sep : ByteArray) (k : Nat) (x : ByteArray) (hk : 0 < k) (h : L[k]? = some x) : jl L sep (k + 1) = jl L sep k ++ sep.data.toList ++ x.data.toList := by
  have hl : k < L.length := (List.getElem?_eq_some_iff.1 h).1
  rw [jl, jl, List.take_add_one, h, Option.toList_some, List.map_append, List.map_cons, List.map_nil]
  refine join_snoc _ _ _ fun e => ?_
  have h2 := congrArg List.length e
  rw [List.length_map, List.length_take, List.length_nil] at h2
  omega
def sums (L : List ByteArray) (k : Nat) : Nat := ((L.take k).map (·.size)).sum
theorem sums_succ (L : List ByteArray) (k : Nat) (x : ByteArray) (h : L[k]? = some x) : sums L (k + 1) = sums L k + x.size := by
  rw [sums, sums, List.take_add_one, h, Option.toList_some, List.map_append, List.sum_append]; simp
theorem sums_le (L : List ByteArray) : ∀ (d k : Nat), k + d = L.length → sums L k ≤ sums L L.length := by
  intro d
  induction d with
  | zero => intro k h; rw [show k = L.length by omega]; exact Nat.le_refl _
  | succ d ih =>
    intro k h
    have hl : k < L.length := by omega
    have h1 := sums_succ L k L[k] (by simp [hl])
    have h2 := ih (k + 1) (by omega)
    omega
theorem jl_len (L : List ByteArray) (sep : ByteArray) : ∀ k, k ≤ L.length → (jl L sep k).length ≤ k * sep.size + sums L k := by
  intro k
  induction k with
  | zero => intro _; simp [jl, Lib.join_nil]
  | succ k ih =>
    intro h
    have hl : k < L.length := by omega
    have hx : L[k]? = some L[k] := by simp [hl]
    rw [sums_succ L k _ hx]
    by_cases h0 : k = 0
    · subst h0
      rw [jl_one L sep _ hx]
      have : L[0].data.toList.length = L[0].size := rfl
      omega
    · rw [jl_succ L sep k _ (by omega) hx]
      have h1 := ih (by omega)
      have h2 : L[k].data.toList.length = L[k].size := rfl
      have h3 : sep.data.toList.length = sep.size := rfl
      rw [List.length_append, List.length_append, h2, h3, Nat.succ_mul]
      omega
theorem jl_bd (L : List ByteArray) (sep : ByteArray) (hn : L.length ≤ 1048576) (hb : sep.size ≤ 1048576) (hs : sums L L.length ≤ 1048576) (k : Nat) (hk : k ≤ L.length) : (jl L sep k).length ≤ 1099512676352 := by
  have h1 := jl_len L sep k hk
  have h2 := sums_le L (L.length - k) k (by omega)
  have h3 : k * sep.size ≤ 1048576 * 1048576 := Nat.mul_le_mul (by omega) hb
  omega
def lc (l : List UInt8) : List Value := (l.map fun b => (b.toNat : Int)).map (Value.int .u8)
theorem lc_len (l : List UInt8) : (lc l).length = l.length := by simp [lc]
theorem lc_app (a b : List UInt8) : lc (a ++ b) = lc a ++ lc b := by simp [lc]
theorem lc_str (s : ByteArray) : Lib.strCells s = lc s.data.toList := by simp [lc, Lib.strCells]
theorem impl_Joined (v : Value) (L : List ByteArray) (sep : ByteArray) (w : World) (h : Txts w v L) (hn : L.length ≤ 1048576) (hb : sep.size ≤ 1048576) (hs : sums L L.length ≤ 1048576) :
    Calls Try.prog 22 #[v, .string sep] w fun e w' => e = .returned (.string (joined L sep)) ∧ Below w.heap.size w w' := by
  have hj := jl_bd L sep hn hb hs L.length (Nat.le_refl _)
  have hj2 : (Lib.join (L.map (·.data.toList)) sep.data.toList).length ≤ 140737488355328 := by
    rw [jl, List.take_length] at hj; omega
  obtain ⟨a, c, rfl, h1, h2, h3⟩ := h
  by_cases h0 : L = []
  · subst h0
    have H := hide (Try.strings_Join_none a c sep w)
    clear h1 h2 h3 hj hj2 hs hn
    go_enter Try.func22, Try.ntmps22
    go_wp2_with fail
    refine (H.out).mono ?_
    rintro e w1 ⟨rfl, rfl⟩
    go_wp2_with fail
    go_ret
    exact ⟨rfl, Below.refl _ _⟩
  · obtain ⟨b, o, rfl, hx⟩ : ∃ b o, a = some ⟨b, o, none⟩ ∧ ∀ j x, L[j]? = some x → w.cell? ⟨b, o + j, none⟩ = some (.string x) := by
      rcases h3 with h3 | h3
      · exact absurd h3 h0
      · exact h3
    have hl : 0 < L.length := List.length_pos_iff.2 h0
    have hlt : b < w.heap.size := World.block_lt_of_cell? w _ (hx 0 L[0] (by simp [hl]))
    have H := hide (Try.strings_Join b o c L sep w hx hlt (by omega) h1 hj2)
    clear h1 h2 h3 hj hj2 hs hn hx
    go_enter Try.func22, Try.ntmps22
    go_wp2_with fail
    refine (H.out).mono ?_
    rintro e w1 ⟨rfl, hb1⟩
    go_wp2_with fail
    go_ret
    exact ⟨rfl, hb1⟩
end Go.Proofs.Ytahffinjglmhhaa
