/-
  Texts joined: what Joined returns.
-/
import Derived.Test.YtahffinjglmhhaaDoorPart
import Derived.Test.YtahffinjglmhhaaDoorShelf
import Derived.Lib.AppendStr
import Derived.Lib.LazyBuf
import Derived.Deep.RegionHeld3
namespace Go.Proofs.YtahffinjglmhhaaDoor
open Go.RowKit
set_option linter.unusedVariables false

/-- A slice of texts that can be read. -/
def Txts (w : World) (v : Value) (L : List ByteArray) : Prop :=
  ∃ a c, v = .slice a L.length c ∧ L.length ≤ c ∧ c ≤ maxLen ∧ (L = [] ∨ ∃ b o, a = some ⟨b, o, none⟩ ∧ ∀ j x, L[j]? = some x → w.cell? ⟨b, o + j, none⟩ = some (.string x))
theorem Txts.below {w w' : World} {v : Value} {L : List ByteArray} (h : Txts w v L) (hb : Below w.heap.size w w') : Txts w' v L := by
  obtain ⟨a, c, hv, h1, h2, h3⟩ := h
  refine ⟨a, c, hv, h1, h2, ?_⟩
  rcases h3 with h3 | ⟨b, o, ha, hx⟩
  · exact .inl h3
  · exact .inr ⟨b, o, ha, fun j x hj => (hb.cell (p := ⟨b, o + j, none⟩) (World.block_lt_of_cell? w _ (hx j x hj))).trans (hx j x hj)⟩
theorem Txts.of_row {w : World} {v : Value} {B : Nat} {e : TypeId} {L : List ByteArray} (r : w.ownsRow B e 1 v L.length (L.map Value.string)) : Txts w v L := by
  have r0 := r
  rcases r.2 with ⟨rfl, h0⟩ | ⟨g, cap, cur, rfl, hb, hg, hnc, hcm, hcs, htake⟩
  · exact ⟨none, 0, by rw [h0], by omega, Nat.zero_le _, .inl (List.eq_nil_of_length_eq_zero h0)⟩
  · refine ⟨_, _, rfl, hnc, hcm, .inr ⟨g, 0, rfl, fun j x hj => ?_⟩⟩
    have hl : j < L.length := (List.getElem?_eq_some_iff.1 hj).1
    rw [Nat.zero_add, r0.cellAt j (by omega), List.getElem?_map, hj]; rfl
/-- The first k texts joined. -/
def jl (L : List ByteArray) (sep : ByteArray) (k : Nat) : List UInt8 := Lib.join ((L.take k).map (·.data.toList)) sep.data.toList
def joined (L : List ByteArray) (sep : ByteArray) : ByteArray := ⟨(Lib.join (L.map (·.data.toList)) sep.data.toList).toArray⟩
theorem join_snoc (xs : List (List UInt8)) (x sep : List UInt8) (h : xs ≠ []) : Lib.join (xs ++ [x]) sep = Lib.join xs sep ++ sep ++ x := by
  cases xs with
  | nil => exact absurd rfl h
  | cons a r => rw [List.cons_append, Lib.join_cons, Lib.join_cons]; simp [Lib.joinTail, List.append_assoc]
theorem jl_all (L : List ByteArray) (sep : ByteArray) : (⟨(jl L sep L.length).toArray⟩ : ByteArray) = joined L sep := by rw [jl, joined, List.take_length]
theorem jl_one (L : List ByteArray) (sep x : ByteArray) (h : L[0]? = some x) : jl L sep 1 = x.data.toList := by
  cases L with
  | nil => cases h
  | cons y L => simp at h; subst h; simp [jl, Lib.join_one]
theorem jl_succ (L : List ByteArray) (sep : ByteArray) (k : Nat) (x : ByteArray) (hk : 0 < k) (h : L[k]? = some x) : jl L sep (k + 1) = jl L sep k ++ sep.data.toList ++ x.data.toList := by
  have hl : k < L.length := (List.getElem?_eq_some_iff.1 h).1
  rw [jl, jl, List.take_add_one, h, Option.toList_some, List.map_append, List.map_cons, List.map_nil]
  refine join_snoc _ _ _ fun e => ?_
  have h2 := congrArg List.length e
  rw [List.length_map, List.length_take, List.length_nil] at h2
  omega
def sums (L : List ByteArray) (k : Nat) : Nat := ((L.take k).map (·.size)).sum
theorem sums_succ (L : List ByteArray) (k : Nat) (x : ByteArray) (h : L[k]? = some x) : sums L (k + 1) = sums L k + x.size := by
  rw [sums, sums, List.take_add_one, h, Option.toList_some, List.map_append, List.sum_append]; simp
theorem sums_le (L : List ByteArray) : ∀ (d k : Nat), k + d = L.length → sums L k ≤ sums L L.length := by
  intro d
  induction d with
  | zero => intro k h; rw [show k = L.length by omega]; exact Nat.le_refl _
  | succ d ih =>
    intro k h
    have hl : k < L.length := by omega
    have h1 := sums_succ L k L[k] (by simp [hl])
    have h2 := ih (k + 1) (by omega)
    omega
theorem jl_len (L : List ByteArray) (sep : ByteArray) : ∀ k, k ≤ L.length → (jl L sep k).length ≤ k * sep.size + sums L k := by
  intro k
  induction k with
  | zero => intro _; simp [jl, Lib.join_nil]
  | succ k ih =>
    intro h
    have hl : k < L.length := by omega
    have hx : L[k]? = some L[k] := by simp [hl]
    rw [sums_succ L k _ hx]
    by_cases h0 : k = 0
    · subst h0
      rw [jl_one L sep _ hx]
      have : L[0].data.toList.length = L[0].size := rfl
      omega
    · rw [jl_succ L sep k _ (by omega) hx]
      have h1 := ih (by omega)
      have h2 : L[k].data.toList.length = L[k].size := rfl
      have h3 : sep.data.toList.length = sep.size := rfl
      rw [List.length_append, List.length_append, h2, h3, Nat.succ_mul]
      omega
theorem jl_bd (L : List ByteArray) (sep : ByteArray) (hn : L.length ≤ 1048576) (hb : sep.size ≤ 1048576) (hs : sums L L.length ≤ 1048576) (k : Nat) (hk : k ≤ L.length) : (jl L sep k).length ≤ 1099512676352 := by
  have h1 := jl_len L sep k hk
  have h2 := sums_le L (L.length - k) k (by omega)
  have h3 : k * sep.size ≤ 1048576 * 1048576 := Nat.mul_le_mul (by omega) hb
  omega
def lc (l : List UInt8) : List Value := (l.map fun b => (b.toNat : Int)).map (Value.int .u8)
theorem lc_len (l : List UInt8) : (lc l).length = l.length := by simp [lc]
theorem lc_app (a b : List UInt8) : lc (a ++ b) = lc a ++ lc b := by simp [lc]
theorem lc_str (s : ByteArray) : Lib.strCells s = lc s.data.toList := by simp [lc, Lib.strCells]
theorem impl_Joined (v : Value) (L : List ByteArray) (sep : ByteArray) (w : World) (h : Txts w v L) (hn : L.length ≤ 1048576) (hb : sep.size ≤ 1048576) (hs : sums L L.length ≤ 1048576) :
    Calls Tryd.prog 26 #[v, .string sep] w fun e w' => e = .returned (.string (joined L sep)) ∧ Below w.heap.size w w' := by
  have hj := jl_bd L sep hn hb hs L.length (Nat.le_refl _)
  have hj2 : (Lib.join (L.map (·.data.toList)) sep.data.toList).length ≤ 140737488355328 := by
    rw [jl, List.take_length] at hj; omega
  obtain ⟨a, c, rfl, h1, h2, h3⟩ := h
  by_cases h0 : L = []
  · subst h0
    have H := hide (Tryd.strings_Join_none a c sep w)
    clear h1 h2 h3 hj hj2 hs hn
    go_enter Tryd.func26, Tryd.ntmps26
    go_wp2_with fail
    refine (H.out).mono ?_
    rintro e w1 ⟨rfl, rfl⟩
    go_wp2_with fail
    go_ret
    exact ⟨rfl, Below.refl _ _⟩
  · obtain ⟨b, o, rfl, hx⟩ : ∃ b o, a = some ⟨b, o, none⟩ ∧ ∀ j x, L[j]? = some x → w.cell? ⟨b, o + j, none⟩ = some (.string x) := by
      rcases h3 with h3 | h3
      · exact absurd h3 h0
      · exact h3
    have hl : 0 < L.length := List.length_pos_iff.2 h0
    have hlt : b < w.heap.size := World.block_lt_of_cell? w _ (hx 0 L[0] (by simp [hl]))
    have H := hide (Tryd.strings_Join b o c L sep w hx hlt (by omega) h1 hj2)
    clear h1 h2 h3 hj hj2 hs hn hx
    go_enter Tryd.func26, Tryd.ntmps26
    go_wp2_with fail
    refine (H.out).mono ?_
    rintro e w1 ⟨rfl, hb1⟩
    go_wp2_with fail
    go_ret
    exact ⟨rfl, hb1⟩
set_option maxHeartbeats 1000000 in
theorem spec_Joined (v : Value) (L : List ByteArray) (sep : ByteArray) (w : World) (h : Txts w v L) (hn : L.length ≤ 1048576) (hb : sep.size ≤ 1048576) (hs : sums L L.length ≤ 1048576) :
    Calls Tryd.prog 39 #[v, .string sep] w fun e w' => e = .returned (.string (joined L sep)) ∧ Below w.heap.size w w' := by
  obtain ⟨i0, hi, hz0, hz1, hz2⟩ := info_parts info_u8
  have HJ := hide (fun k hk => jl_bd L sep hn hb hs k hk)
  obtain ⟨a, c, rfl, h1, h2, h3⟩ := h
  have H3 := hide h3
  clear h3 hs
  go_enter Tryd.func39, Tryd.ntmps39
  go_wp2
  go_loopw [5, 6] (fun v i wr => ∃ k : Nat, k ≤ L.length ∧ i = .int .i64 k ∧ wr.ownsRow w.heap.size 5 1 v (jl L sep k).length (lc (jl L sep k)) ∧ Below w.heap.size w wr) (fun _ i _ => L.length - (intOf i).toNat)
  case atStart => exact ⟨0, by omega, rfl, World.ownsRow_made w #[] 0 (Nat.le_refl _) (by decide) (by simp), (by repeat (first | with_reducible exact Below.refl _ _ | with_reducible assumption | with_reducible refine Below.al ?_ _ | with_reducible refine Below.drew ?_ | with_reducible refine Below.seq ?_ (by assumption) | (with_reducible refine Below.setCell ?_ ?_ _); rotate_left; focus (first | exact Nat.le_refl _ | (simp; done) | (simp; omega))))⟩
  case round =>
    obtain ⟨k, hk, rfl, hr, hb⟩ := hrel
    have hsz := hb.size
    by_cases hlt : k < L.length
    · obtain ⟨b, o, rfl, hx⟩ : ∃ b o, a = some ⟨b, o, none⟩ ∧ ∀ j x, L[j]? = some x → w.cell? ⟨b, o + j, none⟩ = some (.string x) := by
        rcases H3.out with h | h
        · rw [h] at hlt; exact absurd hlt (Nat.not_lt_zero _)
        · exact h
      have hxk : L[k]? = some L[k] := by simp [hlt]
      obtain ⟨x, hxe⟩ : ∃ x, x = L[k] := ⟨_, rfl⟩
      rw [← hxe] at hxk
      have hc0 := hx k x hxk
      have hlb := World.block_lt_of_cell? w ⟨b, o + k, none⟩ hc0
      have hc := (hb.cell (p := ⟨b, o + k, none⟩) hlb).trans hc0
      have j1 : (k : Int) < (L.length : Int) := by omega
      have hl := HJ.out k hk
      have hl1 := HJ.out (k + 1) (by omega)
      have HXK := hide hxk
      clear hxe hx hxk
      by_cases h0 : k = 0
      · subst h0
        have HE := hide (jl_one L sep x HXK.out)
        have hc' : wr.cell? ⟨b, o, none⟩ = some (.string x) := hc
        clear hc hc0 hlb
        have hl2 : x.size ≤ 1099512676352 := by rw [HE.out] at hl1; exact hl1
        have e0 : jl L sep 0 = [] := by simp [jl, Lib.join_nil]
        rw [e0] at hr
        have X31 : (([] : List UInt8)).length + x.size ≤ maxLen := by unfold maxLen; simp only [List.length_nil]; omega
        have X32 : (([] : List UInt8)).length + x.size ≤ 140737488355328 := by simp only [List.length_nil]; omega
        have HR := hide hr
        have Y31 := hide X31
        have Y32 := hide X32
        clear e0 hl hl1 X31 X32
        go_wp2_with (at_builtin; refine Lib.wpList_append_own_string _ rfl _ _ 22 9 rfl w.heap.size 5 i0 Tryd.underlying22 Tryd.underlying9 hi hz0 hz1 hz2 _ _ _ rfl hr x rfl Y31.out Y32.out hsz ?_)
        intro v' w3 hown3 hgr3 _
        have hb3 : Below w.heap.size w w3 := hb.grown hgr3 hsz (fun q hq => (hr.lt q hq).1)
        have hown4 : w3.ownsRow w.heap.size 5 1 v' (jl L sep (0 + 1)).length (lc (jl L sep (0 + 1))) := by
          rw [show 0 + 1 = 1 from rfl, HE.out, ← lc_str]
          have e1 : x.data.toList.length = x.size := rfl
          rw [e1]
          exact hown3
        clear hown3 hgr3 hr hb hc'
        go_wp2
        go_roundw
        case rel => exact ⟨0 + 1, by omega, by go_num, hown4, hb3⟩
        case measure => simp [intOf]; omega
      · have HE := hide (jl_succ L sep k x (by omega) HXK.out)
        have g0 : (0 : Int) < (k : Int) := by omega
        have hsum : (jl L sep k).length + sep.size + x.size ≤ 1099512676352 := by
          rw [HE.out, List.length_append, List.length_append] at hl1; exact hl1
        obtain ⟨J, hJ⟩ : ∃ J, J = jl L sep k := ⟨_, rfl⟩
        rw [← hJ] at hr hl hsum
        have HJe := hide hJ
        clear hJ hl1
        go_wp2_with (at_builtin; refine Lib.wpList_append_own_string _ rfl _ _ 22 9 rfl w.heap.size 5 i0 Tryd.underlying22 Tryd.underlying9 hi hz0 hz1 hz2 _ _ _ rfl hr sep rfl (by unfold maxLen; omega) (by omega) hsz ?_)
        intro v2 w2 hown2 hgr2 _
        have hb2 : Below w.heap.size w w2 := hb.grown hgr2 hsz (fun q hq => (hr.lt q hq).1)
        have hc2 := (hb2.cell (p := ⟨b, o + k, none⟩) hlb).trans hc0
        have hsz2 := hb2.size
        clear hr hb hc hgr2
        go_wp2_with (at_builtin; refine Lib.wpList_append_own_string _ rfl _ _ 22 9 rfl w.heap.size 5 i0 Tryd.underlying22 Tryd.underlying9 hi hz0 hz1 hz2 _ _ _ rfl hown2 x rfl (by unfold maxLen; omega) (by omega) hsz2 ?_)
        intro v3 w3 hown3 hgr3 _
        have hb3 : Below w.heap.size w w3 := hb2.grown hgr3 hsz2 (fun q hq => (hown2.lt q hq).1)
        have hown4 : w3.ownsRow w.heap.size 5 1 v3 (jl L sep (k + 1)).length (lc (jl L sep (k + 1))) := by
          rw [HE.out, ← HJe.out, lc_app, lc_app, ← lc_str, ← lc_str, List.length_append, List.length_append, List.append_assoc]
          exact hown3
        clear hown3 hgr3 hown2 hb2 hc2
        go_wp2
        go_roundw
        case rel => exact ⟨k + 1, by omega, by go_num, hown4, hb3⟩
        case measure => simp [intOf]; omega
    · have e : k = L.length := by omega
      subst e
      have hconv := run_string_own (P := Tryd.prog) Tryd.underlying22 Tryd.underlying5 Tryd.underlying9 hr
      rw [Lib.Lz.strOfNums_map, jl_all] at hconv
      go_wp2
      go_ret
      exact ⟨rfl, hb⟩
end Go.Proofs.YtahffinjglmhhaaDoor
