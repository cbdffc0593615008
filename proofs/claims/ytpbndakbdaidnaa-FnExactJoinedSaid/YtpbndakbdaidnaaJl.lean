/-
  Rows of strings taken over and measured; the law of Joined.
-/
import Derived.Test.YtpbndakbdaidnaaJoi
import Derived.Test.YtpbndakbdaidnaaEqs
import Derived.SliceStrings
import Derived.Deep.AppendLies
namespace Go.Proofs.Ytpbndakbdaidnaa
open Go.RowKit
set_option linter.unusedVariables false
theorem row_below' {w w' : World} {B C size n g cap : Nat} {e : TypeId} {xs : List Value} (h : w.ownsRow B e size (.slice (some ⟨g, 0, none⟩) n cap) n xs) (hb : Below C w w') (hg : g < C) : w'.ownsRow B e size (.slice (some ⟨g, 0, none⟩) n cap) n xs := by
  refine ⟨h.1, ?_⟩
  rcases h.2 with ⟨h', h0⟩ | ⟨g', cap', cur, h', b0, hh, r⟩
  · exact .inl ⟨h', h0⟩
  · simp only [Value.slice.injEq, Option.some.injEq, Addr.mk.injEq, and_true, true_and] at h'
    obtain ⟨rfl, rfl⟩ := h'
    exact .inr ⟨g, cap, cur, rfl, b0, (hb.block g hg).trans hh, r⟩
def IsStrs (w : World) (a : Option Addr) (l c : Nat) (L : List ByteArray) : Prop := Txts w (.slice a l c) L ∧ ∀ x ∈ L, x.size ≤ maxLen
theorem strs_of_cells {w : World} {x : Addr} {l c : Nat} {zs : List ByteArray} (hl : l ≤ c) (hm : c ≤ maxLen) (hz : l ≤ zs.length) (hc : ∀ i, i < zs.length → w.cell? (x.add i) = some (.string (zs.getD i ByteArray.empty))) : Txts w (.slice (some x) l c) (zs.take l) := by
  have hlen : (zs.take l).length = l := by rw [List.length_take]; omega
  refine ⟨some x, c, by rw [hlen], by rw [hlen]; exact hl, hm, ?_⟩
  rcases Nat.eq_zero_or_pos l with h0 | h0
  · subst h0; exact .inl (by simp)
  · obtain ⟨b, o, sp⟩ := x
    have hsp : sp = none := by
      have h := hc 0 (by omega)
      have e : (⟨b, o, sp⟩ : Addr).add 0 = ⟨b, o, sp⟩ := rfl
      rw [e] at h
      cases sp with
      | none => rfl
      | some q =>
        unfold World.cell? at h
        simp at h
        split at h <;> cases h
    subst hsp
    refine .inr ⟨b, o, rfl, fun j y hj => ?_⟩
    have hjl : j < l := by have := (List.getElem?_eq_some_iff.1 hj).1; omega
    have h := hc j (by omega)
    have e : (⟨b, o, none⟩ : Addr).add j = ⟨b, o + j, none⟩ := by unfold Addr.add; split <;> simp_all
    rw [e] at h
    rw [h, List.getD_eq_getElem?_getD]
    rw [List.getElem?_take, if_pos hjl] at hj
    rw [hj]; rfl
theorem szStringS_any (v : Value) (L : List ByteArray) (w : World) (h : Txts w v L) (hm : ∀ x ∈ L, x.size ≤ maxLen) :
    Calls Try.prog 9 #[v, .int .i64 1048576] w fun e w' => (∃ x : Int, e = .returned (.int .i64 x) ∧ (0 ≤ x → L.length ≤ 1048576 ∧ sums L L.length ≤ 1048576)) ∧ w = w' := by
  obtain ⟨a, c, rfl, h1, h2, h3⟩ := h
  have H3 := hide h3
  have HM := hide hm
  unfold maxLen at h2
  clear h3 hm
  by_cases hl : 1048576 < L.length
  · go_enter Try.func9, Try.ntmps9
    go_wp2
    go_ret
    exact ⟨⟨-1, rfl, fun h => by omega⟩, rfl⟩
  go_enter Try.func9, Try.ntmps9
  go_wp2
  go_loop [1, 5] (fun q i => ∃ k : Nat, k ≤ L.length ∧ i = .int .i64 k ∧ (sums L k : Int) + L.length ≤ 1048576 ∧ q = .int .i64 (1048576 - (L.length : Int) - (sums L k : Nat))) (fun _ i => L.length - (intOf i).toNat)
  case atStart => exact ⟨0, by omega, rfl, by simp [sums]; omega, by simp [sums]⟩
  case round =>
    obtain ⟨k, hk, rfl, hs, rfl⟩ := hrel
    by_cases hlt : k < L.length
    · obtain ⟨b, o, rfl, hx⟩ : ∃ b o, a = some ⟨b, o, none⟩ ∧ ∀ j x, L[j]? = some x → w.cell? ⟨b, o + j, none⟩ = some (.string x) := by
        rcases H3.out with h | h
        · rw [h] at hlt; exact absurd hlt (Nat.not_lt_zero _)
        · exact h
      have hxk : L[k]? = some L[k] := by simp [hlt]
      obtain ⟨x, hxe⟩ : ∃ x, x = L[k] := ⟨_, rfl⟩
      rw [← hxe] at hxk
      have hc := hx k x hxk
      have hxm := HM.out x (by rw [hxe]; exact List.getElem_mem _)
      unfold maxLen at hxm
      have HS := hide (sums_succ L k x hxk)
      have j1 : (k : Int) < (L.length : Int) := by omega
      obtain ⟨S, hS⟩ : ∃ S, S = sums L k := ⟨_, rfl⟩
      rw [← hS] at hs ⊢
      have HSe := hide hS
      clear hxe hx hxk hS
      by_cases hneg : 1048576 - (L.length : Int) - (S : Nat) - x.size < 0
      · go_wp2
        go_ret
        exact ⟨⟨-1, rfl, fun h => by omega⟩, rfl⟩
      · go_wp2
        go_round
        case rel => exact ⟨k + 1, by omega, by go_num, by rw [HS.out, ← HSe.out]; omega, by rw [HS.out, ← HSe.out]; congr 1; omega⟩
        case measure => simp [intOf]; omega
    · have e : k = L.length := by omega
      subst e
      go_wp2
      go_ret
      exact ⟨⟨_, rfl, fun h => ⟨by omega, by omega⟩⟩, rfl⟩
theorem row_set (L : List ByteArray) (k : Nat) (hk : k < L.length) (z : Value) : ((L.take k).map Value.string ++ List.replicate (L.length - k) z).set k (.string L[k]) = (L.take (k + 1)).map Value.string ++ List.replicate (L.length - (k + 1)) z := by
  have hl : ((L.take k).map Value.string).length = k := by rw [List.length_map, List.length_take]; omega
  rw [List.set_append_right _ _ (by omega), hl, Nat.sub_self, show L.length - k = (L.length - (k + 1)) + 1 by omega, List.replicate_succ, List.set_cons_zero, List.take_add_one, List.getElem?_eq_getElem hk, Option.toList_some, List.map_append]
  simp
theorem toStringS_any (v : Value) (L : List ByteArray) (w : World) (h : Txts w v L) (hn : L.length ≤ 1048576) :
    Calls Try.prog 11 #[v] w fun e w' => (∃ u, e = .returned u ∧ w'.ownsRow w.heap.size 9 1 u L.length (L.map Value.string)) ∧ Below w.heap.size w w' := by
  obtain ⟨i0, hi, hz0, hz1, hz2⟩ := info_parts info_str
  obtain ⟨a, c, rfl, h1, h2, h3⟩ := h
  have H3 := hide h3
  unfold maxLen at h2
  clear h3
  go_enter Try.func11, Try.ntmps11
  go_wp2_with (at_make; refine wpList_make_full _ rfl _ _ 22 rfl w.heap.size 9 i0 (.string ⟨#[]⟩) 1 Try.underlying22 hi hz0 hz1 .i64 .i64 _ _ L.length rfl rfl rfl rfl (by rw [hz2]; omega) (by unfold maxLen; omega) (Nat.le_refl _) ?_; intro w1 hown hgr)
  have hown0 : w1.ownsRow w.heap.size 9 1 (.slice (some ⟨w.heap.size, 0, none⟩) L.length L.length) L.length ((L.take 0).map Value.string ++ List.replicate (L.length - 0) (.string ⟨#[]⟩)) := by
    have e : (madeCells (Value.string ⟨#[]⟩).cells (L.length * 1)).toList = (L.take 0).map Value.string ++ List.replicate (L.length - 0) (.string ⟨#[]⟩) := by
      rw [Nat.mul_one]
      exact (toList_madeCells_one _ _).trans (by simp)
    rw [← e]; exact hown
  have hb1 : Below w.heap.size w w1 := (Below.refl _ _).grown hgr (Nat.le_refl _) (fun k hk => by cases hk)
  clear hown hgr
  go_loopw [4] (fun i wr => ∃ k : Nat, k ≤ L.length ∧ i = .int .i64 k ∧ wr.ownsRow w.heap.size 9 1 (.slice (some ⟨w.heap.size, 0, none⟩) L.length L.length) L.length ((L.take k).map Value.string ++ List.replicate (L.length - k) (.string ⟨#[]⟩)) ∧ Below w.heap.size w wr) (fun i _ => L.length - (intOf i).toNat)
  case atStart => exact ⟨0, by omega, rfl, hown0, hb1⟩
  case round =>
    obtain ⟨k, hk, rfl, hr, hb⟩ := hrel
    clear hown0 hb1
    by_cases hlt : k < L.length
    · obtain ⟨b, o, rfl, hx⟩ : ∃ b o, a = some ⟨b, o, none⟩ ∧ ∀ j x, L[j]? = some x → w.cell? ⟨b, o + j, none⟩ = some (.string x) := by
        rcases H3.out with h | h
        · rw [h] at hlt; exact absurd hlt (Nat.not_lt_zero _)
        · exact h
      have hxk : L[k]? = some L[k] := by simp [hlt]
      have HRS := hide (row_set L k hlt (.string ⟨#[]⟩))
      obtain ⟨x, hxe⟩ : ∃ x, x = L[k] := ⟨_, rfl⟩
      rw [← hxe] at hxk
      have hc0 := hx k x hxk
      have hc := (hb.cell (p := ⟨b, o + k, none⟩) (World.block_lt_of_cell? w ⟨b, o + k, none⟩ hc0)).trans hc0
      have hd : wr.cell? ⟨w.heap.size, k, none⟩ = some (.string ⟨#[]⟩) := by
        have hl : ((L.take k).map Value.string).length = k := by rw [List.length_map, List.length_take]; omega
        rw [hr.cellAt k (by omega), List.getElem?_append_right (by omega), hl, Nat.sub_self, List.getElem?_replicate, if_pos (by omega)]
      have hf := hr.frozenAt k
      have j1 : (k : Int) < (L.length : Int) := by omega
      have R := hide (show (wr.setCell ⟨w.heap.size, k, none⟩ (.string x)).ownsRow w.heap.size 9 1 (.slice (some ⟨w.heap.size, 0, none⟩) L.length L.length) L.length ((L.take (k + 1)).map Value.string ++ List.replicate (L.length - (k + 1)) (.string ⟨#[]⟩)) by
        have h := (hr.stored k (.string x)).1
        rw [hxe, HRS.out] at h
        rw [hxe]
        exact h)
      have HX := hide hxe
      clear hxk hxe hx hc0 hr
      go_wp2
      go_roundw
      case rel => exact ⟨k + 1, by omega, by go_num, R.out, hb.setCell (Nat.le_refl _) _⟩
      case measure => simp [intOf]; omega
    · have e : k = L.length := by omega
      subst e
      have hr' : wr.ownsRow w.heap.size 9 1 (.slice (some ⟨w.heap.size, 0, none⟩) L.length L.length) L.length (L.map Value.string) := by
        rw [List.take_length, Nat.sub_self, List.replicate_zero, List.append_nil] at hr
        exact hr
      have HR := hide hr'
      clear hr hr'
      go_wp2
      go_ret
      exact ⟨⟨_, rfl, HR.out⟩, hb⟩
theorem eqStringS_none (a1 a2 : Option Addr) (c1 c2 : Nat) (w : World) (h1 : c1 ≤ maxLen) (h2 : c2 ≤ maxLen) :
    Calls Try.prog 13 #[.slice a1 0 c1, .slice a2 0 c2] w fun e w' => e = .returned (.bool true) ∧ Below w.heap.size w w' := by
  go_enter Try.func13, Try.ntmps13
  go_wp2
  go_loop [5] (fun i => i = .int .i64 0) (fun _ => 0)
  case atStart => rfl
  case round =>
    subst hrel
    go_wp2
    go_ret
    exact ⟨rfl, Below.refl _ _⟩
theorem fnExactJoined_walk (a0 : Option Addr) (len0 cap0 : Nat) (z0 : List ByteArray) (a1 : ByteArray) (w : World) (w0 : IsStrs w a0 len0 cap0 z0) (w1 : a1.size ≤ maxLen) :
    Calls Try.prog 3 #[.slice a0 len0 cap0, .string a1] w fun e w' => e = .returned (.bool true) ∧ Below w.heap.size w w' := by
  clear w1
  obtain ⟨hT, hM⟩ := w0
  obtain ⟨V, hV⟩ : ∃ V, V = Value.slice a0 len0 cap0 := ⟨_, rfl⟩
  rw [← hV] at hT ⊢
  clear hV
  have HT := hide hT
  have HM := hide hM
  clear hT hM
  by_cases h : 1048576 < a1.size
  · go_enter Try.func3, Try.ntmps3
    go_wp2
    go_ret
    exact ⟨rfl, Below.refl _ _⟩
  have hsep : a1.size ≤ 1048576 := by omega
  go_enter Try.func3, Try.ntmps3
  go_wp2_with fail
  refine (szStringS_any V z0 _ HT.out HM.out).mono ?_
  rintro e wq ⟨⟨x, rfl, hx⟩, rfl⟩
  by_cases hneg : x < 0
  · clear hx
    go_wp2_with fail
    go_ret
    exact ⟨rfl, Below.refl _ _⟩
  obtain ⟨hn, hs⟩ := hx (by omega)
  clear hx
  go_wp2_with fail
  refine (toStringS_any V z0 _ HT.out hn).mono ?_
  rintro e w1 ⟨⟨u1, rfl, r1⟩, hb1⟩
  have T1 := hide (Txts.of_row r1)
  go_wp2_with fail
  refine (spec_Joined _ z0 _ _ T1.out hn hsep hs).mono ?_
  rintro e w2 ⟨rfl, hb2⟩
  have B2 := Below.seq hb1 hb2
  clear r1 hb1 hb2 T1
  go_wp2_with fail
  refine (toStringS_any V z0 _ (HT.out.below B2) hn).mono ?_
  rintro e w3 ⟨⟨u3, rfl, r3⟩, hb3⟩
  have T3 := hide (Txts.of_row r3)
  have B3 := Below.seq B2 hb3
  go_wp2_with fail
  refine (impl_Joined _ z0 _ _ T3.out hn hsep hs).mono ?_
  rintro e w4 ⟨rfl, hb4⟩
  have B4 := Below.seq B3 hb4
  have R3 := hide r3
  have HB4 := hide hb4
  have HB3 := hide hb3
  clear r3 hb4 hb3 T3
  go_wp2_with fail
  refine (toStringS_any V z0 _ (HT.out.below B4) hn).mono ?_
  rintro e w5 ⟨⟨u5, rfl, r5⟩, hb5⟩
  have B5 := Below.seq B4 hb5
  by_cases hL : 0 < z0.length
  · obtain ⟨g3, c3, rfl, p1, p2⟩ := World.ownsRow.form R3.out hL
    obtain ⟨g5, c5, rfl, q1, q2⟩ := World.ownsRow.form r5 hL
    have s4 := HB4.out.size
    have r3' := row_below' (row_below' R3.out HB4.out p2) hb5 (by omega)
    have H5 := hide r5
    have H3 := hide r3'
    clear r5 r3' hb5
    go_wp2_with fail
    refine (eqStringS_same z0 _ _ _ _ _ _ _ _ rfl (by omega) H3.out H5.out).mono ?_
    rintro e w6 ⟨rfl, hb6⟩
    go_wp2_with fail
    go_ret
    exact ⟨rfl, Below.seq B5 hb6⟩
  · have hz : z0 = [] := List.eq_nil_of_length_eq_zero (by omega)
    obtain ⟨x1, y1, rfl, _, m1, _⟩ := Txts.of_row R3.out
    obtain ⟨x2, y2, rfl, _, m2, _⟩ := Txts.of_row r5
    subst hz
    clear r5 hb5
    go_wp2_with fail
    refine (eqStringS_none _ _ _ _ _ m1 m2).mono ?_
    rintro e w6 ⟨rfl, hb6⟩
    go_wp2_with fail
    go_ret
    exact ⟨rfl, Below.seq B5 hb6⟩
end Go.Proofs.Ytpbndakbdaidnaa
