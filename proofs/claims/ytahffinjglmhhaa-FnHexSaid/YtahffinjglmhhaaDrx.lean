/-
  The draws, further: the cursor made, bytes in a row, one text of a list.
-/
import Derived.Test.YtahffinjglmhhaaDrw
import Derived.Test.YtahffinjglmhhaaWord
import Derived.Deep.AppendLies
namespace Go.Proofs.Ytahffinjglmhhaa
open Go.RowKit
set_option linter.unusedVariables false

theorem below_alloc' (w : World) (o : Obj) : Below w.heap.size w (w.alloc o) := (Below.refl _ _).alloc (Nat.le_refl _) o
theorem big_any (v : Value) (n : Nat) (w : World) (hb : Bytes w v n) :
    Calls Try.prog 10 #[v] w fun e w' => e = .returned (.bool (decide (1048576 < n))) ∧ w = w' := by
  rcases hb with ⟨rfl, a, cap, rfl, _⟩ | ⟨_, b, o, cap, rfl, h1, h2, _⟩
  · go_enter Try.func10, Try.ntmps10
    go_wp2
    go_ret
    exact ⟨rfl, rfl⟩
  · go_enter Try.func10, Try.ntmps10
    go_wp2
    go_ret
    exact ⟨ret_bool (by rw [decide_eq_decide]; omega), rfl⟩
theorem l1New_none (a : Option Addr) (cap : Nat) (hcap : cap ≤ maxLen) (w : World) :
    Calls Try.prog 56 #[.slice a 0 cap] w fun e w' => (∃ g, e = .returned (.pointer (some ⟨g, 0, none⟩)) ∧ w.heap.size ≤ g ∧ Cur g w') ∧ Below w.heap.size w w' := by
  go_enter Try.func56, Try.ntmps56
  go_wp2
  go_loop [3, 4] (fun h i => (∃ q : Int, h = .int .i64 q) ∧ i = .int .i64 0) (fun _ _ => 0)
  case atStart => exact ⟨⟨_, rfl⟩, rfl⟩
  case round =>
    obtain ⟨⟨q, rfl⟩, rfl⟩ := hrel
    go_wp2
    go_ret
    exact ⟨⟨_, rfl, Nat.le_refl _, ⟨.slice a 0 cap, 0, 0, q, 106, by rw [heap_alloc_new]; rfl, Nat.le_refl _, by omega, .inl ⟨rfl, a, cap, rfl, hcap⟩⟩⟩, (by repeat (first | with_reducible exact Below.refl _ _ | with_reducible assumption | with_reducible refine Below.al ?_ _ | with_reducible refine Below.drew ?_ | with_reducible refine Below.seq ?_ (by assumption) | (with_reducible refine Below.setCell ?_ ?_ _); rotate_left; focus (first | exact Nat.le_refl _ | (simp; done) | (simp; omega))))⟩
theorem l1New_some (b o n cap : Nat) (w : World) (h0 : 0 < n) (hn : n ≤ 1048576) (h1 : n ≤ cap) (h2 : cap ≤ maxLen) (h3 : ∀ j, j < n → ∃ x : Int, 0 ≤ x ∧ x ≤ 255 ∧ w.cell? ⟨b, o + j, none⟩ = some (.int .u8 x)) :
    Calls Try.prog 56 #[.slice (some ⟨b, o, none⟩) n cap] w fun e w' => (∃ g, e = .returned (.pointer (some ⟨g, 0, none⟩)) ∧ w.heap.size ≤ g ∧ Cur g w') ∧ Below w.heap.size w w' := by
  have H3 := hide h3
  clear h3
  go_enter Try.func56, Try.ntmps56
  go_wp2
  go_loop [3, 4] (fun h i => (∃ q : Int, h = .int .i64 q ∧ 0 ≤ q ∧ q ≤ 1100000000) ∧ ∃ k : Nat, k ≤ n ∧ i = .int .i64 k) (fun _ i => n - (intOf i).toNat)
  case atStart => exact ⟨⟨_, rfl, by omega, by omega⟩, 0, by omega, rfl⟩
  case round =>
    obtain ⟨⟨q, rfl, q0, q1⟩, k, hk, rfl⟩ := hrel
    have fin : ∀ (q : Int), Cur w.heap.size (w.alloc (.cells #[.slice (some ⟨b, o, none⟩) n cap, .int .i64 0, .int .i64 q] 106)) := fun q => by
      have hb : b < w.heap.size := by
        obtain ⟨x, _, _, hx⟩ := H3.out 0 h0
        exact World.block_lt_of_cell? w _ hx
      refine ⟨.slice (some ⟨b, o, none⟩) n cap, n, 0, q, 106, by rw [heap_alloc_new]; rfl, by omega, hn, .inr ⟨h0, b, o, cap, rfl, hb, h1, h2, fun j hj => ?_⟩⟩
      obtain ⟨x, x0, x1, hx⟩ := H3.out j hj
      exact ⟨x, x0, x1, ((below_alloc' w _).cell (p := ⟨b, o + j, none⟩) hb).trans hx⟩
    have Fin := hide fin
    clear fin
    by_cases hlt : k < n
    · obtain ⟨x, x0, x1, hx⟩ := H3.out k hlt
      by_cases h4 : (k : Int) < 4000
      · have i0 : (0 : Int) ≤ (k : Int) := by omega
        have i1 : (k : Int) < (n : Int) := by omega
        go_wp2
        go_round
        case rel => exact ⟨⟨_, rfl, by rw [and_m30]; omega, by rw [and_m30]; omega⟩, k + 1, by omega, by go_num⟩
        case measure => simp [intOf]; omega
      · go_wp2
        go_ret
        exact ⟨⟨_, rfl, Nat.le_refl _, Fin.out q⟩, (by repeat (first | with_reducible exact Below.refl _ _ | with_reducible assumption | with_reducible refine Below.al ?_ _ | with_reducible refine Below.drew ?_ | with_reducible refine Below.seq ?_ (by assumption) | (with_reducible refine Below.setCell ?_ ?_ _); rotate_left; focus (first | exact Nat.le_refl _ | (simp; done) | (simp; omega))))⟩
    · go_wp2
      go_ret
      exact ⟨⟨_, rfl, Nat.le_refl _, Fin.out q⟩, (by repeat (first | with_reducible exact Below.refl _ _ | with_reducible assumption | with_reducible refine Below.al ?_ _ | with_reducible refine Below.drew ?_ | with_reducible refine Below.seq ?_ (by assumption) | (with_reducible refine Below.setCell ?_ ?_ _); rotate_left; focus (first | exact Nat.le_refl _ | (simp; done) | (simp; omega))))⟩
theorem l1New_any (v : Value) (n : Nat) (w : World) (hn : n ≤ 1048576) (hb : Bytes w v n) :
    Calls Try.prog 56 #[v] w fun e w' => (∃ g, e = .returned (.pointer (some ⟨g, 0, none⟩)) ∧ w.heap.size ≤ g ∧ Cur g w') ∧ Below w.heap.size w w' := by
  rcases hb with ⟨rfl, a, cap, rfl, h⟩ | ⟨h0, b, o, cap, rfl, h1, h2, h3⟩
  · exact l1New_none a cap h w
  · exact l1New_some b o n cap w h0 hn h1 h2 h3
theorem Cur.ofLe {g : Nat} {w w' : World} (h : Cur g w) (hs : ∀ k, k ≤ g → w'.heap[k]? = w.heap[k]?) : Cur g w' := by
  obtain ⟨v, n, i, h, t, hg, h1, h2, h3⟩ := h
  refine ⟨v, n, i, h, t, (hs g (Nat.le_refl _)).trans hg, h1, h2, ?_⟩
  rcases h3 with h3 | ⟨p0, b, o, cap, hv, hb, q1, q2, q3⟩
  · exact .inl h3
  · refine .inr ⟨p0, b, o, cap, hv, hb, q1, q2, fun j hj => ?_⟩
    obtain ⟨x, x0, x1, hx⟩ := q3 j hj
    exact ⟨x, x0, x1, (World.cell?_of_block (w := w) (w' := w') (hs b (by omega))).trans hx⟩
theorem St.grown {g : Nat} {a w w' : World} {row : Option Nat} (h : St g a w) (hga : g < a.heap.size) (hg : w.grownBy w' row) (hr : ∀ k, row = some k → a.heap.size ≤ k) : St g a w' := by
  have hl := h.2.lt
  have hs := h.1.size
  refine ⟨⟨hg.os.trans h.1.os, hg.tape.trans h.1.tape, hg.output.trans h.1.output, Nat.le_trans hs hg.size, fun k hk hkg => (hg.block k (by omega) (fun e => by have := hr k e.symm; omega)).trans (h.1.block k hk hkg)⟩, h.2.ofLe fun k hk => hg.block k (by omega) (fun e => by have := hr k e.symm; omega)⟩
theorem row_dr {g B size n : Nat} {e : TypeId} {v : Value} {xs : List Value} {w w' : World} (h : w.ownsRow B e size v n xs) (hd : Dr g w w') (hB : g < B) : w'.ownsRow B e size v n xs := by
  refine ⟨h.1, ?_⟩
  rcases h.2 with ⟨h', h0⟩ | ⟨k, cap, cur, h', b0, hh, r⟩
  · exact .inl ⟨h', h0⟩
  · have hk : k < w.heap.size := by
      by_cases hlt : k < w.heap.size
      · exact hlt
      · rw [Array.getElem?_eq_none (by omega)] at hh; cases hh
    exact .inr ⟨k, cap, cur, h', b0, (hd.block k hk (by omega)).trans hh, r⟩
theorem cell_one (w : World) (t : TypeId) (x : Value) (j : Nat) (u : Value) (h : [x][j]? = some u) : (w.alloc (.cells #[x] t)).cell? ((⟨w.heap.size, 0, none⟩ : Addr).add j) = some u := by
  have hadd : (⟨w.heap.size, 0, none⟩ : Addr).add j = ⟨w.heap.size, j, none⟩ := by unfold Addr.add; split <;> simp_all
  rw [hadd, cell_of_row _ _ j #[x] t (0, 0) (heap_alloc_new w _)]
  simpa using h
theorem pickLit (w : World) (t : TypeId) (L : List Int) (p : Int → Prop) (h : ∀ x ∈ L, p x) : ∀ j, j < L.length → ∃ x, (w.alloc (.cells (L.map (Value.int .i64)).toArray t)).cell? ⟨w.heap.size, j, none⟩ = some (.int .i64 x) ∧ p x := by
  intro j hj
  refine ⟨L[j], ?_, h _ (List.getElem_mem _)⟩
  rw [cell_of_row _ _ j _ t (0, 0) (heap_alloc_new w _)]
  simp [hj]
def RowP (B : Nat) (t : TypeId) (k : Int) (w : World) (e : Ending) : Prop := ∃ (v : Value) (xs : List Int), e = .returned v ∧ w.ownsRow B t 1 v xs.length (xs.map (Value.int .u8)) ∧ (xs.length : Int) = max k 0 ∧ ∀ x ∈ xs, 0 ≤ x ∧ x ≤ 255
theorem l1Bytes_any (g : Nat) (w : World) (hcur : Cur g w) (k : Int) (hk : k ≤ 1000) :
    Calls Try.prog 67 #[.pointer (some ⟨g, 0, none⟩), .int .i64 k] w fun e w' => RowP w.heap.size 5 k w' e ∧ St g w w' := by
  obtain ⟨i0, hi, hz0, hz1, hz2⟩ := info_parts info_u8
  have hl := hcur.lt
  go_enter Try.func67, Try.ntmps67
  go_wp2
  go_loopw [5, 6] (fun v i wr => ∃ xs : List Int, xs.length ≤ 1000 ∧ Hid ((∀ x ∈ xs, 0 ≤ x ∧ x ≤ 255) ∧ (xs.length : Int) ≤ max k 0) ∧ i = .int .i64 xs.length ∧ wr.ownsRow w.heap.size 5 1 v xs.length (xs.map (Value.int .u8)) ∧ St g w wr) (fun _ i _ => (k - intOf i).toNat)
  case atStart => exact ⟨[], by simp, hide ⟨by simp, by simp; omega⟩, rfl, World.ownsRow_made w #[] 0 (Nat.le_refl _) (by decide) (by simp), (St.refl hcur).alloc _⟩
  case round =>
    obtain ⟨xs, hx0, hx1, rfl, hr, hst⟩ := hrel
    by_cases hlt : (xs.length : Int) < k
    · have hs := hst.1.size
      obtain ⟨m, hm⟩ : ∃ m, Hid (m = xs.length) := ⟨_, hide rfl⟩
      go_wp2_with fail
      refine (l1Byte_any g wr _ (St.refl hst.2)).mono ?_
      rintro e w1 ⟨⟨x, rfl, x0, x1⟩, hst1⟩
      have hr1 := row_dr hr hst1.1 hl
      have hs1 := hst1.1.size
      have hst2 := hst.trans hst1
      clear hr
      go_wp2_with (at_builtin; refine wpList_append_own _ rfl _ _ 22 rfl w.heap.size 5 i0 (.int .u8 0) 1 1 Try.underlying22 hi hz0 hz1 hz2 rfl (by decide) _ _ _ rfl (hr1.alloc _) ⟨w1.heap.size, 0, none⟩ 1 1 [.int .u8 x] rfl rfl ?c1 ?c2 ?c3 ?c4 ?c5 ?_)
      case c1 => exact fun j u h => cell_one _ _ _ j u h
      case c2 => intro u hu; simp at hu; subst hu; rfl
      case c3 => unfold maxLen; omega
      case c4 => omega
      case c5 => simp; omega
      intro v' w3 hown3 hgr3 _
      have hst3 : St g w w3 := (hst2.alloc _).grown hl hgr3 (fun q hq => (hr1.lt q hq).1)
      have hown4 : w3.ownsRow w.heap.size 5 1 v' (xs ++ [x]).length ((xs ++ [x]).map (Value.int .u8)) := by
        simpa using hown3
      have hq : (∀ y ∈ xs ++ [x], 0 ≤ y ∧ y ≤ 255) ∧ ((xs ++ [x]).length : Int) ≤ max k 0 := by
        refine ⟨fun y hy => ?_, by simp; omega⟩
        rcases List.mem_append.1 hy with hy | hy
        · exact hx1.out.1 y hy
        · simp at hy; subst hy; exact ⟨x0, x1⟩
      have Hq := hide hq
      clear hown3 hgr3 hr1 hst hst1 hq
      go_wp2
      go_roundw
      case rel => exact ⟨xs ++ [x], by simp; omega, Hq, by simp, hown4, hst3⟩
      case measure => simp [intOf]; omega
    · have Hr := hide hr
      clear hr
      go_wp2
      go_ret
      exact ⟨⟨_, xs, rfl, Hr.out, by have := hx1.out.2; omega, hx1.out.1⟩, hst⟩
end Go.Proofs.Ytahffinjglmhhaa
