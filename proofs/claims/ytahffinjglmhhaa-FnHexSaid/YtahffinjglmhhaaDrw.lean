/-
  The draws' first steps: what a byte, a number below another, one of a list give; the cursor goes on.
-/
import Derived.Test.YtahffinjglmhhaaCur
import Derived.Laws.BytesArg
import Derived.Laws.OwnMore
import Derived.OwnWalk
import Derived.Deep.QuietTactic
import Derived.BigQuiet
namespace Go.Proofs.Ytahffinjglmhhaa
open Go.RowKit
set_option linter.unusedVariables false

theorem Dr.drewN {g : Nat} {a w : World} (h : Dr g a w) (k : Nat) : Dr g a (w.drewN k) := ⟨h.os, h.tape, h.output, h.size, h.block⟩
theorem St.step {g : Nat} {w0 w W : World} {v : Value} {n i : Nat} {h : Int} {t : TypeId} (hd : Dr g w0 w) (hW : Dr g w W) (hh : W.heap[g]? = some (.cells #[v, .int .i64 i, .int .i64 h] t (0, 0))) (h1 : i ≤ n) (h2 : n ≤ 1048576)
    (h3 : (n = 0 ∧ ∃ a cap, v = .slice a 0 cap ∧ cap ≤ maxLen) ∨
     (0 < n ∧ ∃ b o cap, v = .slice (some ⟨b, o, none⟩) n cap ∧ b < g ∧ n ≤ cap ∧ cap ≤ maxLen ∧ ∀ j, j < n → ∃ x : Int, 0 ≤ x ∧ x ≤ 255 ∧ w.cell? ⟨b, o + j, none⟩ = some (.int .u8 x))) : St g w0 W := by
  refine ⟨hd.trans hW, v, n, i, h, t, hh, h1, h2, ?_⟩
  rcases h3 with h3 | ⟨p0, b, o, cap, hv, hb, q1, q2, q3⟩
  · exact .inl h3
  · refine .inr ⟨p0, b, o, cap, hv, hb, q1, q2, fun j hj => ?_⟩
    obtain ⟨x, x0, x1, hx⟩ := q3 j hj
    exact ⟨x, x0, x1, (hW.cell (b := b) (by omega) (World.block_lt_of_cell? w _ hx)).trans hx⟩
theorem heap_set_row {w : World} {g : Nat} {cs : Array Value} {t : TypeId} {fr : Nat × Nat} (hg : w.heap[g]? = some (.cells cs t fr)) (j : Nat) (u : Value) : (w.setCell ⟨g, j, none⟩ u).heap[g]? = some (.cells (cs.setIfInBounds j u) t fr) := by
  simp [World.setCell, Array.getElem?_modify, hg]
theorem l1Byte_a (g : Nat) (w0 w : World) (v : Value) (n i : Nat) (h : Int) (t : TypeId) (hd : Dr g w0 w) (hg : w.heap[g]? = some (.cells #[v, .int .i64 i, .int .i64 h] t (0, 0))) (h1 : i < n) (h2 : n ≤ 1048576) (b o cap : Nat) (hv : v = .slice (some ⟨b, o, none⟩) n cap)
   (hb : b < g) (h5 : n ≤ cap) (h6 : cap ≤ maxLen) (h7 :  ∀ j, j < n → ∃ x : Int, 0 ≤ x ∧ x ≤ 255 ∧ w.cell? ⟨b, o + j, none⟩ = some (.int .u8 x)) :
    Calls Try.prog 92 #[.pointer (some ⟨g, 0, none⟩)] w fun e w' => IntP (fun x => 0 ≤ x ∧ x ≤ 255) e ∧ St g w0 w' := by
  subst hv
  have c0 : w.cell? ⟨g, 0, none⟩ = some (.slice (some ⟨b, o, none⟩) n cap) := by rw [cell_of_row w g 0 _ _ _ hg]; rfl
  have c1 : w.cell? ⟨g, 1, none⟩ = some (.int .i64 i) := by rw [cell_of_row w g 1 _ _ _ hg]; rfl
  have c2 : w.cell? ⟨g, 2, none⟩ = some (.int .i64 h) := by rw [cell_of_row w g 2 _ _ _ hg]; rfl
  have f1 : w.frozen? ⟨g, 1, none⟩ = false := by simp [World.frozen?, hg]
  have f2 : w.frozen? ⟨g, 2, none⟩ = false := by simp [World.frozen?, hg]
  obtain ⟨x, x0, x1, hx⟩ := h7 i h1
  have hbg : b ≠ g := by omega
  have hgb : g ≠ b := by omega
  have HG := hide hg
  have H7 := hide h7
  have i0 : (0 : Int) ≤ (i : Int) := by omega
  have i1 : (i : Int) < (n : Int) := by omega
  clear hg h7
  go_enter Try.func92, Try.ntmps92
  go_wp2
  go_quiet (fail)
  go_wp2
  go_quiet (fail)
  go_wp2
  go_quiet (fail)
  go_wp2
  go_ret
  refine ⟨⟨_, rfl, ?_⟩, ?_⟩
  · rw [and_m8]; omega
  · refine St.step (n := n) (i := i + 1) (t := t) (h := wrap64 (wrap64 (h * 6364136223846793005) + 1442695040888963407)) hd ?_ ?_ (by omega) h2 (.inr ⟨by omega, b, o, cap, rfl, hb, h5, h6, H7.out⟩)
    · exact ((((Dr.refl g w).set 2 _).drewN _).set 1 _)
    · have e1 := heap_set_row HG.out 2 (Value.int .i64 (wrap64 (wrap64 (h * 6364136223846793005) + 1442695040888963407)))
      exact heap_set_row (w := (w.setCell ⟨g, 2, none⟩ (Value.int .i64 (wrap64 (wrap64 (h * 6364136223846793005) + 1442695040888963407)))).drewN _) (cs := #[.slice (some ⟨b, o, none⟩) n cap, .int .i64 i, .int .i64 (wrap64 (wrap64 (h * 6364136223846793005) + 1442695040888963407))]) e1 1 (.int .i64 ((i : Int) + 1))
theorem l1Byte_b (g : Nat) (w0 w : World) (a : Option Addr) (n i cap : Nat) (h : Int) (t : TypeId) (hd : Dr g w0 w) (hg : w.heap[g]? = some (.cells #[.slice a n cap, .int .i64 i, .int .i64 h] t (0, 0))) (h1 : i = n) (h2 : n ≤ 1048576)
   (h3 : (n = 0 ∧ ∃ a' cap', Value.slice a n cap = .slice a' 0 cap' ∧ cap' ≤ maxLen) ∨
     (0 < n ∧ ∃ b o cap', Value.slice a n cap = .slice (some ⟨b, o, none⟩) n cap' ∧ b < g ∧ n ≤ cap' ∧ cap' ≤ maxLen ∧ ∀ j, j < n → ∃ x : Int, 0 ≤ x ∧ x ≤ 255 ∧ w.cell? ⟨b, o + j, none⟩ = some (.int .u8 x))) :
    Calls Try.prog 92 #[.pointer (some ⟨g, 0, none⟩)] w fun e w' => IntP (fun x => 0 ≤ x ∧ x ≤ 255) e ∧ St g w0 w' := by
  have c0 : w.cell? ⟨g, 0, none⟩ = some (.slice a n cap) := by rw [cell_of_row w g 0 _ _ _ hg]; rfl
  have c1 : w.cell? ⟨g, 1, none⟩ = some (.int .i64 i) := by rw [cell_of_row w g 1 _ _ _ hg]; rfl
  have c2 : w.cell? ⟨g, 2, none⟩ = some (.int .i64 h) := by rw [cell_of_row w g 2 _ _ _ hg]; rfl
  have f2 : w.frozen? ⟨g, 2, none⟩ = false := by simp [World.frozen?, hg]
  have HG := hide hg
  have H3 := hide h3
  have i1 : ¬ (i : Int) < (n : Int) := by omega
  have H1 := hide h1
  clear hg h3 h1
  go_enter Try.func92, Try.ntmps92
  go_wp2
  go_quiet (fail)
  go_wp2
  go_quiet (fail)
  go_wp2
  go_ret
  refine ⟨⟨_, rfl, ?_⟩, ?_⟩
  · rw [and_m8]; omega
  · refine St.step (n := n) (i := i) (t := t) (h := wrap64 (wrap64 (h * 6364136223846793005) + 1442695040888963407)) hd ?_ ?_ (by have := H1.out; omega) h2 H3.out
    · exact (((((Dr.refl g w).set 2 _).drewN _).drewN _))
    · exact (heap_set_row HG.out 2 _)
theorem l1Byte_any (g : Nat) (w0 w : World) (hst : St g w0 w) :
    Calls Try.prog 92 #[.pointer (some ⟨g, 0, none⟩)] w fun e w' => IntP (fun x => 0 ≤ x ∧ x ≤ 255) e ∧ St g w0 w' := by
  obtain ⟨hd, v, n, i, h, t, hg, h1, h2, h3⟩ := hst
  by_cases hlt : i < n
  · rcases h3 with h3 | ⟨p0, b, o, cap, hv, hb, q1, q2, q3⟩
    · omega
    · exact l1Byte_a g w0 w v n i h t hd hg hlt h2 b o cap hv hb q1 q2 q3
  · have h3' := h3
    rcases h3 with ⟨rfl, a, cap, rfl, _⟩ | ⟨p0, b, o, cap, rfl, hb, q1, q2, q3⟩
    · exact l1Byte_b g w0 w a 0 i cap h t hd hg (by omega) h2 h3'
    · exact l1Byte_b g w0 w _ n i cap h t hd hg (by omega) h2 h3'
set_option maxHeartbeats 1000000 in
theorem l1Below_any (g : Nat) (w0 w : World) (k : Int) (hk : k ≤ 4294967296) (hst : St g w0 w) :
    Calls Try.prog 68 #[.pointer (some ⟨g, 0, none⟩), .int .i64 k] w fun e w' => IntP (fun x => 0 ≤ x ∧ (x < k ∨ k ≤ 0 ∧ x = 0)) e ∧ St g w0 w' := by
  by_cases h0 : k ≤ 0
  · go_enter Try.func68, Try.ntmps68
    go_wp2_with fail
    go_ret
    exact ⟨⟨_, rfl, by omega⟩, hst⟩
  by_cases h1 : k ≤ 256
  · go_enter Try.func68, Try.ntmps68
    go_wp2_with fail
    refine (l1Byte_any g w0 _ hst).mono ?_
    rintro e w1 ⟨⟨x, rfl, hx0, hx1⟩, hst1⟩
    have hk0 : k ≠ 0 := by omega
    go_wp2_with fail
    go_ret
    refine ⟨⟨_, rfl, ?_⟩, hst1⟩
    have a := Int.emod_nonneg x hk0
    have b := Int.emod_lt_of_pos x (show 0 < k by omega)
    omega
  · go_enter Try.func68, Try.ntmps68
    go_wp2_with fail
    refine (l1Byte_any g w0 _ hst).mono ?_
    rintro e w1 ⟨⟨x, rfl, hx0, hx1⟩, hst1⟩
    have hk0 : k ≠ 0 := by omega
    go_wp2_with fail
    refine (l1Byte_any g w0 _ hst1).mono ?_
    rintro e w2 ⟨⟨y, rfl, hy0, hy1⟩, hst2⟩
    go_wp2_with fail
    refine (l1Byte_any g w0 _ hst2).mono ?_
    rintro e w3 ⟨⟨z, rfl, hz0, hz1⟩, hst3⟩
    go_wp2_with fail
    refine (l1Byte_any g w0 _ hst3).mono ?_
    rintro e w4 ⟨⟨u, rfl, hu0, hu1⟩, hst4⟩
    go_wp2_with fail
    go_ret
    refine ⟨⟨_, rfl, ?_⟩, hst4⟩
    have a := Int.emod_nonneg (x * 16777216 + y * 65536 + z * 256 + u) hk0
    have b := Int.emod_lt_of_pos (x * 16777216 + y * 65536 + z * 256 + u) (show 0 < k by omega)
    omega
theorem l1Once_any (g : Nat) (w0 w : World) (k : Int) (hk : k ≤ 4294967296) (hst : St g w0 w) :
    Calls Try.prog 58 #[.pointer (some ⟨g, 0, none⟩), .int .i64 k] w fun e w' => BoolP e ∧ St g w0 w' := by
  go_enter Try.func58, Try.ntmps58
  go_wp2_with fail
  refine (l1Below_any g w0 _ k hk hst).mono ?_
  rintro e w1 ⟨⟨x, rfl, hx⟩, hst1⟩
  clear hx
  go_wp2_with fail
  go_ret
  exact ⟨⟨_, rfl⟩, hst1⟩
theorem l1PickInt_any (g b n c : Nat) (p : Int → Prop) (w0 w : World) (hst : St g w0 w) (hb : b ≠ g) (hbs : b < w.heap.size) (hn : 0 < n) (hn2 : n ≤ 1000) (hc : ∀ j, j < n → ∃ x, w.cell? ⟨b, j, none⟩ = some (.int .i64 x) ∧ p x) :
    Calls Try.prog 71 #[.pointer (some ⟨g, 0, none⟩), .slice (some ⟨b, 0, none⟩) n c] w fun e w' => IntP p e ∧ St g w0 w' := by
  have HC := hide hc
  clear hc
  go_enter Try.func71, Try.ntmps71
  go_wp2_with fail
  refine (l1Below_any g w _ n (by omega) (St.refl hst.2)).mono ?_
  rintro e w1 ⟨⟨x, rfl, hx0, hx1⟩, hst1⟩
  obtain ⟨k, rfl⟩ : ∃ k : Nat, x = k := ⟨x.toNat, by omega⟩
  have hk : (k : Int) < n := by omega
  obtain ⟨y, hy, hp⟩ := HC.out k (by omega)
  have hy' : w1.cell? ⟨b, k, none⟩ = some (.int .i64 y) := (hst1.1.cell hb hbs).trans hy
  clear hy hx1
  go_wp2_with fail
  go_ret
  exact ⟨⟨_, rfl, hp⟩, hst.trans hst1⟩
end Go.Proofs.Ytahffinjglmhhaa
