/-
  The draws, further: one text of a list, a text turned a little, a row of zero bytes, an address.
-/
import Derived.Test.YtahffinjglmhhaaDoorDz
import Derived.Deep.RegionHeld3
import Derived.Test.YtahffinjglmhhaaDoorBk
namespace Go.Proofs.YtahffinjglmhhaaDoor
open Go.RowKit
set_option linter.unusedVariables false
theorem strLit (w : World) (t : TypeId) (m : Nat) (L : List ByteArray) (h : L.all (fun x => decide (x.size ≤ m)) = true) : ∀ j, j < L.length → ∃ x, (w.alloc (.cells (L.map Value.string).toArray t)).cell? ⟨w.heap.size, j, none⟩ = some (.string x) ∧ x.size ≤ m := by
  intro j hj
  refine ⟨L[j], ?_, by simpa using List.all_eq_true.1 h _ (List.getElem_mem hj)⟩
  rw [cell_of_row _ _ j _ t (0, 0) (heap_alloc_new w _)]
  simp [hj]
theorem Blk.st {g q : Nat} {a b : World} {l : List Value} (h : Blk a q l) (hs : St g a b) (hq : q ≠ g) : Blk b q l :=
  ⟨fun o => (hs.1.cell hq h.lt).trans (h.cells o), fun o => (hs.1.frozen hq h.lt).trans (h.frz o), Nat.lt_of_lt_of_le h.lt hs.1.size⟩
theorem St.newer {g : Nat} {a w : World} (h : St g a w) (p : Addr) (hg : g < a.heap.size) (hp : a.heap.size ≤ p.block) (u : Value) : St g a (w.setCell p u) := h.setNew hg p hp u
theorem l1Pick_any (g b n c m : Nat) (w0 w : World) (hst : St g w0 w) (hb : b ≠ g) (hbs : b < w.heap.size) (hn : 0 < n) (hn2 : n ≤ 1000) (hc : ∀ j, j < n → ∃ x, w.cell? ⟨b, j, none⟩ = some (.string x) ∧ x.size ≤ m) :
    Calls Tryd.prog 22 #[.pointer (some ⟨g, 0, none⟩), .slice (some ⟨b, 0, none⟩) n c] w fun e w' => StrP m e ∧ St g w0 w' := by
  have HC := hide hc
  clear hc
  go_enter Tryd.func22, Tryd.ntmps22
  go_wp2_with fail
  refine (l1Below_any g w _ n (by omega) (St.refl hst.2)).mono ?_
  rintro e w1 ⟨⟨x, rfl, hx0, hx1⟩, hst1⟩
  obtain ⟨k, rfl⟩ : ∃ k : Nat, x = k := ⟨x.toNat, by omega⟩
  have hk : (k : Int) < n := by omega
  obtain ⟨y, hy, hp⟩ := HC.out k (by omega)
  have hy' : w1.cell? ⟨b, k, none⟩ = some (.string y) := (hst1.1.cell hb hbs).trans hy
  have Hp := hide hp
  clear hy hx1 hp
  go_wp2_with fail
  go_ret
  exact ⟨⟨_, rfl, Hp.out⟩, hst.trans hst1⟩
theorem l1Turned_any (g b n c : Nat) (s : ByteArray) (m : Nat) (w0 w : World) (hst : St g w0 w) (hs : s.size ≤ m) (hm : m ≤ 1000000) (hb : b ≠ g) (hbs : b < w.heap.size) (hn : 0 < n) (hn2 : n ≤ 1000) (hc : ∀ j, j < n → ∃ x, w.cell? ⟨b, j, none⟩ = some (.string x) ∧ x.size ≤ 20) :
    Calls Tryd.prog 28 #[.pointer (some ⟨g, 0, none⟩), .string s, .slice (some ⟨b, 0, none⟩) n c] w fun e w' => StrP (m + 20) e ∧ St g w0 w' := by
  have HC := hide hc
  clear hc
  have hl := hst.2.lt
  go_enter Tryd.func28, Tryd.ntmps28
  go_wp2_with fail
  refine (l1Below_any g w _ ((s.size : Int) + 1) (by omega) (St.refl hst.2)).mono ?_
  rintro e w1 ⟨⟨x, rfl, hx0, hx1⟩, hst1⟩
  obtain ⟨k, rfl⟩ : ∃ k : Nat, x = k := ⟨x.toNat, by omega⟩
  have hk : (k : Int) ≤ s.size := by omega
  have hk2 : k ≤ s.size := by omega
  clear hx1
  go_wp2_with fail
  refine (l1Below_any g w _ 6 (by omega) hst1).mono ?_
  rintro e w2 ⟨⟨y, rfl, hy0, hy1⟩, hst2⟩
  have hst3 := hst.trans hst2
  by_cases e0 : y = 0
  · subst e0
    clear hy0 hy1
    have z1 : (s.extract 0 k).size ≤ 1000000 := by rw [ByteArray.size_extract]; omega
    have z2 : (s.extract k s.size).size ≤ 1000000 := by rw [ByteArray.size_extract]; omega
    have z3 : (s.extract 0 k).size + (s.extract k s.size).size = s.size := by rw [ByteArray.size_extract, ByteArray.size_extract]; omega
    have hpick : ∀ W, St g w2 W → Calls Tryd.prog 22 #[.pointer (some ⟨g, 0, none⟩), .slice (some ⟨b, 0, none⟩) n c] W fun e w' => StrP 20 e ∧ St g w2 w' := fun W hW =>
      l1Pick_any g b n c 20 w2 W hW hb (Nat.lt_of_lt_of_le hbs (Nat.le_trans hst2.1.size hW.1.size)) hn hn2 (fun j hj => by
        obtain ⟨x, hx, hx2⟩ := HC.out j hj
        exact ⟨x, (hW.1.cell hb (Nat.lt_of_lt_of_le hbs hst2.1.size)).trans ((hst2.1.cell hb hbs).trans hx), hx2⟩)
    have hS0 : St g w2 w2 := St.refl hst3.2
    go_wp2_with fail
    go_region_held3 (fun W => St g w2 W) (first | assumption | exact St.drew (by assumption)) (first | (go_at_call 22; refine (hpick _ (by first | assumption | exact St.drew (by assumption))).mono ?_; rintro e w3 ⟨⟨z, rfl, hz⟩, hst4⟩; have q1 : ¬9223372036854775807 < k + z.size := (by omega); have q2 : ¬9223372036854775807 < k + z.size + (s.size - k) := (by omega)))
    all_goals
      go_wp2
      go_ret
      refine ⟨⟨_, rfl, ?_⟩, hst3.trans (by assumption)⟩
      simp only [ByteArray.size_append]
      omega
  by_cases e1 : y = 1
  · subst e1
    clear hy0 hy1
    go_wp2_with fail
    go_ret
    refine ⟨⟨_, rfl, ?_⟩, hst3⟩
    rw [ByteArray.size_extract]; omega
  · go_wp2_with fail
    go_ret
    exact ⟨⟨_, rfl, by omega⟩, hst3⟩
end Go.Proofs.YtahffinjglmhhaaDoor
