/-
  The draws, further: one text of a list, a text turned a little, a row of zero bytes, an address.
-/
import Derived.Test.YtmbiajpbadfegaaDz
import Derived.Deep.RegionHeld3
import Derived.Test.YtmbiajpbadfegaaBk
namespace Go.Proofs.Ytmbiajpbadfegaa
open Go.RowKit
set_option linter.unusedVariables false
theorem strLit (w : World) (t : TypeId) (m : Nat) (L : List ByteArray) (h : L.all (fun x => decide (x.size ≤ m)) = true) : ∀ j, j < L.length → ∃ x, (w.alloc (.cells (L.map Value.string).toArray t)).cell? ⟨w.heap.size, j, none⟩ = some (.string x) ∧ x.size ≤ m := by
  intro j hj
  refine ⟨L[j], ?_, by simpa using List.all_eq_true.1 h _ (List.getElem_mem hj)⟩
  rw [cell_of_row _ _ j _ t (0, 0) (heap_alloc_new w _)]
  simp [hj]
theorem Blk.st {g q : Nat} {a b : World} {l : List Value} (h : Blk a q l) (hs : St g a b) (hq : q ≠ g) : Blk b q l :=
  ⟨fun o => (hs.1.cell hq h.lt).trans (h.cells o), fun o => (hs.1.frozen hq h.lt).trans (h.frz o), Nat.lt_of_lt_of_le h.lt hs.1.size⟩
theorem St.newer {g : Nat} {a w : World} (h : St g a w) (p : Addr) (hg : g < a.heap.size) (hp : a.heap.size ≤ p.block) (u : Value) : St g a (w.setCell p u) := h.setNew hg p hp u
theorem l6Ip_any (g : Nat) (w0 w : World) (hst : St g w0 w) :
    Calls Try.prog 19 #[.pointer (some ⟨g, 0, none⟩)] w fun e w' => IntP I64 e ∧ St g w0 w' := by
  have hlt := hst.2.lt
  go_enter Try.func19, Try.ntmps19
  go_wp2_with fail
  refine (l1PickInt_any g _ 5 _ I64 w0 _ (hst.alloc _) (by omega) (by simp) (by omega) (by omega) (pickLit _ _ [167772161, 167772162, 167772163, 0, 4294967295] I64 (i64_list _ (by decide)))).mono ?_
  rintro e w2 ⟨⟨y, rfl, hy⟩, hst2⟩
  have Hy := hide hy
  clear hy
  go_wp2_with fail
  go_ret
  exact ⟨⟨_, rfl, Hy.out⟩, hst2⟩
theorem conv_zeros (w : World) (k base : Nat) (v : Value) (h : w.ownsRow base 5 1 v k (madeCells (Value.int IntKind.u8 0).cells (k * 1)).toList) :
    (convert 22 9 v).run Try.prog w = .ok (.string (strOfNums (List.replicate k 0))) w := by
  have e : (madeCells (Value.int IntKind.u8 0).cells (k * 1)).toList = (List.replicate k 0).map (Value.int .u8) := by
    rw [Nat.mul_one]
    exact (toList_madeCells_one _ _).trans (by simp)
  rw [e] at h
  exact run_string_own Try.underlying22 Try.underlying5 Try.underlying9 h
set_option maxRecDepth 100000 in
theorem l5Long_any (x : Int) (w : World) (h0 : 0 ≤ x) (h1 : x ≤ 2000) :
    Calls Try.prog 40 #[.int .i64 x] w fun e w' => StrP 2000 e ∧ Below w.heap.size w w' := by
  obtain ⟨i0, hi, hz0, hz1, hz2⟩ := info_parts info_u8
  obtain ⟨k, rfl⟩ : ∃ k : Nat, x = k := ⟨x.toNat, by omega⟩
  have hz : (strOfNums (List.replicate k 0)).size ≤ 2000 := by rw [strOfNums_size, List.length_replicate]; omega
  go_enter Try.func40, Try.ntmps40
  go_wp2_with (at_make; refine wpList_make_full _ rfl _ _ 22 rfl w.heap.size 5 i0 (.int .u8 0) 1 Try.underlying22 hi hz0 hz1 .i64 .i64 _ _ k rfl rfl rfl rfl (by rw [hz2]; omega) (by unfold maxLen; omega) (Nat.le_refl _) ?_; intro w1 hown hgr; have hconv := conv_zeros w1 k _ _ hown; have hb1 : Below w.heap.size w w1 := (Below.refl _ _).grown hgr (Nat.le_refl _) (fun k hk => by cases hk); clear hown hgr)
  go_ret
  exact ⟨⟨_, rfl, hz⟩, hb1⟩
end Go.Proofs.Ytmbiajpbadfegaa
