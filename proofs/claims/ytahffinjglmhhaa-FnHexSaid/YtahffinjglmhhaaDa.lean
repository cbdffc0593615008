/-
  The draws, further: one text of a list, a text turned a little, a row of zero bytes, an address.
-/
import Derived.Test.YtahffinjglmhhaaDz
import Derived.Deep.RegionHeld3
import Derived.Test.YtahffinjglmhhaaBk
namespace Go.Proofs.Ytahffinjglmhhaa
open Go.RowKit
set_option linter.unusedVariables false
theorem strLit (w : World) (t : TypeId) (m : Nat) (L : List ByteArray) (h : L.all (fun x => decide (x.size ≤ m)) = true) : ∀ j, j < L.length → ∃ x, (w.alloc (.cells (L.map Value.string).toArray t)).cell? ⟨w.heap.size, j, none⟩ = some (.string x) ∧ x.size ≤ m := by
  intro j hj
  refine ⟨L[j], ?_, by simpa using List.all_eq_true.1 h _ (List.getElem_mem hj)⟩
  rw [cell_of_row _ _ j _ t (0, 0) (heap_alloc_new w _)]
  simp [hj]
theorem Blk.st {g q : Nat} {a b : World} {l : List Value} (h : Blk a q l) (hs : St g a b) (hq : q ≠ g) : Blk b q l :=
  ⟨fun o => (hs.1.cell hq h.lt).trans (h.cells o), fun o => (hs.1.frozen hq h.lt).trans (h.frz o), Nat.lt_of_lt_of_le h.lt hs.1.size⟩
theorem St.newer {g : Nat} {a w : World} (h : St g a w) (p : Addr) (hg : g < a.heap.size) (hp : a.heap.size ≤ p.block) (u : Value) : St g a (w.setCell p u) := h.setNew hg p hp u
theorem l1Pick_any (g b n c m : Nat) (w0 w : World) (hst : St g w0 w) (hb : b ≠ g) (hbs : b < w.heap.size) (hn : 0 < n) (hn2 : n ≤ 1000) (hc : ∀ j, j < n → ∃ x, w.cell? ⟨b, j, none⟩ = some (.string x) ∧ x.size ≤ m) :
    Calls Try.prog 70 #[.pointer (some ⟨g, 0, none⟩), .slice (some ⟨b, 0, none⟩) n c] w fun e w' => StrP m e ∧ St g w0 w' := by
  have HC := hide hc
  clear hc
  go_enter Try.func70, Try.ntmps70
  go_wp2_with fail
  refine (l1Below_any g w _ n (by omega) (St.refl hst.2)).mono ?_
  rintro e w1 ⟨⟨x, rfl, hx0, hx1⟩, hst1⟩
  obtain ⟨k, rfl⟩ : ∃ k : Nat, x = k := ⟨x.toNat, by omega⟩
  have hk : (k : Int) < n := by omega
  obtain ⟨y, hy, hp⟩ := HC.out k (by omega)
  have hy' : w1.cell? ⟨b, k, none⟩ = some (.string y) := (hst1.1.cell hb hbs).trans hy
  have Hp := hide hp
  clear hy hx1 hp
  go_wp2_with fail
  go_ret
  exact ⟨⟨_, rfl, Hp.out⟩, hst.trans hst1⟩
theorem l1Turned_any (g b n c : Nat) (s : ByteArray) (m : Nat) (w0 w : World) (hst : St g w0 w) (hs : s.size ≤ m) (hm : m ≤ 1000000) (hb : b ≠ g) (hbs : b < w.heap.size) (hn : 0 < n) (hn2 : n ≤ 1000) (hc : ∀ j, j < n → ∃ x, w.cell? ⟨b, j, none⟩ = some (.string x) ∧ x.size ≤ 20) :
    Calls Try.prog 76 #[.pointer (some ⟨g, 0, none⟩), .string s, .slice (some ⟨b, 0, none⟩) n c] w fun e w' => StrP (m + 20) e ∧ St g w0 w' := by
  have HC := hide hc
  clear hc
  have hl := hst.2.lt
  go_enter Try.func76, Try.ntmps76
  go_wp2_with fail
  refine (l1Below_any g w _ ((s.size : Int) + 1) (by omega) (St.refl hst.2)).mono ?_
  rintro e w1 ⟨⟨x, rfl, hx0, hx1⟩, hst1⟩
  obtain ⟨k, rfl⟩ : ∃ k : Nat, x = k := ⟨x.toNat, by omega⟩
  have hk : (k : Int) ≤ s.size := by omega
  have hk2 : k ≤ s.size := by omega
  clear hx1
  go_wp2_with fail
  refine (l1Below_any g w _ 6 (by omega) hst1).mono ?_
  rintro e w2 ⟨⟨y, rfl, hy0, hy1⟩, hst2⟩
  have hst3 := hst.trans hst2
  by_cases e0 : y = 0
  · subst e0
    clear hy0 hy1
    have z1 : (s.extract 0 k).size ≤ 1000000 := by rw [ByteArray.size_extract]; omega
    have z2 : (s.extract k s.size).size ≤ 1000000 := by rw [ByteArray.size_extract]; omega
    have z3 : (s.extract 0 k).size + (s.extract k s.size).size = s.size := by rw [ByteArray.size_extract, ByteArray.size_extract]; omega
    have hpick : ∀ W, St g w2 W → Calls Try.prog 70 #[.pointer (some ⟨g, 0, none⟩), .slice (some ⟨b, 0, none⟩) n c] W fun e w' => StrP 20 e ∧ St g w2 w' := fun W hW =>
      l1Pick_any g b n c 20 w2 W hW hb (Nat.lt_of_lt_of_le hbs (Nat.le_trans hst2.1.size hW.1.size)) hn hn2 (fun j hj => by
        obtain ⟨x, hx, hx2⟩ := HC.out j hj
        exact ⟨x, (hW.1.cell hb (Nat.lt_of_lt_of_le hbs hst2.1.size)).trans ((hst2.1.cell hb hbs).trans hx), hx2⟩)
    have hS0 : St g w2 w2 := St.refl hst3.2
    go_wp2_with fail
    go_region_held3 (fun W => St g w2 W) (first | assumption | exact St.drew (by assumption)) (first | (go_at_call 70; refine (hpick _ (by first | assumption | exact St.drew (by assumption))).mono ?_; rintro e w3 ⟨⟨z, rfl, hz⟩, hst4⟩; have q1 : ¬9223372036854775807 < k + z.size := (by omega); have q2 : ¬9223372036854775807 < k + z.size + (s.size - k) := (by omega)))
    all_goals
      go_wp2
      go_ret
      refine ⟨⟨_, rfl, ?_⟩, hst3.trans (by assumption)⟩
      simp only [ByteArray.size_append]
      omega
  by_cases e1 : y = 1
  · subst e1
    clear hy0 hy1
    go_wp2_with fail
    go_ret
    refine ⟨⟨_, rfl, ?_⟩, hst3⟩
    rw [ByteArray.size_extract]; omega
  · go_wp2_with fail
    go_ret
    exact ⟨⟨_, rfl, by omega⟩, hst3⟩
theorem l5Mac_any (g : Nat) (w0 w : World) (hst : St g w0 w) :
    Calls Try.prog 59 #[.pointer (some ⟨g, 0, none⟩)] w fun e w' => IntP I64 e ∧ St g w0 w' := by
  have hlt := hst.2.lt
  go_enter Try.func59, Try.ntmps59
  go_wp2_with fail
  refine (l1PickInt_any g _ 6 _ I64 w0 _ (hst.alloc _) (by omega) (by simp) (by omega) (by omega) (pickLit _ _ [11, 12, 13, 281474976710655, 0, 2199023255552] I64 (i64_list _ (by decide)))).mono ?_
  rintro e w2 ⟨⟨y, rfl, hy⟩, hst2⟩
  have Hy := hide hy
  clear hy
  go_wp2_with fail
  go_ret
  exact ⟨⟨_, rfl, Hy.out⟩, hst2⟩
theorem l6Ip_any (g : Nat) (w0 w : World) (hst : St g w0 w) :
    Calls Try.prog 60 #[.pointer (some ⟨g, 0, none⟩)] w fun e w' => IntP I64 e ∧ St g w0 w' := by
  have hlt := hst.2.lt
  go_enter Try.func60, Try.ntmps60
  go_wp2_with fail
  refine (l1PickInt_any g _ 5 _ I64 w0 _ (hst.alloc _) (by omega) (by simp) (by omega) (by omega) (pickLit _ _ [167772161, 167772162, 167772163, 0, 4294967295] I64 (i64_list _ (by decide)))).mono ?_
  rintro e w2 ⟨⟨y, rfl, hy⟩, hst2⟩
  have Hy := hide hy
  clear hy
  go_wp2_with fail
  go_ret
  exact ⟨⟨_, rfl, Hy.out⟩, hst2⟩
theorem conv_zeros (w : World) (k base : Nat) (v : Value) (h : w.ownsRow base 5 1 v k (madeCells (Value.int IntKind.u8 0).cells (k * 1)).toList) :
    (convert 22 9 v).run Try.prog w = .ok (.string (strOfNums (List.replicate k 0))) w := by
  have e : (madeCells (Value.int IntKind.u8 0).cells (k * 1)).toList = (List.replicate k 0).map (Value.int .u8) := by
    rw [Nat.mul_one]
    exact (toList_madeCells_one _ _).trans (by simp)
  rw [e] at h
  exact run_string_own Try.underlying22 Try.underlying5 Try.underlying9 h
set_option maxRecDepth 100000 in
theorem l5Long_any (x : Int) (w : World) (h0 : 0 ≤ x) (h1 : x ≤ 2000) :
    Calls Try.prog 104 #[.int .i64 x] w fun e w' => StrP 2000 e ∧ Below w.heap.size w w' := by
  obtain ⟨i0, hi, hz0, hz1, hz2⟩ := info_parts info_u8
  obtain ⟨k, rfl⟩ : ∃ k : Nat, x = k := ⟨x.toNat, by omega⟩
  have hz : (strOfNums (List.replicate k 0)).size ≤ 2000 := by rw [strOfNums_size, List.length_replicate]; omega
  go_enter Try.func104, Try.ntmps104
  go_wp2_with (at_make; refine wpList_make_full _ rfl _ _ 22 rfl w.heap.size 5 i0 (.int .u8 0) 1 Try.underlying22 hi hz0 hz1 .i64 .i64 _ _ k rfl rfl rfl rfl (by rw [hz2]; omega) (by unfold maxLen; omega) (Nat.le_refl _) ?_; intro w1 hown hgr; have hconv := conv_zeros w1 k _ _ hown; have hb1 : Below w.heap.size w w1 := (Below.refl _ _).grown hgr (Nat.le_refl _) (fun k hk => by cases hk); clear hown hgr)
  go_ret
  exact ⟨⟨_, rfl, hz⟩, hb1⟩
end Go.Proofs.Ytahffinjglmhhaa
