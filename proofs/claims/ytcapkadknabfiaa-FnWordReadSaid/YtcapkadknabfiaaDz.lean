/-
  What the laws on words, sums and places draw.
-/
import Derived.Test.YtcapkadknabfiaaDry
namespace Go.Proofs.Ytcapkadknabfiaa
open Go.RowKit
set_option linter.unusedVariables false
theorem St.out {g : Nat} {w w1 w2 : World} (hb : Below w.heap.size w w1) (hg : w.heap.size ≤ g) (h : St g w1 w2) : Below w.heap.size w w2 := hb.trans (h.1.below hb.size hg)
def IIP (p : Int → Int → Prop) (e : Ending) : Prop := ∃ x y, e = .returned (.tuple #[.int .i64 x, .int .i64 y]) ∧ p x y
def I4P (p : Int → Int → Int → Int → Prop) (e : Ending) : Prop := ∃ x y z u, e = .returned (.tuple #[.int .i64 x, .int .i64 y, .int .i64 z, .int .i64 u]) ∧ p x y z u
def SIIP (p : ByteArray → Int → Int → Prop) (e : Ending) : Prop := ∃ x y z, e = .returned (.tuple #[.string x, .int .i64 y, .int .i64 z]) ∧ p x y z
theorem drawFolded_any (v : Value) (n : Nat) (w : World) (hn : n ≤ 1048576) (hb : Bytes w v n) :
    Calls Try.prog 40 #[v] w fun e w' => IntP I64 e ∧ Below w.heap.size w w' := by
  have HB := hide hb
  clear hb
  go_enter Try.func40, Try.ntmps40
  go_wp2_with fail
  refine (l1New_any v n _ hn HB.out).mono ?_
  rintro e w1 ⟨⟨g, rfl, hg, hc⟩, hb1⟩
  go_wp2_with fail
  refine (l2Word_any g w1 _ (St.refl hc)).mono ?_
  rintro e w2 ⟨⟨x, rfl, hx⟩, hst⟩
  have Hx := hide hx
  clear hx
  go_wp2_with fail
  go_ret
  exact ⟨⟨_, rfl, Hx.out⟩, hst.out hb1 hg⟩
theorem drawWordSum_any (v : Value) (n : Nat) (w : World) (hn : n ≤ 1048576) (hb : Bytes w v n) :
    Calls Try.prog 47 #[v] w fun e w' => StrP 1000 e ∧ Below w.heap.size w w' := by
  have HB := hide hb
  clear hb
  go_enter Try.func47, Try.ntmps47
  go_wp2_with fail
  refine (l1New_any v n _ hn HB.out).mono ?_
  rintro e w1 ⟨⟨g, rfl, hg, hc⟩, hb1⟩
  go_wp2_with fail
  refine (l1Below_any g w1 _ 12 (by omega) (St.refl hc)).mono ?_
  rintro e w2 ⟨⟨x, rfl, hx0, hx1⟩, hst⟩
  have hx2 : x ≤ 1000 := by omega
  clear hx1
  go_wp2_with fail
  refine (l1Bytes_any g _ hst.2 x hx2).mono ?_
  rintro e w3 ⟨⟨u, xs, rfl, hr, hl, hx⟩, hst2⟩
  have hconv := run_string_own (P := Try.prog) Try.underlying55 Try.underlying5 Try.underlying9 hr
  have Hl := hide (show (strOfNums xs).size ≤ 1000 by rw [strOfNums_size]; omega)
  clear hr hl hx
  go_wp2_with fail
  go_ret
  exact ⟨⟨_, rfl, Hl.out⟩, (hst.trans hst2).out hb1 hg⟩
theorem drawSumOf_any (v : Value) (n : Nat) (w : World) (hn : n ≤ 1048576) (hb : Bytes w v n) :
    Calls Try.prog 68 #[v] w fun e w' => StrP 1000 e ∧ Below w.heap.size w w' := by
  have HB := hide hb
  clear hb
  go_enter Try.func68, Try.ntmps68
  go_wp2_with fail
  refine (drawWordSum_any v n _ hn HB.out).mono ?_
  rintro e w1 ⟨⟨s, rfl, hs⟩, hb1⟩
  have Hs := hide hs
  clear hs
  go_wp2_with fail
  go_ret
  exact ⟨⟨_, rfl, Hs.out⟩, hb1⟩
theorem drawPutWord_any (v : Value) (n : Nat) (w : World) (hn : n ≤ 1048576) (hb : Bytes w v n) :
    Calls Try.prog 60 #[v] w fun e w' => IIP (fun x y => I64 x ∧ -1 ≤ y ∧ y ≤ 7) e ∧ Below w.heap.size w w' := by
  have HB := hide hb
  clear hb
  go_enter Try.func60, Try.ntmps60
  go_wp2_with fail
  refine (l1New_any v n _ hn HB.out).mono ?_
  rintro e w1 ⟨⟨g, rfl, hg, hc⟩, hb1⟩
  go_wp2_with fail
  refine (l2Word_any g w1 _ (St.refl hc)).mono ?_
  rintro e w2 ⟨⟨x, rfl, hx⟩, hst⟩
  have Hx := hide hx
  clear hx
  go_wp2_with fail
  refine (l1Below_any g w1 _ 9 (by omega) hst).mono ?_
  rintro e w3 ⟨⟨y, rfl, hy0, hy1⟩, hst2⟩
  have hy2 : y ≤ 8 := by omega
  clear hy1
  go_wp2_with fail
  go_ret2
  exact ⟨⟨_, _, rfl, Hx.out, by omega, by omega⟩, hst2.out hb1 hg⟩
theorem drawGetWord_any (v : Value) (n : Nat) (w : World) (hn : n ≤ 1048576) (hb : Bytes w v n) :
    Calls Try.prog 43 #[v] w fun e w' => SIIP (fun s a z => s.size ≤ 1000 ∧ I64 a ∧ -1 ≤ z ∧ z ≤ 7) e ∧ Below w.heap.size w w' := by
  have HB := hide hb
  clear hb
  go_enter Try.func43, Try.ntmps43
  go_wp2_with fail
  refine (l1New_any v n _ hn HB.out).mono ?_
  rintro e w1 ⟨⟨g, rfl, hg, hc⟩, hb1⟩
  go_wp2_with fail
  refine (l1Below_any g w1 _ 9 (by omega) (St.refl hc)).mono ?_
  rintro e w2 ⟨⟨x, rfl, hx0, hx1⟩, hst⟩
  have hx2 : x ≤ 1000 := by omega
  clear hx1
  go_wp2_with fail
  refine (l1Bytes_any g _ hst.2 x hx2).mono ?_
  rintro e w3 ⟨⟨u, xs, rfl, hr, hl, hx⟩, hst2⟩
  have hconv := run_string_own (P := Try.prog) Try.underlying55 Try.underlying5 Try.underlying9 hr
  have hz : (strOfNums xs).size ≤ 1000 := by rw [strOfNums_size]; omega
  have hst3 := hst.trans hst2
  have hlt := hst3.2.lt
  clear hr hl hx
  obtain ⟨s, hs⟩ : ∃ s, s = strOfNums xs := ⟨_, rfl⟩
  rw [← hs] at hconv hz
  clear hs
  go_wp2_with fail
  refine (l1PickInt_any g _ 8 _ I64 w1 _ (hst3.alloc _) (by omega) (by simp) (by omega) (by omega) (pickLit _ _ [0, 1, 2, (s.size : Int) - 2, (s.size : Int), -1, 9223372036854775807, -9223372036854775808] I64 (fun x hx => by unfold I64; simp at hx; omega))).mono ?_
  rintro e w4 ⟨⟨y, rfl, hy⟩, hst4⟩
  have Hy := hide hy
  clear hy
  go_wp2_with fail
  refine (l1Below_any g w1 _ 9 (by omega) hst4).mono ?_
  rintro e w5 ⟨⟨z, rfl, hz0, hz1⟩, hst5⟩
  have hz2 : z ≤ 8 := by omega
  clear hz1
  go_wp2_with fail
  refine bodyPost_ret (v := .tuple #[.string s, .int .i64 y, .int .i64 (z - 1)]) (by simp [results, Try.results43, go_sem]) rfl ⟨⟨_, _, _, rfl, hz, Hy.out, by omega, by omega⟩, hst5.out hb1 hg⟩
theorem l4Place_any (g : Nat) (w0 w : World) (hst : St g w0 w) :
    Calls Try.prog 100 #[.pointer (some ⟨g, 0, none⟩)] w fun e w' => IntP I64 e ∧ St g w0 w' := by
  go_enter Try.func100, Try.ntmps100
  go_wp2_with fail
  refine (l1Once_any g w0 _ 12 (by omega) hst).mono ?_
  rintro e w1 ⟨⟨x, rfl⟩, hst1⟩
  cases x
  · go_wp2_with fail
    refine (l2Deep_any g w0 _ hst1).mono ?_
    rintro e w2 ⟨⟨y, rfl, hy0, hy1⟩, hst2⟩
    go_wp2_with fail
    go_ret
    exact ⟨⟨_, rfl, by unfold I64; omega⟩, hst2⟩
  · go_wp2_with fail
    refine (l1Whole_any g w0 _ hst1).mono ?_
    rintro e w2 ⟨⟨y, rfl, hy⟩, hst2⟩
    have Hy := hide hy
    clear hy
    go_wp2_with fail
    go_ret
    exact ⟨⟨_, rfl, Hy.out⟩, hst2⟩
theorem r32_I64 (x : Int) : I64 (r32 x) := by unfold I64; have := r32_bd x; omega
theorem l4Near_any (g : Nat) (x : Int) (w0 w : World) (hst : St g w0 w) :
    Calls Try.prog 104 #[.pointer (some ⟨g, 0, none⟩), .int .i64 x] w fun e w' => IntP I64 e ∧ St g w0 w' := by
  go_enter Try.func104, Try.ntmps104
  go_wp2_with fail
  refine (l1Below_any g w0 _ 4 (by omega) hst).mono ?_
  rintro e w1 ⟨⟨k, rfl, hk0, hk1⟩, hst1⟩
  by_cases e0 : k = 0
  · subst e0
    clear hk0 hk1
    go_wp2_with fail
    refine (l4Place_any g w0 _ hst1).mono ?_
    rintro e w2 ⟨⟨y, rfl, hy⟩, hst2⟩
    have Hy := hide hy
    clear hy
    go_wp2_with fail
    go_ret
    exact ⟨⟨_, rfl, Hy.out⟩, hst2⟩
  by_cases e1 : k = 1
  · subst e1
    clear hk0 hk1
    have hlt := hst1.2.lt
    go_wp2_with fail
    refine (l1PickInt_any g _ 5 _ I64 w0 _ (hst1.alloc _) (by omega) (by simp) (by omega) (by omega) (pickLit _ _ [2147483647, 2147483648, -1, 1, 0] I64 (i64_list _ (by decide)))).mono ?_
    rintro e w2 ⟨⟨y, rfl, hy⟩, hst2⟩
    clear hy
    go_wp2_with fail
    refine (spec_SeqAdd _ _ _).mono ?_
    rintro e w3 ⟨rfl, rfl⟩
    go_wp2_with fail
    go_ret
    exact ⟨⟨_, rfl, r32_I64 _⟩, hst2⟩
  · go_wp2_with fail
    refine (l1Below_any g w0 _ 41 (by omega) hst1).mono ?_
    rintro e w2 ⟨⟨y, rfl, hy0, hy1⟩, hst2⟩
    have hy2 : y ≤ 1000000 := by omega
    clear hy1
    go_wp2_with fail
    refine (spec_SeqAdd _ _ _).mono ?_
    rintro e w3 ⟨rfl, rfl⟩
    go_wp2_with fail
    go_ret
    exact ⟨⟨_, rfl, r32_I64 _⟩, hst2⟩
theorem l4Size_any (g : Nat) (w0 w : World) (hst : St g w0 w) :
    Calls Try.prog 105 #[.pointer (some ⟨g, 0, none⟩)] w fun e w' => IntP I64 e ∧ St g w0 w' := by
  have hlt := hst.2.lt
  go_enter Try.func105, Try.ntmps105
  go_wp2_with fail
  refine (l1PickInt_any g _ 11 _ I64 w0 _ (hst.alloc _) (by omega) (by simp) (by omega) (by omega) (pickLit _ _ [0, 1, 5, 10, 64, 65535, -1, 4294967295, 4294967296, 9223372036854775807, -9223372036854775808] I64 (i64_list _ (by decide)))).mono ?_
  rintro e w2 ⟨⟨y, rfl, hy⟩, hst2⟩
  have Hy := hide hy
  clear hy
  go_wp2_with fail
  go_ret
  exact ⟨⟨_, rfl, Hy.out⟩, hst2⟩
theorem drawSeqAdd_any (v : Value) (n : Nat) (w : World) (hn : n ≤ 1048576) (hb : Bytes w v n) :
    Calls Try.prog 52 #[v] w fun e w' => IIP (fun x y => I64 x ∧ I64 y) e ∧ Below w.heap.size w w' := by
  have HB := hide hb
  clear hb
  go_enter Try.func52, Try.ntmps52
  go_wp2_with fail
  refine (l1New_any v n _ hn HB.out).mono ?_
  rintro e w1 ⟨⟨g, rfl, hg, hc⟩, hb1⟩
  go_wp2_with fail
  refine (l4Place_any g w1 _ (St.refl hc)).mono ?_
  rintro e w2 ⟨⟨x, rfl, hx⟩, hst⟩
  have Hx := hide hx
  clear hx
  go_wp2_with fail
  refine (l1Whole_any g w1 _ hst).mono ?_
  rintro e w3 ⟨⟨y, rfl, hy⟩, hst2⟩
  have Hy := hide hy
  clear hy
  go_wp2_with fail
  go_ret2
  exact ⟨⟨_, _, rfl, Hx.out, Hy.out⟩, hst2.out hb1 hg⟩
theorem l4Two_any (v : Value) (n : Nat) (w : World) (hn : n ≤ 1048576) (hb : Bytes w v n) :
    Calls Try.prog 107 #[v] w fun e w' => IIP (fun x y => I64 x ∧ I64 y) e ∧ Below w.heap.size w w' := by
  have HB := hide hb
  clear hb
  go_enter Try.func107, Try.ntmps107
  go_wp2_with fail
  refine (l1New_any v n _ hn HB.out).mono ?_
  rintro e w1 ⟨⟨g, rfl, hg, hc⟩, hb1⟩
  go_wp2_with fail
  refine (l4Place_any g w1 _ (St.refl hc)).mono ?_
  rintro e w2 ⟨⟨x, rfl, hx⟩, hst⟩
  have Hx := hide hx
  clear hx
  go_wp2_with fail
  refine (l4Near_any g _ w1 _ hst).mono ?_
  rintro e w3 ⟨⟨y, rfl, hy⟩, hst2⟩
  have Hy := hide hy
  clear hy
  go_wp2_with fail
  go_ret2
  exact ⟨⟨_, _, rfl, Hx.out, Hy.out⟩, hst2.out hb1 hg⟩
theorem drawSeqBelow_any (v : Value) (n : Nat) (w : World) (hn : n ≤ 1048576) (hb : Bytes w v n) :
    Calls Try.prog 77 #[v] w fun e w' => IIP (fun x y => I64 x ∧ I64 y) e ∧ Below w.heap.size w w' := by
  have HB := hide hb
  clear hb
  go_enter Try.func77, Try.ntmps77
  go_wp2_with fail
  refine (l4Two_any v n _ hn HB.out).mono ?_
  rintro e w1 ⟨⟨x, y, rfl, hx⟩, hb1⟩
  have Hx := hide hx
  clear hx
  go_wp2_with fail
  go_ret2
  exact ⟨⟨_, _, rfl, Hx.out⟩, hb1⟩
theorem drawOverlaps_any (v : Value) (n : Nat) (w : World) (hn : n ≤ 1048576) (hb : Bytes w v n) :
    Calls Try.prog 72 #[v] w fun e w' => I4P (fun x n f s => I64 x ∧ -1 ≤ n ∧ n ≤ 40 ∧ I64 f ∧ I64 s) e ∧ Below w.heap.size w w' := by
  have HB := hide hb
  clear hb
  go_enter Try.func72, Try.ntmps72
  go_wp2_with fail
  refine (l1New_any v n _ hn HB.out).mono ?_
  rintro e w1 ⟨⟨g, rfl, hg, hc⟩, hb1⟩
  go_wp2_with fail
  refine (l4Place_any g w1 _ (St.refl hc)).mono ?_
  rintro e w2 ⟨⟨x, rfl, hx⟩, hst⟩
  have Hx := hide hx
  clear hx
  have hlt := hst.2.lt
  go_wp2_with fail
  refine (l1PickInt_any g _ 6 _ (fun x => -1 ≤ x ∧ x ≤ 40) w1 _ (hst.alloc _) (by omega) (by simp) (by omega) (by omega) (pickLit _ _ [0, 1, 5, 20, -1, 40] _ (by decide))).mono ?_
  rintro e w3 ⟨⟨y, rfl, hy⟩, hst2⟩
  have Hy := hide hy
  clear hy
  go_wp2_with fail
  refine (l4Near_any g _ w1 _ hst2).mono ?_
  rintro e w4 ⟨⟨z, rfl, hz⟩, hst3⟩
  have Hz := hide hz
  clear hz
  go_wp2_with fail
  refine (l4Size_any g w1 _ hst3).mono ?_
  rintro e w5 ⟨⟨u, rfl, hu⟩, hst4⟩
  have Hu := hide hu
  clear hu
  go_wp2_with fail
  refine bodyPost_ret (v := .tuple #[.int .i64 x, .int .i64 y, .int .i64 z, .int .i64 u]) (by simp [results, Try.results72, go_sem]) rfl ⟨⟨_, _, _, _, rfl, Hx.out, Hy.out.1, Hy.out.2, Hz.out, Hu.out⟩, hst4.out hb1 hg⟩
theorem at0_any (v : Value) (n : Nat) (i : Nat) (w : World) (hn : n ≤ 1048576) (hi : i ≤ 100) (hb : Bytes w v n) :
    Calls Try.prog 71 #[v, .int .i64 i] w fun e w' => IntP (fun x => 0 ≤ x ∧ x ≤ 255) e ∧ w = w' := by
  have i0 : (0 : Int) ≤ (i : Int) := by omega
  rcases hb with ⟨rfl, a, cap, rfl, _⟩ | ⟨h0, b, o, cap, rfl, h1, h2, h3⟩
  · go_enter Try.func71, Try.ntmps71
    go_wp2
    go_ret
    exact ⟨⟨_, rfl, by omega, by omega⟩, rfl⟩
  · by_cases hlt : i < n
    · obtain ⟨x, x0, x1, hx⟩ := h3 i hlt
      have i1 : (i : Int) < (n : Int) := by omega
      clear h3
      go_enter Try.func71, Try.ntmps71
      go_wp2
      go_ret
      exact ⟨⟨_, rfl, by omega, by omega⟩, rfl⟩
    · clear h3
      go_enter Try.func71, Try.ntmps71
      go_wp2
      go_ret
      exact ⟨⟨_, rfl, by omega, by omega⟩, rfl⟩
theorem tail_any (v : Value) (n : Nat) (w : World) (hn : n ≤ 1048576) (hb : Bytes w v n) :
    Calls Try.prog 48 #[v] w fun e w' => (∃ u, e = .returned u ∧ Bytes w u (n - 1)) ∧ w = w' := by
  have hb' := hb
  rcases hb with ⟨rfl, a, cap, rfl, _⟩ | ⟨h0, b, o, cap, rfl, h1, h2, h3⟩
  · go_enter Try.func48, Try.ntmps48
    go_wp2
    go_ret
    exact ⟨⟨_, rfl, hb'⟩, rfl⟩
  · have H3 := hide h3
    clear h3 hb'
    go_enter Try.func48, Try.ntmps48
    go_wp2
    · rename_i h
      go_ret
      refine ⟨⟨_, rfl, .inl ⟨by omega, some ⟨b, o, none⟩, 0, ?_, by omega⟩⟩, rfl⟩
      show Value.slice (some ⟨b, o, none⟩) (n - 1) 0 = _
      rw [show n - 1 = 0 by omega]
    · rename_i h
      go_ret
      refine ⟨⟨_, rfl, ?_⟩, rfl⟩
      show Bytes w (.slice (some ⟨b, o + 1, none⟩) (n - 1) (cap - 1)) (n - 1)
      by_cases h4 : n = 1
      · exact .inl ⟨by omega, some ⟨b, o + 1, none⟩, cap - 1, by rw [show n - 1 = 0 by omega], by omega⟩
      · refine .inr ⟨by omega, b, o + 1, cap - 1, rfl, by omega, by omega, fun j hj => ?_⟩
        obtain ⟨x, x0, x1, hx⟩ := H3.out (j + 1) (by omega)
        exact ⟨x, x0, x1, by rw [show o + 1 + j = o + (j + 1) by omega]; exact hx⟩
theorem place_any (x : Int) (w : World) :
    Calls Try.prog 56 #[.int .i64 x] w fun e w' => e = .returned (.int .i64 (r32 x)) ∧ w = w' := by
  go_enter Try.func56, Try.ntmps56
  go_wp2
  · rename_i h
    go_ret
    exact ⟨ret_int (tmod_n x h), rfl⟩
  · rename_i h
    go_ret
    exact ⟨ret_int (tmod_r x (by omega)), rfl⟩
end Go.Proofs.Ytcapkadknabfiaa
