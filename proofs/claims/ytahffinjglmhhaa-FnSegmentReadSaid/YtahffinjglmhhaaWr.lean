/-
  The walk of the law on segments read.
-/
import Derived.Test.YtahffinjglmhhaaDs
import Derived.Test.YtahffinjglmhhaaRdT
import Derived.Laws.StructEq
namespace Go.Proofs.Ytahffinjglmhhaa
open Go.RowKit
set_option linter.unusedVariables false
set_option linter.unusedSimpArgs false

theorem neq_seg (w : World) (f t q a l n m s : Int) (k st : Bool) (x y : Int) (b : ByteArray) : (binOp .neq 69 (.agg #[.int .i64 f, .int .i64 t, .int .i64 q, .int .i64 a, .int .i64 l, .int .i64 n, .int .i64 m, .int .i64 s, .bool k, .bool st, .int .i64 x, .int .i64 y, .string b]) (.agg #[.int .i64 f, .int .i64 t, .int .i64 q, .int .i64 a, .int .i64 l, .int .i64 n, .int .i64 m, .int .i64 s, .bool k, .bool st, .int .i64 x, .int .i64 y, .string b])).run Try.prog w = .ok (.bool false) w := by
  simp [go_sem]
theorem segLen_bd (l : Int) (n : Nat) : (n : Int) ≤ segLen l n ∧ segLen l n ≤ (n : Int) + 2 := by
  unfold segLen
  split <;> split <;> omega
theorem rsOk_seg {S : ByteArray} {src dst : Int} (h : rsB S src dst = true) : segOk (getV S 0 2) (getV S 2 2) (getV S 4 4) (getV S 8 4) (byt S 13 % 64) (getV S 14 2) (rsO S).m (rsO S).s (rsO S).st (rsO S).v (rsO S).y (S.extract (rsN S).toNat S.size) = true := by
  rw [rsB, Bool.and_eq_true, rsOk, Bool.and_eq_true] at h
  exact h.2.2
set_option maxRecDepth 100000 in
set_option maxHeartbeats 2000000 in
theorem fnSegmentRead_walk (v : Value) (n : Nat) (w : World) (hb : Bytes w v n) :
    Calls Try.prog 9 #[v] w fun e w' => e = .returned (.bool true) ∧ Below w.heap.size w w' := by
  have HB := hide hb
  clear hb
  by_cases hbig : 1048576 < n
  · have e0 : decide (1048576 < n) = true := by simpa using hbig
    have E0 := hide e0
    clear e0
    go_enter Try.func9, Try.ntmps9
    go_wp2_with fail
    refine (big_any v n _ HB.out).mono ?_
    rintro e w1 ⟨rfl, rfl⟩
    rw [E0.out]
    go_wp2_with fail
    go_ret
    exact ⟨rfl, Below.refl _ _⟩
  have e0 : decide (1048576 < n) = false := by simpa using hbig
  have E0 := hide e0
  have hn : n ≤ 1048576 := by omega
  clear e0
  go_enter Try.func9, Try.ntmps9
  go_wp2_with fail
  refine (big_any v n _ HB.out).mono ?_
  rintro e w1 ⟨rfl, rfl⟩
  rw [E0.out]
  go_wp2_with fail
  refine (drawReadSegment_any v n _ hn HB.out).mono ?_
  rintro e w1 ⟨⟨S, src, dst, rfl, hS⟩, hb1⟩
  have B1 := hb1
  clear hb1
  have hS2 : S.size ≤ 1000000000 := by omega
  cases hb : rsB S src dst
  · have hV : Hid (rsV S src dst = .tuple #[.agg #[.int .i64 0, .int .i64 0, .int .i64 0, .int .i64 0, .int .i64 0, .int .i64 0, .int .i64 0, .int .i64 0, .bool false, .bool false, .int .i64 0, .int .i64 0, .string ⟨#[]⟩], .bool false]) := hide (rsV_no hb).symm
    clear hb
    go_wp2_with fail
    refine (impl_ReadSegment _ _ _ _ hS2).mono ?_
    rintro e w2 ⟨rfl, hb2⟩
    have B2 := Below.seq B1 hb2
    clear hb2 B1
    rw [hV.out]
    go_wp2_with fail
    refine (spec_ReadSegment _ _ _ _ hS2).mono ?_
    rintro e w3 ⟨rfl, hb3⟩
    have bG_3 := (Blk.new w2 [.int .i64 0, .int .i64 0, .int .i64 0, .int .i64 0, .int .i64 0, .int .i64 0, .int .i64 0, .int .i64 0, .bool false, .bool false, .int .i64 0, .int .i64 0, .string ⟨#[]⟩] 69).below hb3
    have cbG_3 := bG_3.cells
    have B3 := Below.seq (Below.al B2 _) hb3
    clear hb3 B2
    rw [hV.out]
    have hN := fun W => neq_seg W 0 0 0 0 0 0 0 0 false false 0 0 ⟨#[]⟩
    have ca_bG_3 := (bG_3.alloc (.cells #[.int .i64 0, .int .i64 0, .int .i64 0, .int .i64 0, .int .i64 0, .int .i64 0, .int .i64 0, .int .i64 0, .bool false, .bool false, .int .i64 0, .int .i64 0, .string ⟨#[]⟩] 69)).cells
    go_wp2_with fail
    refine (impl_SegmentLen _ _ _ _ _ _ _ _ _ _ _ _ _ _ (by decide)).mono ?_
    rintro e w4 ⟨rfl, hb4⟩
    have bG_4 := (bG_3.alloc _).below hb4
    have bH_4 := (Blk.new w3 [.int .i64 0, .int .i64 0, .int .i64 0, .int .i64 0, .int .i64 0, .int .i64 0, .int .i64 0, .int .i64 0, .bool false, .bool false, .int .i64 0, .int .i64 0, .string ⟨#[]⟩] 69).below hb4
    have cbG_4 := bG_4.cells
    have cbH_4 := bH_4.cells
    have B4 := Below.seq (Below.al B3 _) hb4
    clear ca_bG_3 hb4 B3 bG_3 cbG_3
    go_wp2_with fail
    refine (spec_SegmentLen _ _ _ _ _ _ _ _ _ _ _ _ _ _ (by decide)).mono ?_
    rintro e w5 ⟨rfl, hb5⟩
    have bG_5 := bG_4.below hb5
    have bH_5 := bH_4.below hb5
    have cbG_5 := bG_5.cells
    have cbH_5 := bH_5.cells
    have B5 := Below.seq B4 hb5
    clear hb5 B4 bG_4 bH_4 cbG_4 cbH_4
    go_wp2_with fail
    go_ret
    exact ⟨rfl, (by repeat (first | with_reducible exact Below.refl _ _ | with_reducible assumption | with_reducible refine Below.al ?_ _ | with_reducible refine Below.drew ?_ | with_reducible refine Below.seq ?_ (by assumption) | (with_reducible refine Below.setCell ?_ ?_ _); rotate_left; focus (first | exact Nat.le_refl _ | (simp; done) | (simp; omega))))⟩
  · have hok := rsOk_seg hb
    have hV0 := (rsV_yes hb).symm
    rw [rsF] at hV0
    obtain ⟨f, hf⟩ : ∃ z, z = getV S 0 2 := ⟨_, rfl⟩
    obtain ⟨t, ht⟩ : ∃ z, z = getV S 2 2 := ⟨_, rfl⟩
    obtain ⟨q, hq⟩ : ∃ z, z = getV S 4 4 := ⟨_, rfl⟩
    obtain ⟨a, ha⟩ : ∃ z, z = getV S 8 4 := ⟨_, rfl⟩
    obtain ⟨l, hl⟩ : ∃ z, z = byt S 13 % 64 := ⟨_, rfl⟩
    obtain ⟨n9, hn9⟩ : ∃ z, z = getV S 14 2 := ⟨_, rfl⟩
    obtain ⟨o, ho⟩ : ∃ z, z = rsO S := ⟨_, rfl⟩
    obtain ⟨b, hbb⟩ : ∃ z, z = S.extract (rsN S).toNat S.size := ⟨_, rfl⟩
    have hbs : b.size ≤ 2300 := by rw [hbb, ByteArray.size_extract]; omega
    rw [← hf, ← ht, ← hq, ← ha, ← hl, ← hn9, ← ho, ← hbb] at hok hV0
    obtain ⟨m, s, c, st, x, y⟩ := o
    have HK : Hid (segOk f t q a l n9 m s st x y b = true) := hide hok
    have hV : Hid (rsV S src dst = .tuple #[.agg #[.int .i64 f, .int .i64 t, .int .i64 q, .int .i64 a, .int .i64 l, .int .i64 n9, .int .i64 m, .int .i64 s, .bool c, .bool st, .int .i64 x, .int .i64 y, .string b], .bool true]) := hide hV0
    clear hb hok hV0 hf ht hq ha hl hn9 ho hbb
    go_wp2_with fail
    refine (impl_ReadSegment _ _ _ _ hS2).mono ?_
    rintro e w2 ⟨rfl, hb2⟩
    have B2 := Below.seq B1 hb2
    clear hb2 B1
    rw [hV.out]
    go_wp2_with fail
    refine (spec_ReadSegment _ _ _ _ hS2).mono ?_
    rintro e w3 ⟨rfl, hb3⟩
    have bG_3 := (Blk.new w2 [.int .i64 f, .int .i64 t, .int .i64 q, .int .i64 a, .int .i64 l, .int .i64 n9, .int .i64 m, .int .i64 s, .bool c, .bool st, .int .i64 x, .int .i64 y, .string b] 69).below hb3
    have cbG_3 := bG_3.cells
    have B3 := Below.seq (Below.al B2 _) hb3
    clear hb3 B2
    rw [hV.out]
    have hN := fun W => neq_seg W f t q a l n9 m s c st x y b
    have ca_bG_3 := (bG_3.alloc (.cells #[.int .i64 f, .int .i64 t, .int .i64 q, .int .i64 a, .int .i64 l, .int .i64 n9, .int .i64 m, .int .i64 s, .bool c, .bool st, .int .i64 x, .int .i64 y, .string b] 69)).cells
    go_wp2_with fail
    refine (impl_SegmentLen _ _ _ _ _ _ _ _ _ _ _ _ _ _ (by omega)).mono ?_
    rintro e w4 ⟨rfl, hb4⟩
    have bG_4 := (bG_3.alloc _).below hb4
    have bH_4 := (Blk.new w3 [.int .i64 f, .int .i64 t, .int .i64 q, .int .i64 a, .int .i64 l, .int .i64 n9, .int .i64 m, .int .i64 s, .bool c, .bool st, .int .i64 x, .int .i64 y, .string b] 69).below hb4
    have cbG_4 := bG_4.cells
    have cbH_4 := bH_4.cells
    have B4 := Below.seq (Below.al B3 _) hb4
    clear ca_bG_3 hb4 B3 bG_3 cbG_3
    obtain ⟨z0, z1⟩ := segLen_bd l b.size
    obtain ⟨Z, HZ⟩ : ∃ Z, Hid (Z = segLen l b.size) := ⟨_, hide rfl⟩
    rw [← HZ.out] at z0 z1 ⊢
    have z2 : Z ≤ 4000 := by omega
    go_wp2_with fail
    refine (spec_SegmentLen _ _ _ _ _ _ _ _ _ _ _ _ _ _ (by omega)).mono ?_
    rintro e w5 ⟨rfl, hb5⟩
    have bG_5 := bG_4.below hb5
    have bH_5 := bH_4.below hb5
    have cbG_5 := bG_5.cells
    have cbH_5 := bH_5.cells
    have B5 := Below.seq B4 hb5
    clear hb5 B4 bG_4 bH_4 cbG_4 cbH_4
    rw [← HZ.out]
    go_wp2_with fail
    refine (impl_SegmentOk _ _ _ _ _ _ _ _ _ _ _ _ _ _).mono ?_
    rintro e w6 ⟨rfl, hb6⟩
    have bG_6 := bG_5.below hb6
    have bH_6 := bH_5.below hb6
    have cbG_6 := bG_6.cells
    have cbH_6 := bH_6.cells
    have B6 := Below.seq B5 hb6
    clear hb6 B5 bG_5 bH_5 cbG_5 cbH_5
    rw [HK.out]
    go_wp2_with fail
    go_ret
    exact ⟨rfl, (by repeat (first | with_reducible exact Below.refl _ _ | with_reducible assumption | with_reducible refine Below.al ?_ _ | with_reducible refine Below.drew ?_ | with_reducible refine Below.seq ?_ (by assumption) | (with_reducible refine Below.setCell ?_ ?_ _); rotate_left; focus (first | exact Nat.le_refl _ | (simp; done) | (simp; omega))))⟩
end Go.Proofs.Ytahffinjglmhhaa
