/-
  The walk of the law on messages of ARP.
-/
import Derived.Test.YtahffinjglmhhaaDc
import Derived.Test.YtahffinjglmhhaaRtF
import Derived.Test.YtahffinjglmhhaaRep
import Derived.Laws.StructEq
namespace Go.Proofs.Ytahffinjglmhhaa
open Go.RowKit
set_option linter.unusedVariables false
set_option linter.unusedSimpArgs false

theorem neq_arp (w : World) (k sh si dh di : Int) : (binOp .neq 25 (.agg #[.int .i64 k, .int .i64 sh, .int .i64 si, .int .i64 dh, .int .i64 di]) (.agg #[.int .i64 k, .int .i64 sh, .int .i64 si, .int .i64 dh, .int .i64 di])).run Try.prog w = .ok (.bool false) w := by
  simp [go_sem]
theorem rd_arp {k sh si dh di : Int} (z : ByteArray) (h : arpOk k sh si dh di = true) (X : ByteArray) (hX : X = arpText k sh si dh di ++ z) : raB X = true ∧ raI X (getV X 6 2) = k ∧ raI X (getV X 8 6) = sh ∧ raI X (getV X 14 4) = si ∧ raI X (getV X 18 6) = dh ∧ raI X (getV X 24 4) = di := by
  subst hX
  have hy := rt_arp_yes z h
  obtain ⟨_, _, e1, e2, e3, e4, e5⟩ := rt_arp z h
  simp only [raI, hy, if_true]
  exact ⟨trivial, e1, e2, e3, e4, e5⟩
theorem ra_no (X : ByteArray) (h : raB X = false) (x : Int) : raI X x = 0 := by rw [raI, h]; rfl
theorem size_arpText_le (k sh si dh di : Int) : (arpText k sh si dh di).size ≤ 40 := by
  have h1 := size_putWord_le k 2
  have h2 := size_putWord_le sh 6
  have h3 := size_putWord_le si 4
  have h4 := size_putWord_le dh 6
  have h5 := size_putWord_le di 4
  have k1 : (⟨#[0, 1, 8, 0, 6, 4]⟩ : ByteArray).size = 6 := rfl
  unfold arpText
  split
  · simp only [ByteArray.size_append, k1]; omega
  · exact Nat.zero_le _
theorem rp_law {k sh si di m i : Int} (h : rpB k sh si di m i = true) : (k == 1) = true ∧ (di == i) = true ∧ arpOk 2 m i sh si = true := by
  rw [rpB, Bool.and_eq_true, Bool.and_eq_true] at h
  exact ⟨h.1.1, h.1.2, h.2⟩
set_option maxRecDepth 100000 in
set_option maxHeartbeats 2000000 in
theorem fnArp_walk (v : Value) (n : Nat) (w : World) (hb : Bytes w v n) :
    Calls Try.prog 3 #[v] w fun e w' => e = .returned (.bool true) ∧ Below w.heap.size w w' := by
  have HB := hide hb
  clear hb
  by_cases hbig : 1048576 < n
  · have e0 : decide (1048576 < n) = true := by simpa using hbig
    have E0 := hide e0
    clear e0
    go_enter Try.func3, Try.ntmps3
    go_wp2_with fail
    refine (big_any v n _ HB.out).mono ?_
    rintro e w1 ⟨rfl, rfl⟩
    rw [E0.out]
    go_wp2_with fail
    go_ret
    exact ⟨rfl, Below.refl _ _⟩
  have e0 : decide (1048576 < n) = false := by simpa using hbig
  have E0 := hide e0
  have hn : n ≤ 1048576 := by omega
  clear e0
  go_enter Try.func3, Try.ntmps3
  go_wp2_with fail
  refine (big_any v n _ HB.out).mono ?_
  rintro e w1 ⟨rfl, rfl⟩
  rw [E0.out]
  go_wp2_with fail
  refine (drawArpReply_any v n _ hn HB.out).mono ?_
  rintro e w1 ⟨⟨k, sh, si, dh, di, m, i, rfl⟩, hb1⟩
  have B1 := hb1
  clear hb1
  go_wp2_with fail
  refine (impl_ArpReply _ _ _ _ _ _ _ _).mono ?_
  rintro e w2 ⟨rfl, hb2⟩
  have bA_2 := (Blk.new w1 [.int .i64 k, .int .i64 sh, .int .i64 si, .int .i64 dh, .int .i64 di] 25).below hb2
  have cbA_2 := bA_2.cells
  have B2 := Below.seq (Below.al B1 _) hb2
  clear hb2 B1
  obtain ⟨r, HR⟩ : ∃ r, Hid (r = rpB k sh si di m i) := ⟨_, hide rfl⟩
  rw [← HR.out]
  obtain ⟨r1, H1⟩ : ∃ x, Hid (x = rpI r 2) := ⟨_, hide rfl⟩
  obtain ⟨r2, H2⟩ : ∃ x, Hid (x = rpI r m) := ⟨_, hide rfl⟩
  obtain ⟨r3, H3⟩ : ∃ x, Hid (x = rpI r i) := ⟨_, hide rfl⟩
  obtain ⟨r4, H4⟩ : ∃ x, Hid (x = rpI r sh) := ⟨_, hide rfl⟩
  obtain ⟨r5, H5⟩ : ∃ x, Hid (x = rpI r si) := ⟨_, hide rfl⟩
  rw [← H1.out, ← H2.out, ← H3.out, ← H4.out, ← H5.out]
  have ca_bA_2 := (bA_2.alloc (.cells #[.int .i64 r1, .int .i64 r2, .int .i64 r3, .int .i64 r4, .int .i64 r5] 25)).cells
  go_wp2_with fail
  refine (spec_ArpReply _ _ _ _ _ _ _ _).mono ?_
  rintro e w3 ⟨rfl, hb3⟩
  have bA_3 := (bA_2.alloc _).below hb3
  have bR_3 := (Blk.new w2 [.int .i64 r1, .int .i64 r2, .int .i64 r3, .int .i64 r4, .int .i64 r5] 25).below hb3
  have cbA_3 := bA_3.cells
  have cbR_3 := bR_3.cells
  have B3 := Below.seq (Below.al B2 _) hb3
  clear ca_bA_2 hb3 B2 bA_2 cbA_2
  rw [← HR.out, ← H1.out, ← H2.out, ← H3.out, ← H4.out, ← H5.out]
  have ca_bA_3 := (bA_3.alloc (.cells #[.int .i64 r1, .int .i64 r2, .int .i64 r3, .int .i64 r4, .int .i64 r5] 25)).cells
  have ca_bR_3 := (bR_3.alloc (.cells #[.int .i64 r1, .int .i64 r2, .int .i64 r3, .int .i64 r4, .int .i64 r5] 25)).cells
  go_wp2_with fail
  refine (impl_ArpText _ _ _ _ _ _).mono ?_
  rintro e w4 ⟨rfl, hb4⟩
  have bA_4 := (bA_3.alloc _).below hb4
  have bR_4 := (bR_3.alloc _).below hb4
  have bS_4 := (Blk.new w3 [.int .i64 r1, .int .i64 r2, .int .i64 r3, .int .i64 r4, .int .i64 r5] 25).below hb4
  have cbA_4 := bA_4.cells
  have cbR_4 := bR_4.cells
  have cbS_4 := bS_4.cells
  have B4 := Below.seq (Below.al B3 _) hb4
  clear ca_bA_3 ca_bR_3 hb4 B3 bA_3 bR_3 cbA_3 cbR_3
  obtain ⟨X, HX⟩ : ∃ X, Hid (X = arpText k sh si dh di) := ⟨_, hide rfl⟩
  have hX : X.size ≤ 40 := by rw [HX.out]; exact size_arpText_le _ _ _ _ _
  rw [← HX.out]
  have hX2 : (X ++ ⟨#[120, 120]⟩).size ≤ 140737488355328 := by
    rw [ByteArray.size_append, show (⟨#[120, 120]⟩ : ByteArray).size = 2 from rfl]; omega
  go_wp2_with fail
  refine (impl_ReadArp _ _ hX2).mono ?_
  rintro e w5 ⟨rfl, hb5⟩
  have bA_5 := bA_4.below hb5
  have bR_5 := bR_4.below hb5
  have bS_5 := bS_4.below hb5
  have cbA_5 := bA_5.cells
  have cbR_5 := bR_5.cells
  have cbS_5 := bS_5.cells
  have B5 := Below.seq B4 hb5
  clear hb5 B4 bA_4 bR_4 bS_4 cbA_4 cbR_4 cbS_4
  obtain ⟨Z, HZ⟩ : ∃ Z, Hid (Z = X ++ ⟨#[120, 120]⟩) := ⟨_, hide rfl⟩
  rw [← HZ.out]
  cases hk : arpOk k sh si dh di
  · have a0 : raB Z = false := by rw [HZ.out, HX.out]; exact rt_arp_no _ (by decide) hk
    rw [a0, ra_no Z a0, ra_no Z a0, ra_no Z a0, ra_no Z a0, ra_no Z a0]
    have HK := hide hk
    clear hk a0
    have ca_bA_5 := (bA_5.alloc (.cells #[.int .i64 0, .int .i64 0, .int .i64 0, .int .i64 0, .int .i64 0] 25)).cells
    have ca_bR_5 := (bR_5.alloc (.cells #[.int .i64 0, .int .i64 0, .int .i64 0, .int .i64 0, .int .i64 0] 25)).cells
    have ca_bS_5 := (bS_5.alloc (.cells #[.int .i64 0, .int .i64 0, .int .i64 0, .int .i64 0, .int .i64 0] 25)).cells
    go_wp2_with fail
    refine (spec_ArpOk _ _ _ _ _ _).mono ?_
    rintro e w6 ⟨rfl, hb6⟩
    have bA_6 := (bA_5.alloc _).below hb6
    have bR_6 := (bR_5.alloc _).below hb6
    have bS_6 := (bS_5.alloc _).below hb6
    have bB_6 := (Blk.new w5 [.int .i64 0, .int .i64 0, .int .i64 0, .int .i64 0, .int .i64 0] 25).below hb6
    have cbA_6 := bA_6.cells
    have cbR_6 := bR_6.cells
    have cbS_6 := bS_6.cells
    have cbB_6 := bB_6.cells
    have B6 := Below.seq (Below.al B5 _) hb6
    clear ca_bA_5 ca_bR_5 ca_bS_5 hb6 B5 bA_5 bR_5 bS_5 cbA_5 cbR_5 cbS_5
    rw [HK.out]
    cases r
    · go_wp2_with fail
      go_ret
      exact ⟨rfl, (by repeat (first | with_reducible exact Below.refl _ _ | with_reducible assumption | with_reducible refine Below.al ?_ _ | with_reducible refine Below.drew ?_ | with_reducible refine Below.seq ?_ (by assumption) | (with_reducible refine Below.setCell ?_ ?_ _); rotate_left; focus (first | exact Nat.le_refl _ | (simp; done) | (simp; omega))))⟩
    · obtain ⟨q1, q2, q3⟩ := rp_law HR.out.symm
      have q4 : dh = dh := rfl
      have e1 : r1 = 2 := H1.out
      have e2 : r2 = m := H2.out
      have e3 : r3 = i := H3.out
      have e4 : r4 = sh := H4.out
      have e5 : r5 = si := H5.out
      subst e1 e2 e3 e4 e5
      have Q := hide q3
      clear q3 q4
      go_wp2_with fail
      refine (impl_ArpOk _ _ _ _ _ _).mono ?_
      rintro e w7 ⟨rfl, hb7⟩
      have bA_7 := bA_6.below hb7
      have bR_7 := bR_6.below hb7
      have bS_7 := bS_6.below hb7
      have bB_7 := bB_6.below hb7
      have cbA_7 := bA_7.cells
      have cbR_7 := bR_7.cells
      have cbS_7 := bS_7.cells
      have cbB_7 := bB_7.cells
      have B7 := Below.seq B6 hb7
      clear hb7 B6 bA_6 bR_6 bS_6 bB_6 cbA_6 cbR_6 cbS_6 cbB_6
      rw [Q.out]
      go_wp2_with fail
      go_ret
      exact ⟨rfl, (by repeat (first | with_reducible exact Below.refl _ _ | with_reducible assumption | with_reducible refine Below.al ?_ _ | with_reducible refine Below.drew ?_ | with_reducible refine Below.seq ?_ (by assumption) | (with_reducible refine Below.setCell ?_ ?_ _); rotate_left; focus (first | exact Nat.le_refl _ | (simp; done) | (simp; omega))))⟩
  · have r0 := rd_arp ⟨#[120, 120]⟩ hk Z (by rw [HZ.out, HX.out])
    obtain ⟨a0, a1, a2, a3, a4, a5⟩ := r0
    rw [a0, a1, a2, a3, a4, a5]
    have HK := hide hk
    clear hk a0 a1 a2 a3 a4 a5
    have ca_bA_5 := (bA_5.alloc (.cells #[.int .i64 k, .int .i64 sh, .int .i64 si, .int .i64 dh, .int .i64 di] 25)).cells
    have ca_bR_5 := (bR_5.alloc (.cells #[.int .i64 k, .int .i64 sh, .int .i64 si, .int .i64 dh, .int .i64 di] 25)).cells
    have ca_bS_5 := (bS_5.alloc (.cells #[.int .i64 k, .int .i64 sh, .int .i64 si, .int .i64 dh, .int .i64 di] 25)).cells
    go_wp2_with fail
    refine (spec_ArpOk _ _ _ _ _ _).mono ?_
    rintro e w6 ⟨rfl, hb6⟩
    have bA_6 := (bA_5.alloc _).below hb6
    have bR_6 := (bR_5.alloc _).below hb6
    have bS_6 := (bS_5.alloc _).below hb6
    have bB_6 := (Blk.new w5 [.int .i64 k, .int .i64 sh, .int .i64 si, .int .i64 dh, .int .i64 di] 25).below hb6
    have cbA_6 := bA_6.cells
    have cbR_6 := bR_6.cells
    have cbS_6 := bS_6.cells
    have cbB_6 := bB_6.cells
    have B6 := Below.seq (Below.al B5 _) hb6
    clear ca_bA_5 ca_bR_5 ca_bS_5 hb6 B5 bA_5 bR_5 bS_5 cbA_5 cbR_5 cbS_5
    rw [HK.out]
    have hE := fun W => neq_arp W k sh si dh di
    cases r
    · go_wp2_with fail
      go_ret
      exact ⟨rfl, (by repeat (first | with_reducible exact Below.refl _ _ | with_reducible assumption | with_reducible refine Below.al ?_ _ | with_reducible refine Below.drew ?_ | with_reducible refine Below.seq ?_ (by assumption) | (with_reducible refine Below.setCell ?_ ?_ _); rotate_left; focus (first | exact Nat.le_refl _ | (simp; done) | (simp; omega))))⟩
    · obtain ⟨q1, q2, q3⟩ := rp_law HR.out.symm
      have q4 : dh = dh := rfl
      have e1 : r1 = 2 := H1.out
      have e2 : r2 = m := H2.out
      have e3 : r3 = i := H3.out
      have e4 : r4 = sh := H4.out
      have e5 : r5 = si := H5.out
      subst e1 e2 e3 e4 e5
      have Q := hide q3
      clear q3 q4
      go_wp2_with fail
      refine (impl_ArpOk _ _ _ _ _ _).mono ?_
      rintro e w7 ⟨rfl, hb7⟩
      have bA_7 := bA_6.below hb7
      have bR_7 := bR_6.below hb7
      have bS_7 := bS_6.below hb7
      have bB_7 := bB_6.below hb7
      have cbA_7 := bA_7.cells
      have cbR_7 := bR_7.cells
      have cbS_7 := bS_7.cells
      have cbB_7 := bB_7.cells
      have B7 := Below.seq B6 hb7
      clear hb7 B6 bA_6 bR_6 bS_6 bB_6 cbA_6 cbR_6 cbS_6 cbB_6
      rw [Q.out]
      go_wp2_with fail
      go_ret
      exact ⟨rfl, (by repeat (first | with_reducible exact Below.refl _ _ | with_reducible assumption | with_reducible refine Below.al ?_ _ | with_reducible refine Below.drew ?_ | with_reducible refine Below.seq ?_ (by assumption) | (with_reducible refine Below.setCell ?_ ?_ _); rotate_left; focus (first | exact Nat.le_refl _ | (simp; done) | (simp; omega))))⟩
end Go.Proofs.Ytahffinjglmhhaa
