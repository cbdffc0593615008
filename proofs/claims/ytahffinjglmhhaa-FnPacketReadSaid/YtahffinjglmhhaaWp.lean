/-
  The walks of the laws on packets.
-/
import Derived.Test.YtahffinjglmhhaaDd
import Derived.Test.YtahffinjglmhhaaRtP
import Derived.Test.YtahffinjglmhhaaWhy
import Derived.Laws.StructEq
namespace Go.Proofs.Ytahffinjglmhhaa
open Go.RowKit
set_option linter.unusedVariables false
set_option linter.unusedSimpArgs false

theorem pkt_size {s d t p i : Int} {b : ByteArray} (h : pktOk s d t p i b = true) : (pktText s d t p i b).size = 20 + b.size := by
  have := (rt_pkt ByteArray.empty h).1
  rw [ByteArray.append_empty] at this
  exact this
theorem rd_pkt {s d t p i : Int} {b : ByteArray} (z : ByteArray) (h : pktOk s d t p i b = true) (Z : ByteArray) (hZ : Z = pktText s d t p i b ++ z) :
    rpC Z = 0 ∧ rpI Z (getV Z 12 4) = s ∧ rpI Z (getV Z 16 4) = d ∧ rpI Z (byt Z 8) = t ∧ rpI Z (byt Z 9) = p ∧ rpI Z (getV Z 4 2) = i ∧ rpS Z (Z.extract 20 (getV Z 2 2).toNat) = b := by
  subst hZ
  have hc := rt_pkt_C z h
  obtain ⟨_, _, _, e4, _, _, e7, e8, e9, e10, e11, e12⟩ := rt_pkt z h
  rw [rpI_eq _ hc, rpI_eq _ hc, rpI_eq _ hc, rpI_eq _ hc, rpI_eq _ hc, rpS_eq _ hc, e4]
  refine ⟨hc, e10, e11, e7, e8, e9, ?_⟩
  rw [show (20 + (b.size : Int)).toNat = 20 + b.size by omega]
  exact e12
theorem eql_pkt (w : World) (s d t p i : Int) (b : ByteArray) : (binOp .eql 50 (.agg #[.int .i64 s, .int .i64 d, .int .i64 t, .int .i64 p, .int .i64 i, .string b]) (.agg #[.int .i64 s, .int .i64 d, .int .i64 t, .int .i64 p, .int .i64 i, .string b])).run Try.prog w = .ok (.bool true) w := by
  simp [go_sem]
set_option maxRecDepth 100000 in
set_option maxHeartbeats 2000000 in
theorem fnPacket_walk (v : Value) (n : Nat) (w : World) (hb : Bytes w v n) :
    Calls Try.prog 6 #[v] w fun e w' => e = .returned (.bool true) ∧ Below w.heap.size w w' := by
  have HB := hide hb
  clear hb
  by_cases hbig : 1048576 < n
  · have e0 : decide (1048576 < n) = true := by simpa using hbig
    have E0 := hide e0
    clear e0
    go_enter Try.func6, Try.ntmps6
    go_wp2_with fail
    refine (big_any v n _ HB.out).mono ?_
    rintro e w1 ⟨rfl, rfl⟩
    rw [E0.out]
    go_wp2_with fail
    go_ret
    exact ⟨rfl, Below.refl _ _⟩
  have e0 : decide (1048576 < n) = false := by simpa using hbig
  have E0 := hide e0
  have hn : n ≤ 1048576 := by omega
  clear e0
  go_enter Try.func6, Try.ntmps6
  go_wp2_with fail
  refine (big_any v n _ HB.out).mono ?_
  rintro e w1 ⟨rfl, rfl⟩
  rw [E0.out]
  go_wp2_with fail
  refine (drawPacketText_any v n _ hn HB.out).mono ?_
  rintro e w1 ⟨⟨s, d, t, p, i, b, rfl, hz⟩, hb1⟩
  have B1 := hb1
  clear hb1
  obtain ⟨X, HX⟩ : ∃ X, Hid (X = pktText s d t p i b) := ⟨_, hide rfl⟩
  go_wp2_with fail
  refine (impl_PacketText _ _ _ _ _ _ _).mono ?_
  rintro e w2 ⟨rfl, hb2⟩
  have bP_2 := (Blk.new w1 [.int .i64 s, .int .i64 d, .int .i64 t, .int .i64 p, .int .i64 i, .string b] 50).below hb2
  have cbP_2 := bP_2.cells
  have B2 := Below.seq (Below.al B1 _) hb2
  clear hb2 B1
  rw [← HX.out]
  go_wp2_with fail
  refine (spec_PacketText _ _ _ _ _ _ _).mono ?_
  rintro e w3 ⟨rfl, hb3⟩
  have bP_3 := bP_2.below hb3
  have cbP_3 := bP_3.cells
  have B3 := Below.seq B2 hb3
  clear hb3 B2 bP_2 cbP_2
  rw [← HX.out]
  cases hk : pktOk s d t p i b
  · have hX0 : X = ⟨#[]⟩ := by rw [HX.out, pktText, hk]; rfl
    rw [hX0]
    have HK := hide hk
    clear hk hX0
    go_wp2_with fail
    refine (impl_PacketOk _ _ _ _ _ _ _).mono ?_
    rintro e w4 ⟨rfl, hb4⟩
    have bP_4 := bP_3.below hb4
    have cbP_4 := bP_4.cells
    have B4 := Below.seq B3 hb4
    clear hb4 B3 bP_3 cbP_3
    rw [HK.out]
    go_wp2_with fail
    go_ret
    exact ⟨rfl, (by repeat (first | with_reducible exact Below.refl _ _ | with_reducible assumption | with_reducible refine Below.al ?_ _ | with_reducible refine Below.drew ?_ | with_reducible refine Below.seq ?_ (by assumption) | (with_reducible refine Below.setCell ?_ ?_ _); rotate_left; focus (first | exact Nat.le_refl _ | (simp; done) | (simp; omega))))⟩
  · have hXs : X.size = 20 + b.size := by rw [HX.out]; exact pkt_size hk
    obtain ⟨e1, e2, e3⟩ := str_ne0 X (by omega)
    have hX2 : (X ++ ⟨#[112, 97, 100]⟩).size ≤ 140737488355328 := by
      rw [ByteArray.size_append, show (⟨#[112, 97, 100]⟩ : ByteArray).size = 3 from rfl]; omega
    have HK := hide hk
    clear hk
    have hXl : 20 ≤ X.size := by omega
    have hXu : X.size ≤ 2100 := by omega
    have HXs := hide hXs
    clear hXs
    go_wp2_with fail
    refine (impl_PacketOk _ _ _ _ _ _ _).mono ?_
    rintro e w4 ⟨rfl, hb4⟩
    have bP_4 := bP_3.below hb4
    have cbP_4 := bP_4.cells
    have B4 := Below.seq B3 hb4
    clear hb4 B3 bP_3 cbP_3
    rw [HK.out]
    go_wp2_with fail
    refine (impl_ReadPacket _ _ hX2).mono ?_
    rintro e w5 ⟨rfl, hb5⟩
    have bP_5 := bP_4.below hb5
    have cbP_5 := bP_5.cells
    have B5 := Below.seq B4 hb5
    clear hb5 B4 bP_4 cbP_4
    obtain ⟨Z, HZ⟩ : ∃ Z, Hid (Z = X ++ ⟨#[112, 97, 100]⟩) := ⟨_, hide rfl⟩
    rw [← HZ.out]
    obtain ⟨a0, a1, a2, a3, a4, a5, a6⟩ := rd_pkt ⟨#[112, 97, 100]⟩ HK.out Z (by rw [HZ.out, HX.out])
    rw [a0, a1, a2, a3, a4, a5, a6]
    clear a0 a1 a2 a3 a4 a5 a6
    go_upto_region 10 with fail
    obtain ⟨W, hW⟩ : ∃ W, W = w5.alloc (.cells #[.int .i64 s, .int .i64 d, .int .i64 t, .int .i64 p, .int .i64 i, .string b] 50) := ⟨_, rfl⟩
    rw [← hW]
    have bP : Blk W w1.heap.size [.int .i64 s, .int .i64 d, .int .i64 t, .int .i64 p, .int .i64 i, .string b] := by rw [hW]; exact bP_5.alloc _
    have bQ : Blk W w5.heap.size [.int .i64 s, .int .i64 d, .int .i64 t, .int .i64 p, .int .i64 i, .string b] := by rw [hW]; exact Blk.new w5 [.int .i64 s, .int .i64 d, .int .i64 t, .int .i64 p, .int .i64 i, .string b] 50
    have BW : Below w.heap.size w W := by rw [hW]; exact Below.al B5 _
    have hlt1 := bP.lt
    have hlt2 := bQ.lt
    clear hW bP_5 cbP_5 B5
    obtain ⟨cap, w20, hconv, c1, c2, c3, c4, c5⟩ := conv_bytes (P := Try.prog) W 9 22 5 X Try.underlying9 Try.underlying22 Try.underlying5
    have C4 := hide c4
    have C5 := hide c5
    have B20 := Below.seq BW c3
    have bP2 := bP.below c3
    have bQ2 := bQ.below c3
    have g0 : w.heap.size ≤ W.heap.size := BW.size
    clear c2 c3 c4 c5 bP bQ BW
    go_wp2_with fail
    refine (at0_any v n 1 _ hn (by omega) (HB.out.below B20)).mono ?_
    rintro e wq ⟨⟨x, rfl, x0, x1⟩, rfl⟩
    have m0 := Int.emod_nonneg x (b := 20) (by decide)
    have m1 := Int.emod_lt_of_pos x (b := 20) (by decide)
    obtain ⟨k, hk⟩ : ∃ k : Nat, x % 20 = k := ⟨(x % 20).toNat, by omega⟩
    rw [hk] at m0 m1
    go_wp2_with fail
    refine (at0_any v n 2 _ hn (by omega) (HB.out.below B20)).mono ?_
    rintro e wq ⟨⟨y, rfl, y0, y1⟩, rfl⟩
    have r0 := Int.emod_nonneg y (b := 254) (by decide)
    have r1 := Int.emod_lt_of_pos y (b := 254) (by decide)
    obtain ⟨q, hq⟩ : ∃ q, y % 254 = q := ⟨_, rfl⟩
    rw [hq] at r0 r1
    have hkX : k < X.size := by omega
    have hk20 : k < 20 := by omega
    have cell := C4.out k hkX
    have frz := C5.out k hkX
    obtain ⟨b0, b1⟩ := byt_bd X k
    obtain ⟨u0, u1, u2⟩ := xor_u8 (byt X k) (1 + q) b0 b1 (by omega) (by omega)
    obtain ⟨z, hz9⟩ : ∃ z, bits .xor .u8 (byt X k) (1 + q) = z := ⟨_, rfl⟩
    rw [hz9] at u0 u1 u2
    have hback := conv_back (P := Try.prog) w20 22 9 5 X W.heap.size k cap z Try.underlying22 Try.underlying5 Try.underlying9 hkX C4.out
    obtain ⟨S2, HS2⟩ : ∃ S2, Hid (S2 = setB X k z) := ⟨_, hide rfl⟩
    rw [← HS2.out] at hback
    have Hbad := hide (show (rpC S2 != 0) = true by
      rw [HS2.out, HX.out]
      rw [HX.out] at u2
      simpa using rt_pkt_turned HK.out k z hk20 u0 u1 u2)
    have hbs : S2.size ≤ 140737488355328 := by rw [HS2.out, size_setB]; omega
    have bP3 := bP2.other (q := W.heap.size) (by omega) k (.int .u8 z)
    have bQ3 := bQ2.other (q := W.heap.size) (by omega) k (.int .u8 z)
    have B21 : Below w.heap.size w (w20.setCell ⟨W.heap.size, k, none⟩ (.int .u8 z)) := B20.setCell g0 _
    clear u0 u1 u2 b0 b1 bP2 bQ2 B20
    go_wp2_with fail
    refine (impl_ReadPacket _ _ hbs).mono ?_
    rintro e w22 ⟨rfl, hb22⟩
    have hc := Hbad.out
    have bP4 := bP3.below hb22
    have bQ4 := bQ3.below hb22
    obtain ⟨y1, HY1⟩ : ∃ x, Hid (x = rpI S2 (getV S2 12 4)) := ⟨_, hide rfl⟩
    obtain ⟨y2, HY2⟩ : ∃ x, Hid (x = rpI S2 (getV S2 16 4)) := ⟨_, hide rfl⟩
    obtain ⟨y3, HY3⟩ : ∃ x, Hid (x = rpI S2 (byt S2 8)) := ⟨_, hide rfl⟩
    obtain ⟨y4, HY4⟩ : ∃ x, Hid (x = rpI S2 (byt S2 9)) := ⟨_, hide rfl⟩
    obtain ⟨y5, HY5⟩ : ∃ x, Hid (x = rpI S2 (getV S2 4 2)) := ⟨_, hide rfl⟩
    obtain ⟨y6, HY6⟩ : ∃ x, Hid (x = rpS S2 (S2.extract 20 (getV S2 2 2).toNat)) := ⟨_, hide rfl⟩
    rw [← HY1.out, ← HY2.out, ← HY3.out, ← HY4.out, ← HY5.out, ← HY6.out]
    have cP4 := (bP4.alloc (.cells #[.int .i64 y1, .int .i64 y2, .int .i64 y3, .int .i64 y4, .int .i64 y5, .string y6] 50)).cells
    have cQ4 := (bQ4.alloc (.cells #[.int .i64 y1, .int .i64 y2, .int .i64 y3, .int .i64 y4, .int .i64 y5, .string y6] 50)).cells
    have B22 := Below.seq B21 hb22
    have hE := fun W => eql_pkt W s d t p i b
    clear bP3 bQ3 bP4 bQ4 B21 hb22 hconv hback cell frz
    go_wp2_with fail
    go_ret
    exact ⟨rfl, (by repeat (first | with_reducible exact Below.refl _ _ | with_reducible assumption | with_reducible refine Below.al ?_ _ | with_reducible refine Below.drew ?_ | with_reducible refine Below.seq ?_ (by assumption) | (with_reducible refine Below.setCell ?_ ?_ _); rotate_left; focus (first | exact Nat.le_refl _ | (simp; done) | (simp; omega))))⟩
theorem neq_pkt (w : World) (s d t p i : Int) (b : ByteArray) : (binOp .neq 50 (.agg #[.int .i64 s, .int .i64 d, .int .i64 t, .int .i64 p, .int .i64 i, .string b]) (.agg #[.int .i64 s, .int .i64 d, .int .i64 t, .int .i64 p, .int .i64 i, .string b])).run Try.prog w = .ok (.bool false) w := by
  simp [go_sem]
theorem eql_pkt0 (w : World) : (binOp .eql 50 (.agg #[.int .i64 0, .int .i64 0, .int .i64 0, .int .i64 0, .int .i64 0, .string ⟨#[]⟩]) (.agg #[.int .i64 0, .int .i64 0, .int .i64 0, .int .i64 0, .int .i64 0, .string ⟨#[]⟩])).run Try.prog w = .ok (.bool true) w := by
  simp [go_sem]
theorem rpC_bd (s : ByteArray) : 0 ≤ rpC s := by
  unfold rpC
  (repeat' split) <;> omega
set_option maxRecDepth 100000 in
set_option maxHeartbeats 2000000 in
theorem fnPacketRead_walk (v : Value) (n : Nat) (w : World) (hb : Bytes w v n) :
    Calls Try.prog 7 #[v] w fun e w' => e = .returned (.bool true) ∧ Below w.heap.size w w' := by
  have HB := hide hb
  clear hb
  by_cases hbig : 1048576 < n
  · have e0 : decide (1048576 < n) = true := by simpa using hbig
    have E0 := hide e0
    clear e0
    go_enter Try.func7, Try.ntmps7
    go_wp2_with fail
    refine (big_any v n _ HB.out).mono ?_
    rintro e w1 ⟨rfl, rfl⟩
    rw [E0.out]
    go_wp2_with fail
    go_ret
    exact ⟨rfl, Below.refl _ _⟩
  have e0 : decide (1048576 < n) = false := by simpa using hbig
  have E0 := hide e0
  have hn : n ≤ 1048576 := by omega
  clear e0
  go_enter Try.func7, Try.ntmps7
  go_wp2_with fail
  refine (big_any v n _ HB.out).mono ?_
  rintro e w1 ⟨rfl, rfl⟩
  rw [E0.out]
  go_wp2_with fail
  refine (drawReadPacket_any v n _ hn HB.out).mono ?_
  rintro e w1 ⟨⟨S, rfl, hS⟩, hb1⟩
  have B1 := hb1
  clear hb1
  have hS2 : S.size ≤ 140737488355328 := by omega
  go_wp2_with fail
  refine (impl_ReadPacket _ _ hS2).mono ?_
  rintro e w2 ⟨rfl, hb2⟩
  have B2 := Below.seq B1 hb2
  clear hb2 B1
  obtain ⟨y1, HY1⟩ : ∃ x, Hid (x = rpI S (getV S 12 4)) := ⟨_, hide rfl⟩
  obtain ⟨y2, HY2⟩ : ∃ x, Hid (x = rpI S (getV S 16 4)) := ⟨_, hide rfl⟩
  obtain ⟨y3, HY3⟩ : ∃ x, Hid (x = rpI S (byt S 8)) := ⟨_, hide rfl⟩
  obtain ⟨y4, HY4⟩ : ∃ x, Hid (x = rpI S (byt S 9)) := ⟨_, hide rfl⟩
  obtain ⟨y5, HY5⟩ : ∃ x, Hid (x = rpI S (getV S 4 2)) := ⟨_, hide rfl⟩
  obtain ⟨y6, HY6⟩ : ∃ x, Hid (x = rpS S (S.extract 20 (getV S 2 2).toNat)) := ⟨_, hide rfl⟩
  obtain ⟨c, HC⟩ : ∃ x, Hid (x = rpC S) := ⟨_, hide rfl⟩
  rw [← HY1.out, ← HY2.out, ← HY3.out, ← HY4.out, ← HY5.out, ← HY6.out, ← HC.out]
  go_wp2_with fail
  refine (spec_ReadPacket _ _ hS2).mono ?_
  rintro e w3 ⟨rfl, hb3⟩
  have bP_3 := (Blk.new w2 [.int .i64 y1, .int .i64 y2, .int .i64 y3, .int .i64 y4, .int .i64 y5, .string y6] 50).below hb3
  have cbP_3 := bP_3.cells
  have B3 := Below.seq (Below.al B2 _) hb3
  clear hb3 B2
  rw [← HY1.out, ← HY2.out, ← HY3.out, ← HY4.out, ← HY5.out, ← HY6.out, ← HC.out]
  have hN := fun W => neq_pkt W y1 y2 y3 y4 y5 y6
  by_cases hc : c = 0
  · have hc2 : rpC S = 0 := by rw [← HC.out]; exact hc
    obtain ⟨ok, hle⟩ := pktOk_of S hc2
    have HK : Hid (pktOk y1 y2 y3 y4 y5 y6 = true) := hide (by rw [HY1.out, HY2.out, HY3.out, HY4.out, HY5.out, HY6.out, rpI_eq _ hc2, rpI_eq _ hc2, rpI_eq _ hc2, rpI_eq _ hc2, rpI_eq _ hc2, rpS_eq _ hc2]; exact ok)
    have hle2 : y6.size + 20 ≤ S.size := by rw [HY6.out, rpS_eq _ hc2]; exact hle
    subst hc
    clear ok hle hc2
    have ca_bP_3 := (bP_3.alloc (.cells #[.int .i64 y1, .int .i64 y2, .int .i64 y3, .int .i64 y4, .int .i64 y5, .string y6] 50)).cells
    go_wp2_with fail
    refine (impl_PacketOk _ _ _ _ _ _ _).mono ?_
    rintro e w4 ⟨rfl, hb4⟩
    have bP_4 := (bP_3.alloc _).below hb4
    have bQ_4 := (Blk.new w3 [.int .i64 y1, .int .i64 y2, .int .i64 y3, .int .i64 y4, .int .i64 y5, .string y6] 50).below hb4
    have cbP_4 := bP_4.cells
    have cbQ_4 := bQ_4.cells
    have B4 := Below.seq (Below.al B3 _) hb4
    clear ca_bP_3 hb4 B3 bP_3 cbP_3
    rw [HK.out]
    go_wp2_with fail
    go_ret
    exact ⟨rfl, (by repeat (first | with_reducible exact Below.refl _ _ | with_reducible assumption | with_reducible refine Below.al ?_ _ | with_reducible refine Below.drew ?_ | with_reducible refine Below.seq ?_ (by assumption) | (with_reducible refine Below.setCell ?_ ?_ _); rotate_left; focus (first | exact Nat.le_refl _ | (simp; done) | (simp; omega))))⟩
  · have hc2 : rpC S ≠ 0 := by rw [← HC.out]; exact hc
    have hc0 : 0 < c := by have := rpC_bd S; rw [← HC.out] at this; omega
    have z1 : y1 = 0 := by rw [HY1.out, rpI_ne _ hc2]
    have z2 : y2 = 0 := by rw [HY2.out, rpI_ne _ hc2]
    have z3 : y3 = 0 := by rw [HY3.out, rpI_ne _ hc2]
    have z4 : y4 = 0 := by rw [HY4.out, rpI_ne _ hc2]
    have z5 : y5 = 0 := by rw [HY5.out, rpI_ne _ hc2]
    have z6 : y6 = ⟨#[]⟩ := by rw [HY6.out, rpS_ne _ hc2]
    have hcb : (c == 0) = false := by simpa using hc
    clear HY1 HY2 HY3 HY4 HY5 HY6 hc2
    subst z1 z2 z3 z4 z5 z6
    have hE := fun W => eql_pkt0 W
    clear hc
    have ca_bP_3 := (bP_3.alloc (.cells #[.int .i64 0, .int .i64 0, .int .i64 0, .int .i64 0, .int .i64 0, .string ⟨#[]⟩] 50)).cells
    go_wp2_with fail
    refine (impl_WhyWord _ _).mono ?_
    rintro e w4 ⟨rfl, hb4⟩
    have bP_4 := (bP_3.alloc _).below hb4
    have bQ_4 := (Blk.new w3 [.int .i64 0, .int .i64 0, .int .i64 0, .int .i64 0, .int .i64 0, .string ⟨#[]⟩] 50).below hb4
    have cbP_4 := bP_4.cells
    have cbQ_4 := bQ_4.cells
    have B4 := Below.seq (Below.al B3 _) hb4
    clear ca_bP_3 hb4 B3 bP_3 cbP_3
    go_wp2_with fail
    refine (spec_WhyWord _ _).mono ?_
    rintro e w5 ⟨rfl, hb5⟩
    have bP_5 := bP_4.below hb5
    have bQ_5 := bQ_4.below hb5
    have cbP_5 := bP_5.cells
    have cbQ_5 := bQ_5.cells
    have B5 := Below.seq B4 hb5
    clear hb5 B4 bP_4 bQ_4 cbP_4 cbQ_4
    go_wp2_with fail
    go_ret
    exact ⟨rfl, (by repeat (first | with_reducible exact Below.refl _ _ | with_reducible assumption | with_reducible refine Below.al ?_ _ | with_reducible refine Below.drew ?_ | with_reducible refine Below.seq ?_ (by assumption) | (with_reducible refine Below.setCell ?_ ?_ _); rotate_left; focus (first | exact Nat.le_refl _ | (simp; done) | (simp; omega))))⟩
end Go.Proofs.Ytahffinjglmhhaa
