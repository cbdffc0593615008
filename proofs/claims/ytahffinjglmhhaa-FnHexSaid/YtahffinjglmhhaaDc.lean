/-
  What the laws on frames, messages of ARP, packets, options, segments and figures draw.
-/
import Derived.Test.YtahffinjglmhhaaDb
import Derived.Test.YtahffinjglmhhaaSText
import Derived.Test.YtahffinjglmhhaaPText
import Derived.Test.YtahffinjglmhhaaHex
import Derived.Test.YtahffinjglmhhaaApp
import Derived.Test.YtahffinjglmhhaaTu
namespace Go.Proofs.Ytahffinjglmhhaa
open Go.RowKit
set_option linter.unusedVariables false
theorem hB1 {w w1 : World} (o : Obj) (h : Below (w.alloc o).heap.size (w.alloc o) w1) : Below w.heap.size w w1 := Below.seq (below_alloc' w o) h
theorem hG1 {w : World} {g : Nat} {o : Obj} (h : (w.alloc o).heap.size ≤ g) : w.heap.size ≤ g ∧ w.heap.size ≠ g := by simp at h; omega
theorem size_frameText_le (d s t : Int) (b : ByteArray) : (frameText d s t b).size ≤ 18 + b.size := by
  have h1 := size_putWord_le d 6
  have h2 := size_putWord_le s 6
  have h3 := size_putWord_le t 2
  unfold frameText
  split
  · simp only [ByteArray.size_append]; omega
  · show (⟨#[]⟩ : ByteArray).size ≤ _
    exact Nat.zero_le _
theorem size_pktText_le (s d t p i : Int) (b : ByteArray) : (pktText s d t p i b).size ≤ 100 + b.size := by
  have h1 := size_putWord_le s 4
  have h2 := size_putWord_le d 4
  have h3 := size_putWord_le t 1
  have h4 := size_putWord_le p 1
  have h5 := size_putWord_le i 2
  have h6 := size_putWord_le (20 + (b.size : Int)) 2
  have h7 := size_putWord_le (sumOf (pkF t p i b.size ++ pkB s d)) 2
  have k1 : (⟨#[69, 0]⟩ : ByteArray).size = 2 := rfl
  have k2 : (⟨#[0, 0]⟩ : ByteArray).size = 2 := rfl
  unfold pktText
  split
  · simp only [ByteArray.size_append, pkF, pkB, k1, k2] at h7 ⊢; omega
  · exact Nat.zero_le _
theorem size_segText_le (f t q a l n m s : Int) (k st : Bool) (v y : Int) (b : ByteArray) (src dst : Int) : (segText f t q a l n m s k st v y b src dst).size ≤ 200 + b.size := by
  have h1 := size_putWord_le f 2
  have h2 := size_putWord_le t 2
  have h3 := size_putWord_le q 4
  have h4 := size_putWord_le a 4
  have h5 := size_putWord_le ((20 + (((optText m s k st v y).size : Nat) : Int)) / 4 * 16) 1
  have h6 := size_putWord_le l 1
  have h7 := size_putWord_le n 2
  have h8 := size_optText m s k st v y
  have k2 : (⟨#[0, 0]⟩ : ByteArray).size = 2 := rfl
  unfold segText
  split
  · have h9 := size_putWord_le (sumOf ((pseudo src dst (20 + ((optText m s k st v y).size : Int) + (b.size : Int))) ++ sgF f t q a l n (optText m s k st v y).size ++ ⟨#[0, 0]⟩ ++ sgB (optText m s k st v y) b)) 2
    unfold sgBody
    rw [ByteArray.size_append, ByteArray.size_append]
    simp only [sgF, sgB, ByteArray.size_append, k2] at h9 ⊢
    omega
  · exact Nat.zero_le _
theorem drawFrameText_any (v : Value) (n : Nat) (w : World) (hn : n ≤ 1048576) (hb : Bytes w v n) :
    Calls Try.prog 24 #[v] w fun e w' => FrP e ∧ Below w.heap.size w w' := by
  have HB := hide hb
  clear hb
  go_enter Try.func24, Try.ntmps24
  go_wp2_with fail
  refine (l1New_any v n _ hn (HB.out.below (below_alloc' w _))).mono ?_
  rintro e w1 ⟨⟨g, rfl, hg, hc⟩, hb1⟩
  go_wp2_with fail
  refine (l5Frame_any g _ hc).mono ?_
  rintro e w2 ⟨⟨d, s, t, b, rfl, hz⟩, hst⟩
  have hB := (hB1 _ hb1)
  have hB2 := hst.out hB (hG1 hg).1
  obtain ⟨cA, fA, _⟩ := ((Blk.new w [.int .i64 0, .int .i64 0, .int .i64 0, .string ⟨#[]⟩] 43).below hb1).st hst (hG1 hg).2
  clear hst hb1 hB hg hc
  go_wp2
  simp [bodyPost, results, Try.results24, go_sem, cA]
  all_goals exact ⟨⟨_, _, _, _, rfl, hz⟩, (by repeat (first | with_reducible exact Below.refl _ _ | with_reducible assumption | with_reducible refine Below.al ?_ _ | with_reducible refine Below.drew ?_ | with_reducible refine Below.seq ?_ (by assumption) | (with_reducible refine Below.setCell ?_ ?_ _); rotate_left; focus (first | exact Nat.le_refl _ | (simp; done) | (simp; omega))))⟩
theorem drawReadFrame_any (v : Value) (n : Nat) (w : World) (hn : n ≤ 1048576) (hb : Bytes w v n) :
    Calls Try.prog 28 #[v] w fun e w' => StrP 3020 e ∧ Below w.heap.size w w' := by
  have HB := hide hb
  clear hb
  go_enter Try.func28, Try.ntmps28
  go_wp2_with fail
  refine (l1New_any v n _ hn HB.out).mono ?_
  rintro e w1 ⟨⟨g, rfl, hg, hc⟩, hb1⟩
  go_wp2_with fail
  refine (l5Frame_any g _ hc).mono ?_
  rintro e w2 ⟨⟨d, s, t, b, rfl, hz⟩, hst⟩
  go_wp2_with fail
  refine (spec_FrameText _ _ _ _ _ (by omega)).mono ?_
  rintro e w3 ⟨rfl, hb3⟩
  have hst3 := hst.seqB hb3
  have hl := hst3.2.lt
  obtain ⟨T, hT⟩ : ∃ T, T = frameText d s t b := ⟨_, rfl⟩
  have hs : T.size ≤ 3000 := by have := size_frameText_le d s t b; rw [hT]; omega
  rw [← hT]
  clear hT
  go_wp2_with fail
  refine (l1Turned_any g _ 3 _ _ 3000 w1 _ (hst3.alloc _) hs (by omega) (by omega) (by simp) (by omega) (by omega) (strLit _ _ 20 [⟨#[0]⟩, ⟨#[5]⟩, ⟨#[120]⟩] (by decide))).mono ?_
  rintro e w4 ⟨⟨x, rfl, hx⟩, hst4⟩
  have Hx := hide hx
  clear hx
  go_wp2_with fail
  go_ret
  exact ⟨⟨_, rfl, Hx.out⟩, hst4.out hb1 hg⟩
/-- Two blocks of the call's own, one read, one written; and the cursor. -/
abbrev Two (g : Nat) (w1 : World) (q r : Nat) (l l' : List Value) (W : World) : Prop := (∀ o, W.cell? ⟨q, o, none⟩ = l.toArray[o]?) ∧ (∀ o, W.frozen? ⟨r, o, none⟩ = false) ∧ (∀ o, W.cell? ⟨r, o, none⟩ = l'.toArray[o]?) ∧ St g w1 W
theorem Two.drew {g : Nat} {w1 : World} {q r : Nat} {l l' : List Value} {W : World} (h : Two g w1 q r l l' W) : Two g w1 q r l l' W.drew := ⟨h.1, h.2.1, h.2.2.1, h.2.2.2.drew⟩
theorem Two.call {P : Program} {f : Nat} {args : Array Value} {p : Ending → Prop} {g : Nat} {w1 : World} {q r : Nat} {v v' : Value} {l l' : List Value} {W : World} (hq : q ≠ g) (hr : r ≠ g)
    (hc : ∀ W, Cur g W → Calls P f args W fun e w' => p e ∧ St g W w') (h : Two g w1 q r (v :: l) (v' :: l') W) : Calls P f args W fun e w' => p e ∧ Two g w1 q r (v :: l) (v' :: l') w' := by
  refine (hc W h.2.2.2.2).mono ?_
  rintro e w' ⟨h1, h2⟩
  have l1 := World.block_lt_of_cell? W ⟨q, 0, none⟩ (h.1 0)
  have l2 := World.block_lt_of_cell? W ⟨r, 0, none⟩ (h.2.2.1 0)
  exact ⟨h1, fun o => (h2.1.cell hq l1).trans (h.1 o), fun o => (h2.1.frozen hr l2).trans (h.2.1 o), fun o => (h2.1.cell hr l2).trans (h.2.2.1 o), h.2.2.2.trans h2⟩
set_option maxHeartbeats 4000000 in
theorem drawArpReply_any (v : Value) (n : Nat) (w : World) (hn : n ≤ 1048576) (hb : Bytes w v n) :
    Calls Try.prog 11 #[v] w fun e w' => (∃ k sh si dh di m i : Int, e = .returned (.tuple #[.agg #[.int .i64 k, .int .i64 sh, .int .i64 si, .int .i64 dh, .int .i64 di], .int .i64 m, .int .i64 i])) ∧ Below w.heap.size w w' := by
  have HB := hide hb
  clear hb
  go_enter Try.func11, Try.ntmps11
  go_wp2_with fail
  refine (l1New_any v n _ hn (HB.out.below (below_alloc' w _))).mono ?_
  rintro e w1 ⟨⟨g, rfl, hg, hc⟩, hb1⟩
  go_wp2_with fail
  refine (l6Arp_any g _ hc).mono ?_
  rintro e w2 ⟨⟨k, sh, si, dh, di, rfl⟩, hst⟩
  have hgn := (hG1 hg).2
  have hlt := hst.2.lt
  have bA := (((Blk.new w [.int .i64 0, .int .i64 0, .int .i64 0, .int .i64 0, .int .i64 0] 25).below hb1).st hst hgn).alloc (.cells #[.int .i64 k, .int .i64 sh, .int .i64 si, .int .i64 dh, .int .i64 di] 25)
  have bF := Blk.new w2 [.int .i64 k, .int .i64 sh, .int .i64 si, .int .i64 dh, .int .i64 di] 25
  have hst2 := hst.alloc (.cells #[.int .i64 k, .int .i64 sh, .int .i64 si, .int .i64 dh, .int .i64 di] 25)
  go_wp2_with fail
  refine (l1Once_any g _ _ 2 (by omega) (St.refl hst2.2)).mono ?_
  rintro e w3 ⟨⟨p, rfl⟩, h3⟩
  have bA3 := bA.st h3 hgn
  have bF3 := bF.st h3 (by omega)
  have hst3 := hst2.trans h3
  have hs3 : w2.heap.size ≠ g := by omega
  clear bA bF hst2 h3 hst
  cases p
  all_goals
    have hgF : w2.heap.size ≠ g := hs3
    have T3 : Two g w1 w2.heap.size w.heap.size [.int .i64 k, .int .i64 sh, .int .i64 si, .int .i64 dh, .int .i64 di] [.int .i64 0, .int .i64 0, .int .i64 0, .int .i64 0, .int .i64 0] w3 := ⟨bF3.cells, bA3.frz, bA3.cells, hst3⟩
    have T3' := T3
    obtain ⟨cF, fA, cA, _⟩ := T3'
    clear bA3 bF3
    have hB0 := hB1 _ hb1
    have hG0 := (hG1 hg).1
    clear hb1 hg hc
    go_wp2_with fail
    go_region_with (first | (go_at_call 59; refine (Two.call hgF hgn (fun W hW => l5Mac_any g W W (St.refl hW)) (by first | exact T3 | exact T3.drew)).mono ?_; rintro e w4 ⟨⟨x, rfl, hx⟩, h4⟩; clear hx; have h4' := h4; obtain ⟨cF4, fA4, cA4, s4⟩ := h4'; have hB4 := s4.out hB0 hG0; clear s4) | (go_at_call 60; refine (Two.call hgF hgn (fun W hW => l6Ip_any g W W (St.refl hW)) (by first | exact h4 | exact h4.drew)).mono ?_; rintro e w5 ⟨⟨y, rfl, hy⟩, h5⟩; clear hy; have h5' := h5; obtain ⟨cF5, fA5, cA5, s5⟩ := h5'; have hB4 := s5.out hB0 hG0; clear s5))
    all_goals
      go_wp2
      first | simp [bodyPost, results, Try.results11, go_sem, cA5] | simp [bodyPost, results, Try.results11, go_sem, cA4]
      all_goals first | exact (by repeat (first | with_reducible exact Below.refl _ _ | with_reducible assumption | with_reducible refine Below.al ?_ _ | with_reducible refine Below.drew ?_ | with_reducible refine Below.seq ?_ (by assumption) | (with_reducible refine Below.setCell ?_ ?_ _); rotate_left; focus (first | exact Nat.le_refl _ | (simp; done) | (simp; omega)))) | exact ⟨⟨_, _, _, _, _, _, _, rfl⟩, (by repeat (first | with_reducible exact Below.refl _ _ | with_reducible assumption | with_reducible refine Below.al ?_ _ | with_reducible refine Below.drew ?_ | with_reducible refine Below.seq ?_ (by assumption) | (with_reducible refine Below.setCell ?_ ?_ _); rotate_left; focus (first | exact Nat.le_refl _ | (simp; done) | (simp; omega))))⟩
theorem drawPacketText_any (v : Value) (n : Nat) (w : World) (hn : n ≤ 1048576) (hb : Bytes w v n) :
    Calls Try.prog 31 #[v] w fun e w' => PkP e ∧ Below w.heap.size w w' := by
  have HB := hide hb
  clear hb
  go_enter Try.func31, Try.ntmps31
  go_wp2_with fail
  refine (l1New_any v n _ hn (HB.out.below (below_alloc' w _))).mono ?_
  rintro e w1 ⟨⟨g, rfl, hg, hc⟩, hb1⟩
  go_wp2_with fail
  refine (l7Packet_any g _ hc).mono ?_
  rintro e w2 ⟨⟨s, d, t, p, i, b, rfl, hz⟩, hst⟩
  have hB := (hB1 _ hb1)
  have hB2 := hst.out hB (hG1 hg).1
  obtain ⟨cA, fA, _⟩ := ((Blk.new w [.int .i64 0, .int .i64 0, .int .i64 0, .int .i64 0, .int .i64 0, .string ⟨#[]⟩] 50).below hb1).st hst (hG1 hg).2
  clear hst hb1 hB hg hc
  go_wp2
  simp [bodyPost, results, Try.results31, go_sem, cA]
  all_goals exact ⟨⟨_, _, _, _, _, _, rfl, hz⟩, (by repeat (first | with_reducible exact Below.refl _ _ | with_reducible assumption | with_reducible refine Below.al ?_ _ | with_reducible refine Below.drew ?_ | with_reducible refine Below.seq ?_ (by assumption) | (with_reducible refine Below.setCell ?_ ?_ _); rotate_left; focus (first | exact Nat.le_refl _ | (simp; done) | (simp; omega))))⟩
theorem drawOptionsText_any (v : Value) (n : Nat) (w : World) (hn : n ≤ 1048576) (hb : Bytes w v n) :
    Calls Try.prog 41 #[v] w fun e w' => OpP e ∧ Below w.heap.size w w' := by
  have HB := hide hb
  clear hb
  go_enter Try.func41, Try.ntmps41
  go_wp2_with fail
  refine (l1New_any v n _ hn (HB.out.below (below_alloc' w _))).mono ?_
  rintro e w1 ⟨⟨g, rfl, hg, hc⟩, hb1⟩
  go_wp2_with fail
  refine (l8Bent_any g _ hc).mono ?_
  rintro e w2 ⟨⟨m, s, k, st, x, y, rfl⟩, hst⟩
  have hB := (hB1 _ hb1)
  have hB2 := hst.out hB (hG1 hg).1
  obtain ⟨cA, fA, _⟩ := ((Blk.new w [.int .i64 0, .int .i64 0, .bool false, .bool false, .int .i64 0, .int .i64 0] 59).below hb1).st hst (hG1 hg).2
  clear hst hb1 hB hg hc
  go_wp2
  simp [bodyPost, results, Try.results41, go_sem, cA]
  all_goals exact ⟨⟨_, _, _, _, _, _, rfl⟩, (by repeat (first | with_reducible exact Below.refl _ _ | with_reducible assumption | with_reducible refine Below.al ?_ _ | with_reducible refine Below.drew ?_ | with_reducible refine Below.seq ?_ (by assumption) | (with_reducible refine Below.setCell ?_ ?_ _); rotate_left; focus (first | exact Nat.le_refl _ | (simp; done) | (simp; omega))))⟩
theorem drawReadOptions_any (v : Value) (n : Nat) (w : World) (hn : n ≤ 1048576) (hb : Bytes w v n) :
    Calls Try.prog 45 #[v] w fun e w' => StrP 120 e ∧ Below w.heap.size w w' := by
  have HB := hide hb
  clear hb
  go_enter Try.func45, Try.ntmps45
  go_wp2_with fail
  refine (l1New_any v n _ hn HB.out).mono ?_
  rintro e w1 ⟨⟨g, rfl, hg, hc⟩, hb1⟩
  go_wp2_with fail
  refine (l8Options_any g _ hc).mono ?_
  rintro e w2 ⟨⟨m, s, k, st, x, y, rfl⟩, hst⟩
  go_wp2_with fail
  refine (spec_OptionsText _ _ _ _ _ _ _).mono ?_
  rintro e w3 ⟨rfl, hb3⟩
  have hst3 := hst.seqB hb3
  obtain ⟨T, hT⟩ : ∃ T, T = optText m s k st x y := ⟨_, rfl⟩
  have hs : T.size ≤ 36 := by rw [hT]; exact size_optText _ _ _ _ _ _
  rw [← hT]
  clear hT hst hb3
  (go_wp2_with fail; refine (l1Once_any g w1 _ 3 (by omega) hst3).mono ?_; rintro e w4 ⟨⟨p, rfl⟩, hst4⟩)
  clear hst3
  cases p
  · have hl := hst4.2.lt
    go_wp2_with fail
    refine (l1Turned_any g _ 8 _ _ 100 w1 _ (hst4.alloc _) (by omega) (by omega) (by omega) (by simp) (by omega) (by omega) (strLit _ _ 20 [⟨#[0]⟩, ⟨#[1]⟩, ⟨#[2]⟩, ⟨#[4, 2]⟩, ⟨#[5, 10, 0, 0, 0, 0, 0, 0, 0, 0]⟩, ⟨#[3, 3, 15]⟩, ⟨#[2, 3, 1]⟩, ⟨#[255]⟩] (by decide))).mono ?_
    rintro e w5 ⟨⟨z, rfl, hx⟩, hst5⟩
    have Hx := hide hx
    clear hx
    go_wp2_with fail
    go_ret
    exact ⟨⟨_, rfl, Hx.out⟩, hst5.out hb1 hg⟩
  · go_wp2_with fail
    refine (l8Options_any g _ hst4.2).mono ?_
    rintro e w5 ⟨⟨m2, s2, k2, st2, x2, y2, rfl⟩, h5⟩
    go_wp2_with fail
    refine (spec_OptionsText _ _ _ _ _ _ _).mono ?_
    rintro e w6 ⟨rfl, hb6⟩
    have hst6 := (hst4.trans h5).seqB hb6
    obtain ⟨T2, hT⟩ : ∃ T, T = optText m2 s2 k2 st2 x2 y2 := ⟨_, rfl⟩
    have hs2 : T2.size ≤ 36 := by rw [hT]; exact size_optText _ _ _ _ _ _
    rw [← hT]
    clear hT h5 hb6 hst4
    have hs3 : (T ++ T2).size ≤ 100 := by rw [ByteArray.size_append]; omega
    have hs4 : T.size + T2.size ≤ 100 := by omega
    have hl := hst6.2.lt
    go_wp2_with fail
    refine (l1Turned_any g _ 8 _ _ 100 w1 _ (hst6.alloc _) hs3 (by omega) (by omega) (by simp) (by omega) (by omega) (strLit _ _ 20 [⟨#[0]⟩, ⟨#[1]⟩, ⟨#[2]⟩, ⟨#[4, 2]⟩, ⟨#[5, 10, 0, 0, 0, 0, 0, 0, 0, 0]⟩, ⟨#[3, 3, 15]⟩, ⟨#[2, 3, 1]⟩, ⟨#[255]⟩] (by decide))).mono ?_
    rintro e w7 ⟨⟨z, rfl, hx⟩, hst7⟩
    have Hx := hide hx
    clear hx
    go_wp2_with fail
    go_ret
    exact ⟨⟨_, rfl, Hx.out⟩, hst7.out hb1 hg⟩
theorem drawHex_any (v : Value) (n : Nat) (w : World) (hn : n ≤ 1048576) (hb : Bytes w v n) :
    Calls Try.prog 18 #[v] w fun e w' => StrP 1000 e ∧ Below w.heap.size w w' := by
  have HB := hide hb
  clear hb
  go_enter Try.func18, Try.ntmps18
  go_wp2_with fail
  refine (l1New_any v n _ hn HB.out).mono ?_
  rintro e w1 ⟨⟨g, rfl, hg, hc⟩, hb1⟩
  go_wp2_with fail
  refine (l1Below_any g w1 _ 12 (by omega) (St.refl hc)).mono ?_
  rintro e w2 ⟨⟨x, rfl, hx0, hx1⟩, hst⟩
  have hx2 : x ≤ 1000 := by omega
  clear hx1
  go_wp2_with fail
  refine (l1Bytes_any g _ hst.2 x hx2).mono ?_
  rintro e w3 ⟨⟨u, xs, rfl, hr, hl, hx⟩, hst2⟩
  have hconv := run_string_own (P := Try.prog) Try.underlying22 Try.underlying5 Try.underlying9 hr
  have Hl := hide (show (strOfNums xs).size ≤ 1000 by rw [strOfNums_size]; omega)
  clear hr hl hx
  go_wp2_with fail
  go_ret
  exact ⟨⟨_, rfl, Hl.out⟩, (hst.trans hst2).out hb1 hg⟩
theorem drawParts_any (v : Value) (n : Nat) (w : World) (hn : n ≤ 1048576) (hb : Bytes w v n) :
    Calls Try.prog 21 #[v] w fun e w' => (∃ (s : ByteArray) (b : Int), e = .returned (.tuple #[.string s, .int .u8 b]) ∧ s.size ≤ 20 ∧ 0 ≤ b ∧ b ≤ 255) ∧ Below w.heap.size w w' := by
  have HB := hide hb
  clear hb
  go_enter Try.func21, Try.ntmps21
  go_wp2_with fail
  refine (l1New_any v n _ hn HB.out).mono ?_
  rintro e w1 ⟨⟨g, rfl, hg, hc⟩, hb1⟩
  have hl := hc.lt
  go_wp2_with fail
  refine (l1Pick_any g _ 6 _ 20 w1 _ ((St.refl hc).alloc _) (by omega) (by simp) (by omega) (by omega) (strLit _ _ 20 [⟨#[]⟩, ⟨#[97]⟩, ⟨#[97, 44, 98]⟩, ⟨#[44]⟩, ⟨#[97, 44, 44, 98, 44]⟩, ⟨#[97, 10, 98, 10]⟩] (by decide))).mono ?_
  rintro e w2 ⟨⟨s, rfl, hs⟩, hst⟩
  have hl2 := hst.2.lt
  go_wp2_with fail
  refine (l1PickInt_any g _ 2 _ (fun x => 0 ≤ x ∧ x ≤ 255) w1 _ (hst.alloc _) (by omega) (by simp) (by omega) (by omega) (pickLit _ _ [44, 10] _ (by decide))).mono ?_
  rintro e w3 ⟨⟨b, rfl, hb⟩, hst3⟩
  obtain ⟨b0, b1⟩ := hb
  have hw : IntKind.u8.wrap b = b := IntWalk.u8_in _ ⟨by omega, by omega⟩
  have Hs := hide hs
  clear hs
  go_wp2_with fail
  go_ret2
  exact ⟨⟨_, _, rfl, Hs.out, b0, b1⟩, hst3.out hb1 hg⟩
end Go.Proofs.Ytahffinjglmhhaa
