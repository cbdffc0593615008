/-
  The walk of the law on figures and parts.
-/
import Derived.Test.YtahffinjglmhhaaDc
import Derived.Test.YtahffinjglmhhaaHexB
import Derived.Test.YtahffinjglmhhaaJoiB
import Derived.Deep.RegionHeld
namespace Go.Proofs.Ytahffinjglmhhaa
open Go.RowKit
set_option linter.unusedVariables false
theorem parts_sums (s : ByteArray) (b : Int) : sums (parts s b) (parts s b).length ≤ s.size := by
  rw [sums, List.take_length]; exact parts_sum s b
theorem conv_one (W : World) (x : Int) : (convert 22 9 (.slice (some ⟨W.heap.size, 0, none⟩) 1 1)).run Try.prog (W.alloc (.cells #[.int .u8 x] 5)) = .ok (.string (strOfNums [x])) (W.alloc (.cells #[.int .u8 x] 5)) :=
  run_string_own (P := Try.prog) (xs := [x]) Try.underlying22 Try.underlying5 Try.underlying9 (World.ownsRow_lit (base := W.heap.size) (size := 1) (e := 5) W #[.int .u8 x] 1 (Nat.le_refl _) (by decide) (by rfl))
theorem conv_one_drew (W : World) (x : Int) : (convert 22 9 (.slice (some ⟨W.heap.size, 0, none⟩) 1 1)).run Try.prog (W.alloc (.cells #[.int .u8 x] 5)).drew = .ok (.string (strOfNums [x])) (W.alloc (.cells #[.int .u8 x] 5)).drew :=
  conv_one W.drew x
theorem conv_after {W w5 : World} (x : Int) (hb : Below (W.alloc (.cells #[.int .u8 x] 5)).drew.heap.size (W.alloc (.cells #[.int .u8 x] 5)).drew w5) : (convert 22 9 (.slice (some ⟨W.heap.size, 0, none⟩) 1 1)).run Try.prog w5 = .ok (.string (strOfNums [x])) w5 :=
  run_string_own (P := Try.prog) (xs := [x]) Try.underlying22 Try.underlying5 Try.underlying9 (row_belowV (World.ownsRow_lit (base := W.heap.size) (size := 1) (e := 5) W #[.int .u8 x] 1 (Nat.le_refl _) (by decide) (by rfl)).drew hb)
set_option maxRecDepth 100000 in
set_option maxHeartbeats 4000000 in
theorem fnHex_walk (v : Value) (n : Nat) (w : World) (hb : Bytes w v n) :
    Calls Try.prog 4 #[v] w fun e w' => e = .returned (.bool true) ∧ Below w.heap.size w w' := by
  have HB := hide hb
  clear hb
  by_cases hbig : 1048576 < n
  · have e0 : decide (1048576 < n) = true := by simpa using hbig
    have E0 := hide e0
    clear e0
    go_enter Try.func4, Try.ntmps4
    go_wp2_with fail
    refine (big_any v n _ HB.out).mono ?_
    rintro e w1 ⟨rfl, rfl⟩
    rw [E0.out]
    go_wp2_with fail
    go_ret
    exact ⟨rfl, Below.refl _ _⟩
  have e0 : decide (1048576 < n) = false := by simpa using hbig
  have E0 := hide e0
  have hn : n ≤ 1048576 := by omega
  clear e0
  go_enter Try.func4, Try.ntmps4
  go_wp2_with fail
  refine (big_any v n _ HB.out).mono ?_
  rintro e w1 ⟨rfl, rfl⟩
  rw [E0.out]
  (go_wp2_with fail; refine (drawHex_any v n _ hn HB.out).mono ?_; rintro e w1 ⟨⟨s, rfl, hs⟩, hb1⟩)
  have hs2 : s.size ≤ 1048576 := by omega
  (go_wp2_with fail; refine (impl_Hex _ _ hs2).mono ?_; rintro e w2 ⟨rfl, hb2⟩)
  have B2 := Below.seq hb1 hb2
  clear hb1 hb2
  obtain ⟨H, HH⟩ : ∃ H, Hid (H = strOfNums (hx s s.size)) := ⟨_, hide rfl⟩
  rw [← HH.out]
  have hHs : H.size = 2 * s.size := by rw [HH.out]; exact hexT_size s
  have hH2 : H.size ≤ 1048576 := by omega
  obtain ⟨u1, u2⟩ := unhex_hex s
  rw [← HH.out] at u1 u2
  have U1 := hide u1
  have U2 := hide u2
  have hlen : ((H.size : Int) == IntKind.i64.wrap (2 * (s.size : Int))) = true := by
    rw [IntWalk.i64_in _ ⟨by omega, by omega⟩]; simp; omega
  have HHs := hide hHs
  clear u1 u2 hHs
  (go_wp2_with fail; refine (impl_Unhex _ _ hH2).mono ?_; rintro e w3 ⟨rfl, hb3⟩)
  rw [U1.out, U2.out]
  have B3 := Below.seq B2 hb3
  clear B2 hb3
  (go_wp2_with fail; refine (drawParts_any v n _ hn (HB.out.below B3)).mono ?_; rintro e w4 ⟨⟨t, y, rfl, ht, y0, y1⟩, hb4⟩)
  have B4 := Below.seq B3 hb4
  have ht2 : t.size ≤ 1048576 := by omega
  have HJ : Hid (joined (parts t y) (strOfNums [y]) = t) := hide (joined_parts t y y0 y1)
  have hpl : (parts t y).length ≤ 1048576 := by
    have := (pt_le t y t.size).2
    rw [parts, List.length_append]; simp; omega
  have hps := parts_sums t y
  clear B3 hb4
  have hW4 : Below w.heap.size w w4.drew := B4.drew
  go_wp2_with fail
  have hsep : (strOfNums [y]).size ≤ 1048576 := by rw [strOfNums_size]; exact (show 1 ≤ 1048576 by decide)
  have hcv := fun (W : World) (x : Int) => conv_one W x
  have hcvd := fun (W : World) (x : Int) => conv_one_drew W x
  first | (go_region_held (fun W => Below w.heap.size w W) (first | assumption | exact Below.drew (by assumption) | exact Below.al (by assumption) _ | exact Below.drew (Below.al (by assumption) _) | exact Below.seq (by assumption) (by assumption)) (first | (go_at_call 23; refine (impl_Parts _ _ _ ht2 y0 y1).mono ?_; rintro e w5 ⟨⟨v5, rfl, r5⟩, hb5⟩; have T5 := hide (Txts.of_row r5); clear r5; (first | have hcv5 := conv_after y hb5 | skip)) | (go_at_call 22; refine (impl_Joined _ (parts t y) (strOfNums [y]) _ (by first | exact T5.out | exact T5.out.below (below_alloc' _ _) | exact T5.out.below (Below.drew (below_alloc' _ _))) hpl hsep (by omega)).mono ?_; rintro e w6 ⟨rfl, hb6⟩; rw [HJ.out]))) | fail
  all_goals
    go_wp2
    go_ret
    exact ⟨rfl, by first | assumption | exact Below.drew (by assumption) | exact Below.seq (by assumption) (by assumption)⟩
end Go.Proofs.Ytahffinjglmhhaa
