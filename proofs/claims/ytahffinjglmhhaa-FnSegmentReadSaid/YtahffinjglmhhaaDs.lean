/-
  A segment drawn to be read.
-/
import Derived.Test.YtahffinjglmhhaaDd
import Derived.Deep.RegionHeld3
import Derived.Deep.DeepCutAuto
namespace Go.Proofs.Ytahffinjglmhhaa
open Go.RowKit
set_option linter.unusedVariables false
theorem conv_at {P : Program} {W : World} {q n cap : Nat} {L : List Int} (hL : L.length = n) (h : ∀ j, j < n → W.cell? ⟨q, j, none⟩ = some (.int .u8 (L.getD j 0))) (src dst e : TypeId) (hs : P.underlying src = some (.slice e)) (he : P.underlying e = some (.int .u8)) (hd : P.underlying dst = some .string) :
    (convert src dst (.slice (some ⟨q, 0, none⟩) n cap)).run P W = .ok (.string (strOfNums L)) W :=
  run_convert_bytes_arg _ src e hs he q 0 n cap L hL (fun i hi => by rw [Nat.zero_add]; exact h i hi) dst hd
theorem cvS {P : Program} {W2 W W' : World} {src dst : TypeId} {v : Value} {T : ByteArray} (hcv : Hid (∀ V, Below W2.heap.size W2 V → (convert src dst v).run P V = .ok (.string T) V)) (h : (convert src dst v).run P W = .ok (.string T) W ∧ Hid (Below W2.heap.size W2 W)) (hb : Below W.heap.size W W') : (convert src dst v).run P W' = .ok (.string T) W' ∧ Hid (Below W2.heap.size W2 W') :=
  ⟨hcv.out _ (Below.seq h.2.out hb), hide (Below.seq h.2.out hb)⟩
def StP (e : Ending) : Prop := ∃ (s : ByteArray) (src dst : Int), e = .returned (.tuple #[.string s, .int .i64 src, .int .i64 dst]) ∧ s.size ≤ 2300
theorem rs_last (g : Nat) (w0 w1 w : World) (src : Int) (hb1 : Below w0.heap.size w0 w1) (hg : w0.heap.size ≤ g) (hst : St g w1 w) : True := trivial
set_option maxRecDepth 100000 in
set_option maxHeartbeats 4000000 in
theorem drawReadSegment_any (v : Value) (n : Nat) (w : World) (hn : n ≤ 1048576) (hb : Bytes w v n) :
    Calls Try.prog 50 #[v] w fun e w' => StP e ∧ Below w.heap.size w w' := by
  have HB := hide hb
  clear hb
  go_enter Try.func50, Try.ntmps50
  go_wp2_with fail
  refine (l1New_any v n _ hn HB.out).mono ?_
  rintro e w1 ⟨⟨g, rfl, hg, hc⟩, hb1⟩
  have hga := hc.lt
  (go_wp2_with fail; refine (l6Ip_any g w1 _ (St.refl hc)).mono ?_; rintro e w2 ⟨⟨src, rfl, hx⟩, h2⟩)
  clear hx hc
  (go_wp2_with fail; refine (l6Ip_any g w1 _ h2).mono ?_; rintro e w3 ⟨⟨dst, rfl, hx⟩, h3⟩)
  clear hx h2
  (go_wp2_with fail; refine (l9Segment_any g _ h3.2).mono ?_; rintro e w4 ⟨⟨f, t, q, a, l, n9, m, s, c, st, x, y, b, rfl, hz⟩, h4⟩)
  have h5 := h3.trans h4
  clear h3 h4
  go_wp2_with fail
  refine (spec_SegmentText _ _ _ _ _ _ _ _ _ _ _ _ _ _ _ _).mono ?_
  rintro e w5 ⟨rfl, hb5⟩
  have h6 := h5.seqB hb5
  obtain ⟨X, hX⟩ : ∃ X, X = segText f t q a l n9 m s c st x y b src dst := ⟨_, rfl⟩
  have hXs : X.size ≤ 2200 := by have := size_segText_le f t q a l n9 m s c st x y b src dst; rw [hX]; omega
  rw [← hX]
  clear hX h5 hb5 hz
  (go_wp2_with fail; refine (l1Once_any g w1 _ 3 (by omega) h6).mono ?_; rintro e w6 ⟨⟨p, rfl⟩, h7⟩)
  clear h6
  have key : ∀ (Y : ByteArray) (w7 : World), Y.size ≤ 2220 → St g w1 w7 → True := fun _ _ _ _ => trivial
  clear key
  cases p
  all_goals
    first
    | (have hl := h7.2.lt
       go_wp2_with fail
       refine (l1Turned_any g _ 3 _ _ 2200 w1 _ (h7.alloc _) hXs (by omega) (by omega) (by simp) (by omega) (by omega) (strLit _ _ 20 [⟨#[0]⟩, ⟨#[120]⟩, ⟨#[255]⟩] (by decide))).mono ?_
       rintro e w7 ⟨⟨Y, rfl, hY⟩, h8⟩
       clear h7 hXs hl)
    | (obtain ⟨Y, hYe⟩ : ∃ Y, Y = X := ⟨_, rfl⟩
       rw [← hYe] at hXs ⊢
       have hY : Y.size ≤ 2200 + 20 := by omega
       have h8 := h7
       obtain ⟨w7, hw7⟩ : ∃ W, W = w6 := ⟨_, rfl⟩
       rw [← hw7] at h8 ⊢
       clear h7 hYe hXs hw7)
  all_goals
    by_cases h20 : 20 < Y.size
    · have i20 : (20 : Int) < (Y.size : Int) := by omega
      (go_wp2_with fail; refine (l1Once_any g w1 _ 4 (by omega) h8).mono ?_; rintro e w8 ⟨⟨p, rfl⟩, h9⟩)
      clear h8
      cases p
      · skip
        (go_wp2_with fail; refine (l1Once_any g w1 _ 12 (by omega) h9).mono ?_; rintro e w20 ⟨⟨p, rfl⟩, h20a⟩)
        cases p
        · go_wp2_with fail
          refine bodyPost_ret (v := .tuple #[.string Y, .int .i64 src, .int .i64 dst]) (by simp [results, Try.results50, go_sem]) rfl ⟨⟨_, _, _, rfl, by omega⟩, h20a.out hb1 hg⟩
        · (go_wp2_with fail; refine (l6Ip_any g w1 _ h20a).mono ?_; rintro e w21 ⟨⟨src2, rfl, hx⟩, h21⟩)
          clear hx
          go_wp2_with fail
          refine bodyPost_ret (v := .tuple #[.string Y, .int .i64 src2, .int .i64 dst]) (by simp [results, Try.results50, go_sem]) rfl ⟨⟨_, _, _, rfl, by omega⟩, h21.out hb1 hg⟩
      · obtain ⟨cap, w9, hconv, c1, c2, c3, c4, c5⟩ := conv_bytes (P := Try.prog) w8 9 22 5 Y Try.underlying9 Try.underlying22 Try.underlying5
        have hl8 := h9.2.lt
        have hsz8 := h9.1.size
        have R9 : BR w9 w8.heap.size Y.size := ⟨fun j hj => ⟨byt Y j, (byt_bd Y j).1, (byt_bd Y j).2, c4 j hj⟩, c5, by omega⟩
        have h10 := h9.seqB c3
        have hl9 := h10.2.lt
        clear c2 c3 c4 c5 h9
        go_wp2_with fail
        refine (l1PickInt_any g _ 4 _ (fun x => 0 ≤ x ∧ x ≤ 20) _ _ ((St.refl h10.2).alloc _) (by omega) (by simp) (by omega) (by omega) (pickLit _ _ [12, 13, 18, 20] _ (by decide))).mono ?_
        rintro e w10 ⟨⟨k9, rfl, k0, k1⟩, h11⟩
        obtain ⟨k, rfl⟩ : ∃ k : Nat, k9 = k := ⟨k9.toNat, by omega⟩
        have hk : k < Y.size := by omega
        have R10 := R9.st h11 (by omega)
        have h12 := h10.trans h11
        clear R9 h10 h11 hconv
        (go_wp2_with fail; refine (l1Byte_any g w10 _ (St.refl h12.2)).mono ?_; rintro e w11 ⟨⟨y, rfl, y0, y1⟩, h13⟩)
        have R11 := R10.st h13 (by omega)
        have h14 := h12.trans h13
        have hwr : IntKind.u8.wrap y = y := IntWalk.u8_in _ ⟨by omega, by omega⟩
        obtain ⟨z, _, _, cz⟩ := R11.cells k hk
        have fz := R11.frz k hk
        have j1 : (k : Int) < (Y.size : Int) := by omega
        clear R10 h12 h13
        go_upto_region 10 with fail
        obtain ⟨W, hW⟩ : ∃ W, W = w11.setCell ⟨w8.heap.size, k, none⟩ (.int .u8 y) := ⟨_, rfl⟩
        rw [← hW]
        have RW : BR W w8.heap.size Y.size := by rw [hW]; exact R11.set k y hk y0 y1
        have hSW : St g w1 W := by rw [hW]; exact h14.setNew hga _ (by show w1.heap.size ≤ w8.heap.size; omega) _
        clear hW R11 h14 cz fz
        obtain ⟨a16, _, _, c16⟩ := RW.cells 16 (by omega)
        obtain ⟨a17, _, _, c17⟩ := RW.cells 17 (by omega)
        have f16 := RW.frz 16 (by omega)
        have f17 := RW.frz 17 (by omega)
        have j16 : (16 : Int) < (Y.size : Int) := by omega
        have j17 : (17 : Int) < (Y.size : Int) := by omega
        go_upto_region 12 with fail
        obtain ⟨W2, hW⟩ : ∃ W', W' = (W.setCell ⟨w8.heap.size, 16, none⟩ (.int .u8 0)).setCell ⟨w8.heap.size, 17, none⟩ (.int .u8 0) := ⟨_, rfl⟩
        rw [← hW]
        have R12 : BR W2 w8.heap.size Y.size := by rw [hW]; exact (RW.set 16 0 (by omega) (by omega) (by omega)).set 17 0 (by omega) (by omega) (by omega)
        have h15 : St g w1 W2 := by rw [hW]; exact (hSW.setNew hga _ (by show w1.heap.size ≤ w8.heap.size; omega) _).setNew hga _ (by show w1.heap.size ≤ w8.heap.size; omega) _
        clear hW RW hSW c16 c17 f16 f17
        go_cut [10] (fun s10 wx => ∃ Z : Int, s10 = .int .i64 Z ∧ 0 ≤ Z ∧ Z ≤ 65535 ∧ St g w1 wx ∧ BR wx w8.heap.size Y.size)
        case first =>
          obtain ⟨L, hL1, hL2⟩ := BR.list Y.size R12.cells
          have hcv := hide (fun (W' : World) (hb : Below W2.heap.size W2 W') => conv_at (P := Try.prog) (W := W') (q := w8.heap.size) (n := Y.size) (cap := cap) (L := L) hL1 (fun j hj => (hb.cell (p := ⟨w8.heap.size, j, none⟩) R12.lt).trans (hL2 j hj)) 22 9 5 Try.underlying22 Try.underlying5 Try.underlying9)
          obtain ⟨T, hT⟩ : ∃ T, T = strOfNums L := ⟨_, rfl⟩
          have hTs : T.size ≤ 2220 := by rw [hT, strOfNums_size]; omega
          rw [← hT] at hcv
          clear hT hL1 hL2
          have hPz : ∀ a b c, (pseudo a b c).size ≤ 20 := fun a b c => by
            have p1 := size_putWord_le a 4
            have p2 := size_putWord_le b 4
            have p3 := size_putWord_le c 2
            have p4 : (⟨#[0, 6]⟩ : ByteArray).size = 2 := rfl
            unfold pseudo
            split
            · simp only [ByteArray.size_append, p4]; omega
            · exact Nat.zero_le _
          have HP := hide (hPz src dst Y.size)
          have hq1 : ¬9223372036854775807 < (pseudo src dst (Y.size : Int)).size + T.size := by have := hPz src dst (Y.size : Int); omega
          clear hPz
          go_region_held3 (fun W' => (convert 22 9 (.slice (some ⟨w8.heap.size, 0, none⟩) Y.size cap)).run Try.prog W' = .ok (.string T) W' ∧ Hid (Below W2.heap.size W2 W')) (first | exact ⟨hcv.out _ (Below.refl _ _), hide (Below.refl _ _)⟩ | exact ⟨hcv.out _ (Below.drew (Below.refl _ _)), hide (Below.drew (Below.refl _ _))⟩ | assumption | exact cvS hcv (by assumption) (by assumption)) (first | (go_at_call 93; refine (spec_PseudoHead _ _ _ _).mono ?_; rintro e w12 ⟨rfl, hb12⟩) | (go_at_call 81; refine (spec_SumOf _ _ (by rw [ByteArray.size_append]; have := HP.out; omega)).mono ?_; rintro e w13 ⟨rfl, rfl⟩))
          all_goals
            go_wp2_with fail
            go_meet
            have hS := hide (show _ ∧ Hid (Below W2.heap.size W2 _) from by assumption)
            exact ⟨_, rfl, (sumOf_bd _).1, (sumOf_bd _).2, h15.seqB hS.out.2.out, R12.below hS.out.2.out⟩
        case rest =>
        obtain ⟨Z, rfl, Z0, Z1, h16, R13⟩ := hcut
        obtain ⟨a16, _, _, c16⟩ := R13.cells 16 (by omega)
        obtain ⟨a17, _, _, c17⟩ := R13.cells 17 (by omega)
        have f16 := R13.frz 16 (by omega)
        have f17 := R13.frz 17 (by omega)
        have w1' : IntKind.u8.wrap (Z / 256) = Z / 256 := IntWalk.u8_in _ ⟨by omega, by omega⟩
        have w2' : IntKind.u8.wrap (Z % 256) = Z % 256 := IntWalk.u8_in _ ⟨by omega, by omega⟩
        clear R12 h15
        go_upto_region 15 with fail
        obtain ⟨W4, hW⟩ : ∃ W', W' = (wc.setCell ⟨w8.heap.size, 16, none⟩ (.int .u8 (Z / 256))).setCell ⟨w8.heap.size, 17, none⟩ (.int .u8 (Z % 256)) := ⟨_, rfl⟩
        rw [← hW]
        have R14 : BR W4 w8.heap.size Y.size := by rw [hW]; exact (R13.set 16 _ (by omega) (by omega) (by omega)).set 17 _ (by omega) (by omega) (by omega)
        have h17 : St g w1 W4 := by rw [hW]; exact (h16.setNew hga _ (by show w1.heap.size ≤ w8.heap.size; omega) _).setNew hga _ (by show w1.heap.size ≤ w8.heap.size; omega) _
        clear hW R13 h16 c16 c17 f16 f17
        obtain ⟨t2, ht2, hb2⟩ := R14.back (P := Try.prog) Y.size cap (by omega) 22 9 5 Try.underlying22 Try.underlying5 Try.underlying9
        (go_wp2_with fail; refine (l1Once_any g w1 _ 12 (by omega) h17).mono ?_; rintro e w20 ⟨⟨p, rfl⟩, h20a⟩)
        cases p
        · go_wp2_with fail
          refine bodyPost_ret (v := .tuple #[.string t2, .int .i64 src, .int .i64 dst]) (by simp [results, Try.results50, go_sem]) rfl ⟨⟨_, _, _, rfl, by omega⟩, h20a.out hb1 hg⟩
        · (go_wp2_with fail; refine (l6Ip_any g w1 _ h20a).mono ?_; rintro e w21 ⟨⟨src2, rfl, hx⟩, h21⟩)
          clear hx
          go_wp2_with fail
          refine bodyPost_ret (v := .tuple #[.string t2, .int .i64 src2, .int .i64 dst]) (by simp [results, Try.results50, go_sem]) rfl ⟨⟨_, _, _, rfl, by omega⟩, h21.out hb1 hg⟩
    · have i20 : ¬ (20 : Int) < (Y.size : Int) := by omega
      (go_wp2_with fail; refine (l1Once_any g w1 _ 12 (by omega) h8).mono ?_; rintro e w20 ⟨⟨p, rfl⟩, h20a⟩)
      cases p
      · go_wp2_with fail
        refine bodyPost_ret (v := .tuple #[.string Y, .int .i64 src, .int .i64 dst]) (by simp [results, Try.results50, go_sem]) rfl ⟨⟨_, _, _, rfl, by omega⟩, h20a.out hb1 hg⟩
      · (go_wp2_with fail; refine (l6Ip_any g w1 _ h20a).mono ?_; rintro e w21 ⟨⟨src2, rfl, hx⟩, h21⟩)
        clear hx
        go_wp2_with fail
        refine bodyPost_ret (v := .tuple #[.string Y, .int .i64 src2, .int .i64 dst]) (by simp [results, Try.results50, go_sem]) rfl ⟨⟨_, _, _, rfl, by omega⟩, h21.out hb1 hg⟩
end Go.Proofs.Ytahffinjglmhhaa
