/-
  Options read: what ReadOptions returns: the plain reading; and its law's walk.
-/
import Derived.Test.YtahffinjglmhhaaRo
import Derived.Test.YtahffinjglmhhaaOpen
namespace Go.Proofs.Ytahffinjglmhhaa
open Go.RowKit
set_option linter.unusedVariables false
set_option linter.unusedSimpArgs false

def optL (o : Opt) : List Value := [.int .i64 o.m, .int .i64 o.s, .bool o.k, .bool o.st, .int .i64 o.v, .int .i64 o.y]
def ROC (w : World) (q : Nat) (o : Opt) (wr : World) : Prop :=
  Below w.heap.size w wr ∧ w.heap.size < q ∧ q < wr.heap.size ∧
  (∃ t, wr.heap[q]? = some (.cells (optL o).toArray t (0, 0))) ∧ ∃ t, wr.heap[w.heap.size]? = some (.cells (optL ⟨0, 0, false, false, 0, 0⟩).toArray t (0, 0))
def ROI (s : ByteArray) (w : World) (q : Nat) (k : Nat) (o : Opt) (wr : World) : Prop :=
  k ≤ s.size ∧ ro s k o = ro s 0 noOpt ∧ ROC w q o wr
theorem heap_set_opt {w : World} {g : Nat} {cs : Array Value} {t : TypeId} {fr : Nat × Nat} (hg : w.heap[g]? = some (.cells cs t fr)) (j : Nat) (u : Value) : (w.setCell ⟨g, j, none⟩ u).heap[g]? = some (.cells (cs.setIfInBounds j u) t fr) := by
  simp [World.setCell, Array.getElem?_modify, hg]
theorem ROC.set1 {w wr : World} {q : Nat} {o o' : Opt} (h : ROC w q o wr) (j : Nat) (u : Value) (hu : (optL o).toArray.setIfInBounds j u = (optL o').toArray) : ROC w q o' (wr.setCell ⟨q, j, none⟩ u) := by
  obtain ⟨h1, h2, h3, ⟨t, h4⟩, t', h5⟩ := h
  refine ⟨h1.setCell (by show _ ≤ q; omega) _, h2, by simp [World.setCell]; exact h3, ⟨t, by rw [heap_set_opt h4, hu]⟩, t', ?_⟩
  rw [Below.heap_setCell _ _ _ _ (by show w.heap.size ≠ q; omega)]
  exact h5
theorem below_new (w : World) (o : Obj) : Below w.heap.size w (w.alloc o) := (Below.refl _ _).alloc (Nat.le_refl _) o
theorem impl_wordAt (s : ByteArray) (a z : Int) (i n : Nat) (w : World) (hs : s.size ≤ 140737488355328) (ha : a = i) (hz : z = n) (h1 : 1 ≤ n) (h6 : n ≤ 6) (h : i + n ≤ s.size) :
    Calls Try.prog 61 #[.string s, .int .i64 a, .int .i64 z] w fun e w' => e = .returned (.int .i64 (gw s i n)) ∧ w = w' := by
  subst ha hz
  rw [← getV_in s i n h1 h6 h]
  exact impl_word s i n w hs
theorem cells_of {w : World} {q : Nat} {l : List Value} {t : TypeId} (h : w.heap[q]? = some (.cells l.toArray t (0, 0))) : (∀ j, w.cell? ⟨q, j, none⟩ = l.toArray[j]?) ∧ ∀ j, w.frozen? ⟨q, j, none⟩ = false :=
  ⟨fun j => cell_of_row w q j _ _ _ h, fun j => by simp [World.frozen?, h]⟩
def roO (s : ByteArray) : Opt := (ro s 0 noOpt).getD noOpt
def roB (s : ByteArray) : Bool := (ro s 0 noOpt).isSome
set_option maxRecDepth 100000 in
set_option maxHeartbeats 1000000 in
theorem impl_ReadOptions (s : ByteArray) (w : World) (hs : s.size ≤ 140737488355328) :
    Calls Try.prog 44 #[.string s] w fun e w' => e = .returned (.tuple #[.agg #[.int .i64 (roO s).m, .int .i64 (roO s).s, .bool (roO s).k, .bool (roO s).st, .int .i64 (roO s).v, .int .i64 (roO s).y], .bool (roB s)]) ∧ Below w.heap.size w w' := by
  go_enter Try.func44, Try.ntmps44
  (go_wp2_with fail; refine (impl_NoOptions _).mono ?_; rintro e w1 ⟨rfl, hb1⟩; obtain ⟨hc1, hf1⟩ := bcell hb1; (try (have hz1_0 : w.heap.size < w1.heap.size := (by have := hb1.size; (try simp at this); omega))); (try (have hz1_x : w.heap.size + 1 < w1.heap.size := (by have := hb1.size; (try simp at this); omega))))
  have hr0 : w1.heap[w.heap.size]? = some (.cells (optL ⟨0, 0, false, false, 0, 0⟩).toArray 59 (0, 0)) := by
    rw [hb1.block w.heap.size (by simp)]; exact heap_alloc_new w _
  have hz : w.heap.size < w1.heap.size := by have := hb1.size; simp at this; omega
  have hbw : Below w.heap.size w w1 := (below_new w _).trans (hb1.mono (by simp))
  clear hc1 hf1 hz1_0
  have HR0 := hide hr0
  have Hbw := hide hbw
  clear hr0 hbw hb1
  go_wp2_with fail
  go_loopw [5] (fun i wr => ∃ (k : Nat) (o : Opt), i = .int .i64 k ∧ Hid (ROI s w w1.heap.size k o wr)) (fun i _ => s.size - (intOf i).toNat)
  case atStart =>
    refine ⟨0, noOpt, rfl, hide ⟨Nat.zero_le _, rfl, Below.al Hbw.out _, hz, by simp, ⟨_, heap_alloc_new w1 _⟩, _, ((below_new w1 _).block _ hz).trans HR0.out⟩⟩
  case round =>
    obtain ⟨k, o, rfl, HI⟩ := hrel
    obtain ⟨i1, i2, i3, i4, i5, ⟨tq, i6⟩, tr, i7⟩ := HI.out
    obtain ⟨cq, fq⟩ := cells_of i6
    obtain ⟨cr, fr⟩ := cells_of i7
    have hsz := i3.size
    have n1 : w1.heap.size ≠ w.heap.size := by omega
    have n2 : w.heap.size ≠ w1.heap.size := by omega
    simp only [optL] at cq cr
    clear i6 i7 i2
    by_cases hlt : k < s.size
    · obtain ⟨y0, y1⟩ := byt_bd s k
      have hbt := byt_at s k hlt
      by_cases h0 : byt s k = 0
      · have b0 : (byt s k == 0) = true := by rw [h0]; rfl
        have HRO := hide (show roO s = o ∧ roB s = true by
          have h2 := HI.out.2.1
          rw [ro_zero s k o hlt h0] at h2
          rw [roO, roB, ← h2]
          exact ⟨rfl, rfl⟩)
        clear h0
        go_wp2_with fail
        simp [bodyPost, results, Try.results44, go_sem, cr]
        exact ⟨⟨⟨by rw [HRO.out.1], by rw [HRO.out.1], by rw [HRO.out.1], by rw [HRO.out.1], by rw [HRO.out.1], by rw [HRO.out.1]⟩, HRO.out.2⟩, (by repeat (first | with_reducible exact Below.refl _ _ | with_reducible assumption | with_reducible refine Below.al ?_ _ | with_reducible refine Below.drew ?_ | with_reducible refine Below.seq ?_ (by assumption) | (with_reducible refine Below.setCell ?_ ?_ _); rotate_left; focus (first | exact Nat.le_refl _ | (simp; done) | (simp; omega))))⟩
      by_cases h1 : byt s k = 1
      · have b0 : (byt s k == 0) = false := by rw [h1]; rfl
        have b1 : (byt s k == 1) = true := by rw [h1]; rfl
        have HN := hide (show ROI s w w1.heap.size (k + 1) o wr from ⟨by omega, by rw [← ro_one s k o hlt h1]; exact HI.out.2.1, HI.out.2.2⟩)
        clear h0 h1
        go_wp2_with fail
        go_roundw
        case rel => exact ⟨k + 1, o, by go_num, HN⟩
        case measure => simp [intOf]; omega
      have b0 : (byt s k == 0) = false := by simpa using h0
      have b1 : (byt s k == 1) = false := by simpa using h1
      by_cases h2 : s.size ≤ k + 1
      · have HRO := hide (show roO s = noOpt ∧ roB s = false by
          have h3 := HI.out.2.1
          rw [ro_cut s k o hlt h0 h1 h2] at h3
          rw [roO, roB, ← h3]
          exact ⟨rfl, rfl⟩)
        clear h0 h1
        go_wp2_with fail
        refine (impl_NoOptions _).mono ?_
        rintro e w2 ⟨rfl, hb2⟩
        have hr2 := cells_of ((hb2.block _ (by omega)).trans HI.out.2.2.2.2.2.2.choose_spec)
        obtain ⟨cr2, fr2⟩ := hr2
        simp only [optL] at cr2
        clear cr fr cq fq
        go_wp2_with fail
        simp [bodyPost, results, Try.results44, go_sem, cr2]
        exact ⟨⟨⟨by rw [HRO.out.1]; rfl, by rw [HRO.out.1]; rfl, by rw [HRO.out.1]; rfl, by rw [HRO.out.1]; rfl, by rw [HRO.out.1]; rfl, by rw [HRO.out.1]; rfl⟩, HRO.out.2⟩, (by repeat (first | with_reducible exact Below.refl _ _ | with_reducible assumption | with_reducible refine Below.al ?_ _ | with_reducible refine Below.drew ?_ | with_reducible refine Below.seq ?_ (by assumption) | (with_reducible refine Below.setCell ?_ ?_ _); rotate_left; focus (first | exact Nat.le_refl _ | (simp; done) | (simp; omega))))⟩
      have hk1 : k + 1 < s.size := by omega
      have hbt1 := byt_at s (k + 1) hk1
      obtain ⟨z0, z1⟩ := byt_bd s (k + 1)
      obtain ⟨n, hn⟩ : ∃ n : Nat, byt s (k + 1) = n := ⟨(byt s (k + 1)).toNat, by omega⟩
      rw [hn] at hbt1 z0 z1
      have ik : IntKind.i64.wrap ((k : Int) + 1) = (k : Int) + 1 := IntWalk.i64_in _ ⟨by omega, by omega⟩
      by_cases h3 : n < 2 ∨ s.size < k + n
      · have HRO := hide (show roO s = noOpt ∧ roB s = false by
          have h3 := HI.out.2.1
          rw [ro_bad s k o hlt h0 h1 (by omega)] at h3
          rw [roO, roB, ← h3]
          exact ⟨rfl, rfl⟩)
        clear h0 h1 hn
        by_cases h4 : n < 2
        all_goals
          go_wp2_with fail
          refine (impl_NoOptions _).mono ?_
          rintro e w2 ⟨rfl, hb2⟩
          have hr2 := cells_of ((hb2.block _ (by omega)).trans HI.out.2.2.2.2.2.2.choose_spec)
          obtain ⟨cr2, fr2⟩ := hr2
          simp only [optL] at cr2
          clear cr fr cq fq
          go_wp2_with fail
          simp [bodyPost, results, Try.results44, go_sem, cr2]
          exact ⟨⟨⟨by rw [HRO.out.1]; rfl, by rw [HRO.out.1]; rfl, by rw [HRO.out.1]; rfl, by rw [HRO.out.1]; rfl, by rw [HRO.out.1]; rfl, by rw [HRO.out.1]; rfl⟩, HRO.out.2⟩, (by repeat (first | with_reducible exact Below.refl _ _ | with_reducible assumption | with_reducible refine Below.al ?_ _ | with_reducible refine Below.drew ?_ | with_reducible refine Below.seq ?_ (by assumption) | (with_reducible refine Below.setCell ?_ ?_ _); rotate_left; focus (first | exact Nat.le_refl _ | (simp; done) | (simp; omega))))⟩
      have hstep : ro s (k + n) (layO s k n o) = ro s 0 noOpt := by
        rw [← ro_opt s k n o h0 h1 hn (by omega) (by omega)]
        exact HI.out.2.1
      have HST := hide hstep
      have Hn := hide hn
      clear h0 h1 hn hstep
      by_cases c2 : byt s k = 2
      · have ck := c2
        have d2 : (byt s k == 2) = true := by rw [ck]; rfl
        have d3 : (byt s k == 3) = false := by rw [ck]; rfl
        have d4 : (byt s k == 4) = false := by rw [ck]; rfl
        have d8 : (byt s k == 8) = false := by rw [ck]; rfl
        by_cases hnn : n = 4
        · subst hnn
          have hl : layO s k 4 o = { o with m := gw s (k + 2) 2 } := by rw [layO, if_pos ⟨ck, rfl⟩]
          have HN := hide (show ROI s w w1.heap.size (k + 4) { o with m := gw s (k + 2) 2 } (wr.setCell ⟨w1.heap.size, 0, none⟩ (.int .i64 (gw s (k + 2) 2))) from ⟨by omega, by rw [← hl]; exact HST.out, (ROC.set1 HI.out.2.2 0 (.int .i64 (gw s (k + 2) 2)) rfl)⟩)
          clear hl ck c2
          go_wp2_with (first | (go_at_call 61; refine (impl_wordAt s _ _ (k + 2) 2 _ hs (by omega) rfl (by omega) (by omega) (by omega)).mono ?_; rintro e w2 ⟨rfl, rfl⟩) | (go_at_call 61; refine (impl_wordAt s _ _ (k + 6) 2 _ hs (by omega) rfl (by omega) (by omega) (by omega)).mono ?_; rintro e w2 ⟨rfl, rfl⟩))
          go_roundw
          case rel => exact ⟨k + 4, _, by go_num, HN⟩
          case measure => simp [intOf]; omega
        · have hl : layO s k n o = o := by
            rw [layO, if_neg (by omega), if_neg (by omega), if_neg (by omega), if_neg (by omega)]
          have HN := hide (show ROI s w w1.heap.size (k + n) o wr from ⟨by omega, by rw [← hl]; exact HST.out, HI.out.2.2⟩)
          have dn : ((n : Int) == 4) = false := by simp; omega
          clear hl ck hnn c2
          go_wp2_with fail
          go_roundw
          case rel => exact ⟨k + n, _, by go_num, HN⟩
          case measure => simp [intOf]; omega
      by_cases c3 : byt s k = 3
      · have ck := c3
        have d2 : (byt s k == 2) = false := by rw [ck]; rfl
        have d3 : (byt s k == 3) = true := by rw [ck]; rfl
        have d4 : (byt s k == 4) = false := by rw [ck]; rfl
        have d8 : (byt s k == 8) = false := by rw [ck]; rfl
        by_cases hnn : n = 3
        · subst hnn
          have hl : layO s k 3 o = { o with s := min (byt s (k + 2)) 14 } := by rw [layO, if_neg (by omega), if_pos ⟨ck, rfl⟩]
          have HN := hide (show ROI s w w1.heap.size (k + 3) { o with s := min (byt s (k + 2)) 14 } (wr.setCell ⟨w1.heap.size, 1, none⟩ (.int .i64 (min (byt s (k + 2)) 14))) from ⟨by omega, by rw [← hl]; exact HST.out, (ROC.set1 HI.out.2.2 1 (.int .i64 (min (byt s (k + 2)) 14)) rfl)⟩)
          clear hl ck c2 c3
          have hk2 : k + 2 < s.size := by omega
          have hbt2 := byt_at s (k + 2) hk2
          obtain ⟨x0, x1⟩ := byt_bd s (k + 2)
          have ik2 : IntKind.i64.wrap ((k : Int) + 2) = (k : Int) + 2 := IntWalk.i64_in _ ⟨by omega, by omega⟩
          by_cases h14 : ¬ 14 < byt s (k + 2)
          · have hm : min (byt s (k + 2)) 14 = byt s (k + 2) := by omega
            rw [hm] at HN
            clear hm
            go_wp2_with fail
            go_roundw
            case rel => exact ⟨k + 3, _, by go_num, HN⟩
            case measure => simp [intOf]; omega
          · have hm : min (byt s (k + 2)) 14 = 14 := by omega
            rw [hm] at HN
            clear hm
            go_wp2_with fail
            go_roundw
            case rel => exact ⟨k + 3, _, by go_num, HN⟩
            case measure => simp [intOf]; omega
        · have hl : layO s k n o = o := by
            rw [layO, if_neg (by omega), if_neg (by omega), if_neg (by omega), if_neg (by omega)]
          have HN := hide (show ROI s w w1.heap.size (k + n) o wr from ⟨by omega, by rw [← hl]; exact HST.out, HI.out.2.2⟩)
          have dn : ((n : Int) == 3) = false := by simp; omega
          clear hl ck hnn c2 c3
          go_wp2_with fail
          go_roundw
          case rel => exact ⟨k + n, _, by go_num, HN⟩
          case measure => simp [intOf]; omega
      by_cases c4 : byt s k = 4
      · have ck := c4
        have d2 : (byt s k == 2) = false := by rw [ck]; rfl
        have d3 : (byt s k == 3) = false := by rw [ck]; rfl
        have d4 : (byt s k == 4) = true := by rw [ck]; rfl
        have d8 : (byt s k == 8) = false := by rw [ck]; rfl
        by_cases hnn : n = 2
        · subst hnn
          have hl : layO s k 2 o = { o with k := true } := by rw [layO, if_neg (by omega), if_neg (by omega), if_pos ⟨ck, rfl⟩]
          have HN := hide (show ROI s w w1.heap.size (k + 2) { o with k := true } (wr.setCell ⟨w1.heap.size, 2, none⟩ (.bool true)) from ⟨by omega, by rw [← hl]; exact HST.out, (ROC.set1 HI.out.2.2 2 (.bool true) rfl)⟩)
          clear hl ck c2 c3 c4
          go_wp2_with fail
          go_roundw
          case rel => exact ⟨k + 2, _, by go_num, HN⟩
          case measure => simp [intOf]; omega
        · have hl : layO s k n o = o := by
            rw [layO, if_neg (by omega), if_neg (by omega), if_neg (by omega), if_neg (by omega)]
          have HN := hide (show ROI s w w1.heap.size (k + n) o wr from ⟨by omega, by rw [← hl]; exact HST.out, HI.out.2.2⟩)
          have dn : ((n : Int) == 2) = false := by simp; omega
          clear hl ck hnn c2 c3 c4
          go_wp2_with fail
          go_roundw
          case rel => exact ⟨k + n, _, by go_num, HN⟩
          case measure => simp [intOf]; omega
      by_cases c8 : byt s k = 8
      · have ck := c8
        have d2 : (byt s k == 2) = false := by rw [ck]; rfl
        have d3 : (byt s k == 3) = false := by rw [ck]; rfl
        have d4 : (byt s k == 4) = false := by rw [ck]; rfl
        have d8 : (byt s k == 8) = true := by rw [ck]; rfl
        by_cases hnn : n = 10
        · subst hnn
          have hl : layO s k 10 o = { o with st := true, v := gw s (k + 2) 4, y := gw s (k + 6) 4 } := by rw [layO, if_neg (by omega), if_neg (by omega), if_neg (by omega), if_pos ⟨ck, rfl⟩]
          have HN := hide (show ROI s w w1.heap.size (k + 10) { o with st := true, v := gw s (k + 2) 4, y := gw s (k + 6) 4 } (((wr.setCell ⟨w1.heap.size, 3, none⟩ (.bool true)).setCell ⟨w1.heap.size, 4, none⟩ (.int .i64 (gw s (k + 2) 4))).setCell ⟨w1.heap.size, 5, none⟩ (.int .i64 (gw s (k + 6) 4))) from ⟨by omega, by rw [← hl]; exact HST.out, (ROC.set1 (o := { o with st := true, v := gw s (k + 2) 4 }) (ROC.set1 (o := { o with st := true }) (ROC.set1 HI.out.2.2 3 (.bool true) rfl) 4 (.int .i64 (gw s (k + 2) 4)) rfl) 5 (.int .i64 (gw s (k + 6) 4)) rfl)⟩)
          clear hl ck c2 c3 c4 c8
          go_wp2_with (first | (go_at_call 61; refine (impl_wordAt s _ _ (k + 2) 4 _ hs (by omega) rfl (by omega) (by omega) (by omega)).mono ?_; rintro e w2 ⟨rfl, rfl⟩) | (go_at_call 61; refine (impl_wordAt s _ _ (k + 6) 4 _ hs (by omega) rfl (by omega) (by omega) (by omega)).mono ?_; rintro e w2 ⟨rfl, rfl⟩))
          go_roundw
          case rel => exact ⟨k + 10, _, by go_num, HN⟩
          case measure => simp [intOf]; omega
        · have hl : layO s k n o = o := by
            rw [layO, if_neg (by omega), if_neg (by omega), if_neg (by omega), if_neg (by omega)]
          have HN := hide (show ROI s w w1.heap.size (k + n) o wr from ⟨by omega, by rw [← hl]; exact HST.out, HI.out.2.2⟩)
          have dn : ((n : Int) == 10) = false := by simp; omega
          clear hl ck hnn c2 c3 c4 c8
          go_wp2_with fail
          go_roundw
          case rel => exact ⟨k + n, _, by go_num, HN⟩
          case measure => simp [intOf]; omega
      have hl : layO s k n o = o := by
        rw [layO, if_neg (by omega), if_neg (by omega), if_neg (by omega), if_neg (by omega)]
      have d2 : (byt s k == 2) = false := by simpa using c2
      have d3 : (byt s k == 3) = false := by simpa using c3
      have d4 : (byt s k == 4) = false := by simpa using c4
      have d8 : (byt s k == 8) = false := by simpa using c8
      have HN := hide (show ROI s w w1.heap.size (k + n) o wr from ⟨by omega, by rw [← hl]; exact HST.out, HI.out.2.2⟩)
      clear hl c2 c3 c4 c8
      go_wp2_with fail
      go_roundw
      case rel => exact ⟨k + n, _, by go_num, HN⟩
      case measure => simp [intOf]; omega
    · have HRO := hide (show roO s = o ∧ roB s = true by
          have h2 := HI.out.2.1
          rw [ro_end s k o (by omega)] at h2
          rw [roO, roB, ← h2]
          exact ⟨rfl, rfl⟩)
      go_wp2_with fail
      simp [bodyPost, results, Try.results44, go_sem, cr]
      exact ⟨⟨⟨by rw [HRO.out.1], by rw [HRO.out.1], by rw [HRO.out.1], by rw [HRO.out.1], by rw [HRO.out.1], by rw [HRO.out.1]⟩, HRO.out.2⟩, (by repeat (first | with_reducible exact Below.refl _ _ | with_reducible assumption | with_reducible refine Below.al ?_ _ | with_reducible refine Below.drew ?_ | with_reducible refine Below.seq ?_ (by assumption) | (with_reducible refine Below.setCell ?_ ?_ _); rotate_left; focus (first | exact Nat.le_refl _ | (simp; done) | (simp; omega))))⟩
theorem byt_extract (s : ByteArray) (a b j : Nat) (h : a + j < b) (hb : b ≤ s.size) : byt (s.extract a b) j = byt s (a + j) := by
  unfold byt
  rw [Lib.extract_data, List.getD_eq_getElem?_getD, List.getD_eq_getElem?_getD, List.getElem?_take, if_pos (by omega), List.getElem?_drop]
theorem gw_extract (s : ByteArray) (a b o k : Nat) (h : a + o + k ≤ b) (hb : b ≤ s.size) : gw (s.extract a b) o k = gw s (a + o) k := by
  induction k with
  | zero => rfl
  | succ k ih => rw [gw, gw, ih (by omega), byt_extract s a b (o + k) (by omega) hb, show a + (o + k) = a + o + k by omega]
theorem layO_extract (s : ByteArray) (a n : Nat) (o : Opt) (h : a + n ≤ s.size) (h2 : 2 ≤ n) : layO (s.extract a (a + n)) 0 n o = layO s a n o := by
  unfold layO
  rw [byt_extract s a (a + n) 0 (by omega) h, Nat.add_zero]
  split
  · rename_i e
    rw [gw_extract s a (a + n) _ _ (by omega) h]
  split
  · rename_i e
    rw [byt_extract s a (a + n) _ (by omega) h]
  split
  · rfl
  split
  · rename_i e
    rw [gw_extract s a (a + n) _ _ (by omega) h, gw_extract s a (a + n) _ _ (by omega) h]
  · rfl
theorem l1Min_o (a b : Int) (w : World) :
    Calls Try.prog 85 #[.int .i64 a, .int .i64 b] w fun e w' => e = .returned (.int .i64 (min a b)) ∧ w = w' := by
  by_cases h : a < b
  · go_enter Try.func85, Try.ntmps85
    go_wp2
    go_ret
    exact ⟨ret_int (by omega), rfl⟩
  · go_enter Try.func85, Try.ntmps85
    go_wp2
    go_ret
    exact ⟨ret_int (by omega), rfl⟩
theorem spec_getAt (s : ByteArray) (a z : Int) (i n : Nat) (w : World) (hs : s.size ≤ 140737488355328) (ha : a = i) (hz : z = n) (h1 : 1 ≤ n) (h6 : n ≤ 6) (h : i + n ≤ s.size) :
    Calls Try.prog 77 #[.string s, .int .i64 a, .int .i64 z] w fun e w' => e = .returned (.tuple #[.int .i64 (gw s i n), .bool true]) ∧ w = w' := by
  subst ha hz
  exact spec_GetWord_in s i n w hs h1 h6 h
theorem spec_l8Lay (t : ByteArray) (o : Opt) (w : World) (hs : t.size ≤ 140737488355328) (h2 : 2 ≤ t.size) :
    Calls Try.prog 89 #[.agg #[.int .i64 o.m, .int .i64 o.s, .bool o.k, .bool o.st, .int .i64 o.v, .int .i64 o.y], .string t] w fun e w' => (∃ p : Opt, e = .returned (.agg #[.int .i64 p.m, .int .i64 p.s, .bool p.k, .bool p.st, .int .i64 p.v, .int .i64 p.y]) ∧ p = layO t 0 t.size o) ∧ Below w.heap.size w w' := by
  have hlt : 0 < t.size := by omega
  have hbt := byt_at t 0 hlt
  obtain ⟨y0, y1⟩ := byt_bd t 0
  by_cases c2 : byt t 0 = 2
  · have ck := c2
    have d2 : (byt t 0 == 2) = true := by rw [ck]; rfl
    have d3 : (byt t 0 == 3) = false := by rw [ck]; rfl
    have d4 : (byt t 0 == 4) = false := by rw [ck]; rfl
    have d8 : (byt t 0 == 8) = false := by rw [ck]; rfl
    by_cases hnn : t.size = 4
    · have hl : layO t 0 t.size o = { o with m := gw t 2 2 } := by rw [layO, if_pos ⟨ck, hnn⟩]
      have HL := hide hl
      have dn : ((t.size : Int) == 4) = true := by rw [hnn]; rfl
      have sz : 4 ≤ t.size := by omega
      clear hl ck hnn c2
      go_enter Try.func89, Try.ntmps89
      go_wp2_with (first | (go_at_call 77; refine (spec_getAt t _ _ 2 2 _ hs (by omega) rfl (by omega) (by omega) (by omega)).mono ?_; rintro e w2 ⟨rfl, rfl⟩) | (go_at_call 77; refine (spec_getAt t _ _ 6 2 _ hs (by omega) rfl (by omega) (by omega) (by omega)).mono ?_; rintro e w2 ⟨rfl, rfl⟩))
      simp [bodyPost, results, Try.results89, go_sem]
      refine ⟨?_, (by repeat (first | with_reducible exact Below.refl _ _ | with_reducible assumption | with_reducible refine Below.al ?_ _ | with_reducible refine Below.drew ?_ | with_reducible refine Below.seq ?_ (by assumption) | (with_reducible refine Below.setCell ?_ ?_ _); rotate_left; focus (first | exact Nat.le_refl _ | (simp; done) | (simp; omega))))⟩
      rw [HL.out]
      first
        | exact ⟨rfl, rfl, rfl, rfl, rfl, rfl⟩
        | exact ⟨rfl, Hm.out.symm, rfl, rfl, rfl, rfl⟩
    · have hl : layO t 0 t.size o = o := by
        rw [layO, if_neg (by omega), if_neg (by omega), if_neg (by omega), if_neg (by omega)]
      have HL := hide hl
      have dn : ((t.size : Int) == 4) = false := by simp; omega
      clear hl ck hnn c2
      go_enter Try.func89, Try.ntmps89
      go_wp2_with fail
      simp [bodyPost, results, Try.results89, go_sem]
      refine ⟨?_, (by repeat (first | with_reducible exact Below.refl _ _ | with_reducible assumption | with_reducible refine Below.al ?_ _ | with_reducible refine Below.drew ?_ | with_reducible refine Below.seq ?_ (by assumption) | (with_reducible refine Below.setCell ?_ ?_ _); rotate_left; focus (first | exact Nat.le_refl _ | (simp; done) | (simp; omega))))⟩
      rw [HL.out]
      first
        | exact ⟨rfl, rfl, rfl, rfl, rfl, rfl⟩
        | exact ⟨rfl, Hm.out.symm, rfl, rfl, rfl, rfl⟩
  by_cases c3 : byt t 0 = 3
  · have ck := c3
    have d2 : (byt t 0 == 2) = false := by rw [ck]; rfl
    have d3 : (byt t 0 == 3) = true := by rw [ck]; rfl
    have d4 : (byt t 0 == 4) = false := by rw [ck]; rfl
    have d8 : (byt t 0 == 8) = false := by rw [ck]; rfl
    by_cases hnn : t.size = 3
    · have hl : layO t 0 t.size o = { o with s := min (byt t 2) 14 } := by rw [layO, if_neg (by omega), if_pos ⟨ck, hnn⟩]
      have HL := hide hl
      have dn : ((t.size : Int) == 3) = true := by rw [hnn]; rfl
      have sz : 3 ≤ t.size := by omega
      clear hl ck hnn c2 c3
      have hk2 : 2 < t.size := by omega
      have hbt2 := byt_at t 2 hk2
      obtain ⟨x0, x1⟩ := byt_bd t 2
      obtain ⟨mm, hm⟩ : ∃ mm, min 14 (byt t 2) = mm := ⟨_, rfl⟩
      have Hm := hide (show min (byt t 2) 14 = mm by omega)
      go_enter Try.func89, Try.ntmps89
      go_wp2_with (go_at_call 85; refine (l1Min_o _ _ _).mono ?_; rintro e w2 ⟨rfl, rfl⟩)
      simp [bodyPost, results, Try.results89, go_sem]
      refine ⟨?_, (by repeat (first | with_reducible exact Below.refl _ _ | with_reducible assumption | with_reducible refine Below.al ?_ _ | with_reducible refine Below.drew ?_ | with_reducible refine Below.seq ?_ (by assumption) | (with_reducible refine Below.setCell ?_ ?_ _); rotate_left; focus (first | exact Nat.le_refl _ | (simp; done) | (simp; omega))))⟩
      rw [HL.out]
      first
        | exact ⟨rfl, rfl, rfl, rfl, rfl, rfl⟩
        | exact ⟨rfl, Hm.out.symm, rfl, rfl, rfl, rfl⟩
    · have hl : layO t 0 t.size o = o := by
        rw [layO, if_neg (by omega), if_neg (by omega), if_neg (by omega), if_neg (by omega)]
      have HL := hide hl
      have dn : ((t.size : Int) == 3) = false := by simp; omega
      clear hl ck hnn c2 c3
      go_enter Try.func89, Try.ntmps89
      go_wp2_with fail
      simp [bodyPost, results, Try.results89, go_sem]
      refine ⟨?_, (by repeat (first | with_reducible exact Below.refl _ _ | with_reducible assumption | with_reducible refine Below.al ?_ _ | with_reducible refine Below.drew ?_ | with_reducible refine Below.seq ?_ (by assumption) | (with_reducible refine Below.setCell ?_ ?_ _); rotate_left; focus (first | exact Nat.le_refl _ | (simp; done) | (simp; omega))))⟩
      rw [HL.out]
      first
        | exact ⟨rfl, rfl, rfl, rfl, rfl, rfl⟩
        | exact ⟨rfl, Hm.out.symm, rfl, rfl, rfl, rfl⟩
  by_cases c4 : byt t 0 = 4
  · have ck := c4
    have d2 : (byt t 0 == 2) = false := by rw [ck]; rfl
    have d3 : (byt t 0 == 3) = false := by rw [ck]; rfl
    have d4 : (byt t 0 == 4) = true := by rw [ck]; rfl
    have d8 : (byt t 0 == 8) = false := by rw [ck]; rfl
    by_cases hnn : t.size = 2
    · have hl : layO t 0 t.size o = { o with k := true } := by rw [layO, if_neg (by omega), if_neg (by omega), if_pos ⟨ck, hnn⟩]
      have HL := hide hl
      have dn : ((t.size : Int) == 2) = true := by rw [hnn]; rfl
      have sz : 2 ≤ t.size := by omega
      clear hl ck hnn c2 c3 c4
      go_enter Try.func89, Try.ntmps89
      go_wp2_with fail
      simp [bodyPost, results, Try.results89, go_sem]
      refine ⟨?_, (by repeat (first | with_reducible exact Below.refl _ _ | with_reducible assumption | with_reducible refine Below.al ?_ _ | with_reducible refine Below.drew ?_ | with_reducible refine Below.seq ?_ (by assumption) | (with_reducible refine Below.setCell ?_ ?_ _); rotate_left; focus (first | exact Nat.le_refl _ | (simp; done) | (simp; omega))))⟩
      rw [HL.out]
      first
        | exact ⟨rfl, rfl, rfl, rfl, rfl, rfl⟩
        | exact ⟨rfl, Hm.out.symm, rfl, rfl, rfl, rfl⟩
    · have hl : layO t 0 t.size o = o := by
        rw [layO, if_neg (by omega), if_neg (by omega), if_neg (by omega), if_neg (by omega)]
      have HL := hide hl
      have dn : ((t.size : Int) == 2) = false := by simp; omega
      clear hl ck hnn c2 c3 c4
      go_enter Try.func89, Try.ntmps89
      go_wp2_with fail
      simp [bodyPost, results, Try.results89, go_sem]
      refine ⟨?_, (by repeat (first | with_reducible exact Below.refl _ _ | with_reducible assumption | with_reducible refine Below.al ?_ _ | with_reducible refine Below.drew ?_ | with_reducible refine Below.seq ?_ (by assumption) | (with_reducible refine Below.setCell ?_ ?_ _); rotate_left; focus (first | exact Nat.le_refl _ | (simp; done) | (simp; omega))))⟩
      rw [HL.out]
      first
        | exact ⟨rfl, rfl, rfl, rfl, rfl, rfl⟩
        | exact ⟨rfl, Hm.out.symm, rfl, rfl, rfl, rfl⟩
  by_cases c8 : byt t 0 = 8
  · have ck := c8
    have d2 : (byt t 0 == 2) = false := by rw [ck]; rfl
    have d3 : (byt t 0 == 3) = false := by rw [ck]; rfl
    have d4 : (byt t 0 == 4) = false := by rw [ck]; rfl
    have d8 : (byt t 0 == 8) = true := by rw [ck]; rfl
    by_cases hnn : t.size = 10
    · have hl : layO t 0 t.size o = { o with st := true, v := gw t 2 4, y := gw t 6 4 } := by rw [layO, if_neg (by omega), if_neg (by omega), if_neg (by omega), if_pos ⟨ck, hnn⟩]
      have HL := hide hl
      have dn : ((t.size : Int) == 10) = true := by rw [hnn]; rfl
      have sz : 10 ≤ t.size := by omega
      clear hl ck hnn c2 c3 c4 c8
      go_enter Try.func89, Try.ntmps89
      go_wp2_with (first | (go_at_call 77; refine (spec_getAt t _ _ 2 4 _ hs (by omega) rfl (by omega) (by omega) (by omega)).mono ?_; rintro e w2 ⟨rfl, rfl⟩) | (go_at_call 77; refine (spec_getAt t _ _ 6 4 _ hs (by omega) rfl (by omega) (by omega) (by omega)).mono ?_; rintro e w2 ⟨rfl, rfl⟩))
      simp [bodyPost, results, Try.results89, go_sem]
      refine ⟨?_, (by repeat (first | with_reducible exact Below.refl _ _ | with_reducible assumption | with_reducible refine Below.al ?_ _ | with_reducible refine Below.drew ?_ | with_reducible refine Below.seq ?_ (by assumption) | (with_reducible refine Below.setCell ?_ ?_ _); rotate_left; focus (first | exact Nat.le_refl _ | (simp; done) | (simp; omega))))⟩
      rw [HL.out]
      first
        | exact ⟨rfl, rfl, rfl, rfl, rfl, rfl⟩
        | exact ⟨rfl, Hm.out.symm, rfl, rfl, rfl, rfl⟩
    · have hl : layO t 0 t.size o = o := by
        rw [layO, if_neg (by omega), if_neg (by omega), if_neg (by omega), if_neg (by omega)]
      have HL := hide hl
      have dn : ((t.size : Int) == 10) = false := by simp; omega
      clear hl ck hnn c2 c3 c4 c8
      go_enter Try.func89, Try.ntmps89
      go_wp2_with fail
      simp [bodyPost, results, Try.results89, go_sem]
      refine ⟨?_, (by repeat (first | with_reducible exact Below.refl _ _ | with_reducible assumption | with_reducible refine Below.al ?_ _ | with_reducible refine Below.drew ?_ | with_reducible refine Below.seq ?_ (by assumption) | (with_reducible refine Below.setCell ?_ ?_ _); rotate_left; focus (first | exact Nat.le_refl _ | (simp; done) | (simp; omega))))⟩
      rw [HL.out]
      first
        | exact ⟨rfl, rfl, rfl, rfl, rfl, rfl⟩
        | exact ⟨rfl, Hm.out.symm, rfl, rfl, rfl, rfl⟩
  have hl : layO t 0 t.size o = o := by
    rw [layO, if_neg (by omega), if_neg (by omega), if_neg (by omega), if_neg (by omega)]
  have d2 : (byt t 0 == 2) = false := by simpa using c2
  have d3 : (byt t 0 == 3) = false := by simpa using c3
  have d4 : (byt t 0 == 4) = false := by simpa using c4
  have d8 : (byt t 0 == 8) = false := by simpa using c8
  have HL := hide hl
  clear hl c2 c3 c4 c8
  go_enter Try.func89, Try.ntmps89
  go_wp2_with fail
  simp [bodyPost, results, Try.results89, go_sem]
  refine ⟨?_, (by repeat (first | with_reducible exact Below.refl _ _ | with_reducible assumption | with_reducible refine Below.al ?_ _ | with_reducible refine Below.drew ?_ | with_reducible refine Below.seq ?_ (by assumption) | (with_reducible refine Below.setCell ?_ ?_ _); rotate_left; focus (first | exact Nat.le_refl _ | (simp; done) | (simp; omega))))⟩
  rw [HL.out]
  first
    | exact ⟨rfl, rfl, rfl, rfl, rfl, rfl⟩
    | exact ⟨rfl, Hm.out.symm, rfl, rfl, rfl, rfl⟩
theorem ROC.below {w wr w2 : World} {q : Nat} {o : Opt} (h : ROC w q o wr) (hb : Below wr.heap.size wr w2) : ROC w q o w2 := by
  obtain ⟨h1, h2, h3, ⟨t, h4⟩, t', h5⟩ := h
  exact ⟨Below.seq h1 hb, h2, by have := hb.size; omega, ⟨t, (hb.block _ h3).trans h4⟩, t', (hb.block _ (by omega)).trans h5⟩
set_option maxRecDepth 100000 in
set_option maxHeartbeats 1000000 in
theorem spec_ReadOptions (s : ByteArray) (w : World) (hs : s.size ≤ 140737488355328) :
    Calls Try.prog 46 #[.string s] w fun e w' => e = .returned (.tuple #[.agg #[.int .i64 (roO s).m, .int .i64 (roO s).s, .bool (roO s).k, .bool (roO s).st, .int .i64 (roO s).v, .int .i64 (roO s).y], .bool (roB s)]) ∧ Below w.heap.size w w' := by
  go_enter Try.func46, Try.ntmps46
  (go_wp2_with fail; refine (spec_NoOptions _).mono ?_; rintro e w1 ⟨rfl, hb1⟩; obtain ⟨hc1, hf1⟩ := bcell hb1; (try (have hz1_0 : w.heap.size < w1.heap.size := (by have := hb1.size; (try simp at this); omega))); (try (have hz1_x : w.heap.size + 1 < w1.heap.size := (by have := hb1.size; (try simp at this); omega))))
  have hr0 : w1.heap[w.heap.size]? = some (.cells (optL ⟨0, 0, false, false, 0, 0⟩).toArray 59 (0, 0)) := by
    rw [hb1.block w.heap.size (by simp)]; exact heap_alloc_new w _
  have hz : w.heap.size < w1.heap.size := by have := hb1.size; simp at this; omega
  have hbw : Below w.heap.size w w1 := (below_new w _).trans (hb1.mono (by simp))
  clear hc1 hf1 hz1_0
  have HR0 := hide hr0
  have Hbw := hide hbw
  clear hr0 hbw hb1
  go_wp2_with fail
  go_loopw [5] (fun i wr => ∃ (k : Nat) (o : Opt), i = .int .i64 k ∧ Hid (ROI s w w1.heap.size k o wr)) (fun i _ => s.size - (intOf i).toNat)
  case atStart =>
    refine ⟨0, noOpt, rfl, hide ⟨Nat.zero_le _, rfl, Below.al Hbw.out _, hz, by simp, ⟨_, heap_alloc_new w1 _⟩, _, ((below_new w1 _).block _ hz).trans HR0.out⟩⟩
  case round =>
    obtain ⟨k, o, rfl, HI⟩ := hrel
    obtain ⟨i1, i2, i3, i4, i5, ⟨tq, i6⟩, tr, i7⟩ := HI.out
    obtain ⟨cq, fq⟩ := cells_of i6
    obtain ⟨cr, fr⟩ := cells_of i7
    have hsz := i3.size
    have n1 : w1.heap.size ≠ w.heap.size := by omega
    have n2 : w.heap.size ≠ w1.heap.size := by omega
    simp only [optL] at cq cr
    clear i6 i7 i2
    by_cases hlt : k < s.size
    · obtain ⟨y0, y1⟩ := byt_bd s k
      have hbt := byt_at s k hlt
      by_cases h0 : byt s k = 0
      · have b0 : (byt s k == 0) = true := by rw [h0]; rfl
        have HRO := hide (show roO s = o ∧ roB s = true by
          have h2 := HI.out.2.1
          rw [ro_zero s k o hlt h0] at h2
          rw [roO, roB, ← h2]
          exact ⟨rfl, rfl⟩)
        clear h0
        go_wp2_with fail
        simp [bodyPost, results, Try.results46, go_sem, cr]
        exact ⟨⟨⟨by rw [HRO.out.1], by rw [HRO.out.1], by rw [HRO.out.1], by rw [HRO.out.1], by rw [HRO.out.1], by rw [HRO.out.1]⟩, HRO.out.2⟩, (by repeat (first | with_reducible exact Below.refl _ _ | with_reducible assumption | with_reducible refine Below.al ?_ _ | with_reducible refine Below.drew ?_ | with_reducible refine Below.seq ?_ (by assumption) | (with_reducible refine Below.setCell ?_ ?_ _); rotate_left; focus (first | exact Nat.le_refl _ | (simp; done) | (simp; omega))))⟩
      by_cases h1 : byt s k = 1
      · have b0 : (byt s k == 0) = false := by rw [h1]; rfl
        have b1 : (byt s k == 1) = true := by rw [h1]; rfl
        have HN := hide (show ROI s w w1.heap.size (k + 1) o wr from ⟨by omega, by rw [← ro_one s k o hlt h1]; exact HI.out.2.1, HI.out.2.2⟩)
        clear h0 h1
        go_wp2_with fail
        go_roundw
        case rel => exact ⟨k + 1, o, by go_num, HN⟩
        case measure => simp [intOf]; omega
      have b0 : (byt s k == 0) = false := by simpa using h0
      have b1 : (byt s k == 1) = false := by simpa using h1
      by_cases h2 : s.size ≤ k + 1
      · have HRO := hide (show roO s = noOpt ∧ roB s = false by
          have h3 := HI.out.2.1
          rw [ro_cut s k o hlt h0 h1 h2] at h3
          rw [roO, roB, ← h3]
          exact ⟨rfl, rfl⟩)
        clear h0 h1
        go_wp2_with fail
        refine (spec_NoOptions _).mono ?_
        rintro e w2 ⟨rfl, hb2⟩
        have hr2 := cells_of ((hb2.block _ (by omega)).trans HI.out.2.2.2.2.2.2.choose_spec)
        obtain ⟨cr2, fr2⟩ := hr2
        simp only [optL] at cr2
        clear cr fr cq fq
        go_wp2_with fail
        simp [bodyPost, results, Try.results46, go_sem, cr2]
        exact ⟨⟨⟨by rw [HRO.out.1]; rfl, by rw [HRO.out.1]; rfl, by rw [HRO.out.1]; rfl, by rw [HRO.out.1]; rfl, by rw [HRO.out.1]; rfl, by rw [HRO.out.1]; rfl⟩, HRO.out.2⟩, (by repeat (first | with_reducible exact Below.refl _ _ | with_reducible assumption | with_reducible refine Below.al ?_ _ | with_reducible refine Below.drew ?_ | with_reducible refine Below.seq ?_ (by assumption) | (with_reducible refine Below.setCell ?_ ?_ _); rotate_left; focus (first | exact Nat.le_refl _ | (simp; done) | (simp; omega))))⟩
      have hk1 : k + 1 < s.size := by omega
      have hbt1 := byt_at s (k + 1) hk1
      obtain ⟨z0, z1⟩ := byt_bd s (k + 1)
      obtain ⟨n, hn⟩ : ∃ n : Nat, byt s (k + 1) = n := ⟨(byt s (k + 1)).toNat, by omega⟩
      rw [hn] at hbt1 z0 z1
      have ik : IntKind.i64.wrap ((k : Int) + 1) = (k : Int) + 1 := IntWalk.i64_in _ ⟨by omega, by omega⟩
      by_cases h3 : n < 2 ∨ s.size < k + n
      · have HRO := hide (show roO s = noOpt ∧ roB s = false by
          have h3 := HI.out.2.1
          rw [ro_bad s k o hlt h0 h1 (by omega)] at h3
          rw [roO, roB, ← h3]
          exact ⟨rfl, rfl⟩)
        clear h0 h1 hn
        by_cases h4 : n < 2
        all_goals
          go_wp2_with fail
          refine (spec_NoOptions _).mono ?_
          rintro e w2 ⟨rfl, hb2⟩
          have hr2 := cells_of ((hb2.block _ (by omega)).trans HI.out.2.2.2.2.2.2.choose_spec)
          obtain ⟨cr2, fr2⟩ := hr2
          simp only [optL] at cr2
          clear cr fr cq fq
          go_wp2_with fail
          simp [bodyPost, results, Try.results46, go_sem, cr2]
          exact ⟨⟨⟨by rw [HRO.out.1]; rfl, by rw [HRO.out.1]; rfl, by rw [HRO.out.1]; rfl, by rw [HRO.out.1]; rfl, by rw [HRO.out.1]; rfl, by rw [HRO.out.1]; rfl⟩, HRO.out.2⟩, (by repeat (first | with_reducible exact Below.refl _ _ | with_reducible assumption | with_reducible refine Below.al ?_ _ | with_reducible refine Below.drew ?_ | with_reducible refine Below.seq ?_ (by assumption) | (with_reducible refine Below.setCell ?_ ?_ _); rotate_left; focus (first | exact Nat.le_refl _ | (simp; done) | (simp; omega))))⟩
      have hstep : ro s (k + n) (layO s k n o) = ro s 0 noOpt := by
        rw [← ro_opt s k n o h0 h1 hn (by omega) (by omega)]
        exact HI.out.2.1
      have hxs : (s.extract k (k + n)).size = n := by rw [ByteArray.size_extract]; omega
      have hly : layO (s.extract k (k + n)) 0 (s.extract k (k + n)).size o = layO s k n o := by rw [hxs]; exact layO_extract s k n o (by omega) (by omega)
      have HST := hide hstep
      have HLY := hide hly
      have HX := hide hxs
      have hn2 : ¬ n < 2 := by omega
      have hkn : k + n ≤ s.size := by omega
      clear h0 h1 hn hstep hly hxs h3
      have HX1 := hide (show (s.extract k (k + n)).size ≤ 140737488355328 by rw [HX.out]; omega)
      have HX2 := hide (show 2 ≤ (s.extract k (k + n)).size by rw [HX.out]; omega)
      have hq2 := hsz
      have k0 : (0 : Int) ≤ (k : Int) := by omega
      have k1 : (k : Int) ≤ (k : Int) + n := by omega
      have k2 : (k : Int) + n ≤ (s.size : Int) := by omega
      have hq5 : w1.heap.size < wr.heap.size := i5
      have tn : ((k : Int) + (n : Int)).toNat = k + n := by omega
      clear z0 z1 y0 y1
      go_wp2_with fail
      go_region_with (first | (go_at_call 89; refine (spec_l8Lay _ o _ HX1.out HX2.out).mono ?_; rintro e w2 ⟨⟨p, rfl, hp⟩, hb2⟩; have c2 : ∀ j, w2.cell? ⟨w1.heap.size, j, none⟩ = #[Value.int .i64 o.m, .int .i64 o.s, .bool o.k, .bool o.st, .int .i64 o.v, .int .i64 o.y][j]? := fun j => (hb2.cell (p := ⟨_, j, none⟩) hq5).trans (cq j); have f2 : ∀ j, w2.frozen? ⟨w1.heap.size, j, none⟩ = false := fun j => (hb2.frozen (p := ⟨_, j, none⟩) hq5).trans (fq j); have HP := hide hp; clear hp))
      all_goals
        have hroc : ROC w w1.heap.size o w2 := ROC.below HI.out.2.2 (show Below wr.heap.size wr w2 from ⟨hb2.os, hb2.tape, hb2.output, hb2.size, hb2.block⟩)
        have HN := hide (show ROI s w w1.heap.size (k + n) p ((((((w2.setCell ⟨w1.heap.size, 0, none⟩ (.int .i64 p.m)).setCell ⟨w1.heap.size, 1, none⟩ (.int .i64 p.s)).setCell ⟨w1.heap.size, 2, none⟩ (.bool p.k)).setCell ⟨w1.heap.size, 3, none⟩ (.bool p.st)).setCell ⟨w1.heap.size, 4, none⟩ (.int .i64 p.v)).setCell ⟨w1.heap.size, 5, none⟩ (.int .i64 p.y)) from
          ⟨by omega, by rw [HP.out, HLY.out]; exact HST.out, ROC.set1 (o := { p with y := o.y }) (ROC.set1 (o := { p with v := o.v, y := o.y }) (ROC.set1 (o := { p with st := o.st, v := o.v, y := o.y }) (ROC.set1 (o := { p with k := o.k, st := o.st, v := o.v, y := o.y }) (ROC.set1 (o := { o with m := p.m }) (ROC.set1 hroc 0 (.int .i64 p.m) rfl) 1 (.int .i64 p.s) rfl) 2 (.bool p.k) rfl) 3 (.bool p.st) rfl) 4 (.int .i64 p.v) rfl) 5 (.int .i64 p.y) rfl⟩)
        clear tn hroc
        go_wp2_with fail
        go_roundw
        case rel => exact ⟨k + n, _, by go_num, HN⟩
        case measure => simp [intOf]; omega
    · have HRO := hide (show roO s = o ∧ roB s = true by
          have h2 := HI.out.2.1
          rw [ro_end s k o (by omega)] at h2
          rw [roO, roB, ← h2]
          exact ⟨rfl, rfl⟩)
      go_wp2_with fail
      simp [bodyPost, results, Try.results46, go_sem, cr]
      exact ⟨⟨⟨by rw [HRO.out.1], by rw [HRO.out.1], by rw [HRO.out.1], by rw [HRO.out.1], by rw [HRO.out.1], by rw [HRO.out.1]⟩, HRO.out.2⟩, (by repeat (first | with_reducible exact Below.refl _ _ | with_reducible assumption | with_reducible refine Below.al ?_ _ | with_reducible refine Below.drew ?_ | with_reducible refine Below.seq ?_ (by assumption) | (with_reducible refine Below.setCell ?_ ?_ _); rotate_left; focus (first | exact Nat.le_refl _ | (simp; done) | (simp; omega))))⟩
end Go.Proofs.Ytahffinjglmhhaa
