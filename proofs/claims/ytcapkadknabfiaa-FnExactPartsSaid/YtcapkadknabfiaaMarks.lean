/-
  Rows of strings: marked, and looked at again.
-/
import Derived.Test.YtcapkadknabfiaaEqs
import Derived.Deep.RegionHeld3
namespace Go.Proofs.Ytcapkadknabfiaa
open Go.RowKit
set_option linter.unusedVariables false

theorem row_below {w w' : World} {B C size n g cap : Nat} {e : TypeId} {xs : List Value} (h : w.ownsRow B e size (.slice (some ⟨g, 0, none⟩) n cap) n xs) (hb : Below C w w') (hg : g < C) : w'.ownsRow B e size (.slice (some ⟨g, 0, none⟩) n cap) n xs := by
  refine ⟨h.1, ?_⟩
  rcases h.2 with ⟨h', h0⟩ | ⟨g', cap', cur, h', b0, hh, r⟩
  · exact .inl ⟨h', h0⟩
  · simp only [Value.slice.injEq, Option.some.injEq, Addr.mk.injEq, and_true, true_and] at h'
    obtain ⟨rfl, rfl⟩ := h'
    exact .inr ⟨g, cap, cur, rfl, b0, (hb.block g hg).trans hh, r⟩
/-- The first k elements are marks. -/
def Mk (k : Nat) (xs : List Value) : Prop := ∀ i, i < k → xs[i]? = some (.string (mt (i + 1)))
theorem Mk_set {k : Nat} {xs : List Value} (h : Mk k xs) (hk : k < xs.length) : Mk (k + 1) (xs.set k (.string (mt (k + 1)))) := by
  intro i hi
  rw [List.getElem?_set]
  by_cases e : k = i
  · subst e; simp [hk]
  · rw [if_neg e]; exact h i (by omega)
theorem markStringS_row (xs : List Value) (b g c n : Nat) (w : World) (hn : n ≤ 1048577) (hbb : b ≤ w.heap.size) (hg : b ≤ g)
    (h1 : w.ownsRow b 9 1 (.slice (some ⟨g, 0, none⟩) n c) n xs) :
    Calls Try.prog 33 #[.slice (some ⟨g, 0, none⟩) n c, .int .i64 1] w fun e w' => e = .returned (.int .i64 (n + 1 : Nat)) ∧ Hid (∃ ys, Mk n ys ∧ w'.ownsRow b 9 1 (.slice (some ⟨g, 0, none⟩) n c) n ys) ∧ Below b w w' := by
  have H1 := hide h1
  clear h1
  go_enter Try.func33, Try.ntmps33
  go_wp2
  go_loopw [1, 5] (fun q i wr => ∃ k : Nat, k ≤ n ∧ i = .int .i64 k ∧ q = .int .i64 (k + 1 : Nat) ∧ Hid (∃ ys, Mk k ys ∧ wr.ownsRow b 9 1 (.slice (some ⟨g, 0, none⟩) n c) n ys) ∧ b ≤ wr.heap.size ∧ Below b w wr) (fun _ i _ => n - (intOf i).toNat)
  case atStart => exact ⟨0, by omega, rfl, rfl, hide ⟨xs, fun i hi => by omega, H1.out⟩, hbb, Below.refl _ _⟩
  case round =>
    obtain ⟨k, hk, rfl, rfl, hr, hz, hb⟩ := hrel
    by_cases hlt : k < n
    · (go_wp2_with fail; refine (markText_pos (k + 1) _ (by omega) (by omega)).mono ?_; rintro e w1 ⟨rfl, hb1⟩; obtain ⟨hc1, hf1⟩ := bcell hb1; (try (have hz1_0 : w.heap.size < w1.heap.size := (by have := hb1.size; (try simp at this); omega))); (try (have hz1_x : w.heap.size + 1 < w1.heap.size := (by have := hb1.size; (try simp at this); omega))))
      obtain ⟨ys, hm, hr⟩ := hr.out
      have hlen : ys.length = n := by have := hr.1; omega
      have hg2 : g < wr.heap.size := (hr.lt g rfl).2
      have r1 := row_below hr hb1 hg2
      obtain ⟨u, x1⟩ : ∃ u, w1.cell? ⟨g, k, none⟩ = some u := ⟨ys[k]'(by omega), by rw [r1.cellAt k (by omega)]; simp [hlen, hlt]⟩
      have x2 := r1.frozenAt k
      have R := hide (show Mk (k + 1) (ys.set k (.string (mt (k + 1)))) ∧ (w1.setCell ⟨g, k, none⟩ (.string (mt (k + 1)))).ownsRow b 9 1 (.slice (some ⟨g, 0, none⟩) n c) n (ys.set k (.string (mt (k + 1)))) from ⟨Mk_set hm (by omega), (r1.stored k _).1⟩)
      have B := hide (show b ≤ (w1.setCell ⟨g, k, none⟩ (.string (mt (k + 1)))).heap.size ∧ Below b w (w1.setCell ⟨g, k, none⟩ (.string (mt (k + 1)))) from ⟨by have := hb1.size; simp; omega, (hb.trans (hb1.mono hz)).setCell hg _⟩)
      clear hm hr r1 hlen hb1 hb hc1 hf1
      go_wp2
      go_roundw
      case rel => exact ⟨k + 1, by omega, by go_num, by go_num, hide ⟨_, R.out⟩, B.out⟩
      case measure => simp [intOf]; omega
    · go_wp2
      go_ret
      exact ⟨by have : k = n := by omega
                subst this; rfl, by have : k = n := by omega
                                    subst this; exact hr, hb⟩
theorem heldStringS_row (b g c n : Nat) (w : World) (hn : n ≤ 1048577) (hbb : b ≤ w.heap.size) (hg : b ≤ g)
    (h1 : Hid (∃ ys, Mk n ys ∧ w.ownsRow b 9 1 (.slice (some ⟨g, 0, none⟩) n c) n ys)) :
    Calls Try.prog 34 #[.slice (some ⟨g, 0, none⟩) n c, .int .i64 1] w fun e w' => e = .returned (.int .i64 (n + 1 : Nat)) ∧ Hid (∃ ys, Mk n ys ∧ w'.ownsRow b 9 1 (.slice (some ⟨g, 0, none⟩) n c) n ys) ∧ Below w.heap.size w w' := by
  go_enter Try.func34, Try.ntmps34
  go_wp2
  go_loopw [1, 5] (fun q i wr => ∃ k : Nat, k ≤ n ∧ i = .int .i64 k ∧ q = .int .i64 (k + 1 : Nat) ∧ Hid (∃ ys, Mk n ys ∧ wr.ownsRow b 9 1 (.slice (some ⟨g, 0, none⟩) n c) n ys) ∧ Below w.heap.size w wr) (fun _ i _ => n - (intOf i).toNat)
  case atStart => exact ⟨0, by omega, rfl, rfl, h1, Below.refl _ _⟩
  case round =>
    obtain ⟨k, hk, rfl, rfl, hr, hb⟩ := hrel
    by_cases hlt : k < n
    · obtain ⟨ys, hm, hr⟩ := hr.out
      have hg2 : g < wr.heap.size := (hr.lt g rfl).2
      have x1 : wr.cell? ⟨g, k, none⟩ = some (.string (mt (k + 1))) := by rw [hr.cellAt k (by omega)]; exact hm k hlt
      have R := hide (show Mk n ys ∧ wr.ownsRow b 9 1 (.slice (some ⟨g, 0, none⟩) n c) n ys from ⟨hm, hr⟩)
      clear hm hr
      go_wp2
      go_region_held3 (fun w' => w'.cell? ⟨g, k, none⟩ = some (.string (mt (k + 1)))) (first | assumption | exact x1) (first | (go_at_call 90; refine (markText_pos (k + 1) _ (by omega) (by omega)).mono ?_; rintro e w1 ⟨rfl, hb1⟩; have y1 : w1.cell? ⟨g, k, none⟩ = some (.string (mt (k + 1))) := by rw [hb1.cell (by simpa using hg2)]; exact x1))
      all_goals
        go_wp2
        go_roundw
        case rel => exact ⟨k + 1, by omega, by go_num, by go_num, hide ⟨_, R.out.1, row_below R.out.2 (show Below wr.heap.size wr w1 from (by repeat (first | with_reducible exact Below.refl _ _ | with_reducible assumption | with_reducible refine Below.al ?_ _ | with_reducible refine Below.drew ?_ | with_reducible refine Below.seq ?_ (by assumption) | (with_reducible refine Below.setCell ?_ ?_ _); rotate_left; focus (first | exact Nat.le_refl _ | (simp; done) | (simp; omega))))) hg2⟩, (by repeat (first | with_reducible exact Below.refl _ _ | with_reducible assumption | with_reducible refine Below.al ?_ _ | with_reducible refine Below.drew ?_ | with_reducible refine Below.seq ?_ (by assumption) | (with_reducible refine Below.setCell ?_ ?_ _); rotate_left; focus (first | exact Nat.le_refl _ | (simp; done) | (simp; omega))))⟩
        case measure => simp [intOf]; omega
    · have e : k = n := by omega
      subst e
      go_wp2
      go_ret
      exact ⟨rfl, hr, hb⟩
end Go.Proofs.Ytcapkadknabfiaa
