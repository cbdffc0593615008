/-
  A text cut at a byte: what Parts returns: a row of the call's own that holds the parts.
-/
import Derived.Test.YtahffinjglmhhaaWord
namespace Go.Proofs.Ytahffinjglmhhaa
open Go.RowKit
set_option linter.unusedVariables false

theorem info_str : (Try.prog.info? 9).map (fun i => (i.zero, i.size, i.bytes)) = some (some (.string ⟨#[]⟩), 1, 16) := by kernel_rfl
/-- The parts that are closed after k bytes, and where the next one begins. -/
def pt (s : ByteArray) (b : Int) : Nat → List ByteArray × Nat
  | 0 => ([], 0)
  | k + 1 => if byt s k = b then ((pt s b k).1 ++ [s.extract (pt s b k).2 k], k + 1) else pt s b k
def parts (s : ByteArray) (b : Int) : List ByteArray := (pt s b s.size).1 ++ [s.extract (pt s b s.size).2 s.size]
theorem pt_le (s : ByteArray) (b : Int) (k : Nat) : (pt s b k).2 ≤ k ∧ (pt s b k).1.length ≤ k := by
  induction k with
  | zero => simp [pt]
  | succ k ih => rw [pt]; split <;> (try simp) <;> omega
theorem cell_one_lit (w : World) (t : TypeId) (x : Value) (j : Nat) (u : Value) (h : [x][j]? = some u) : (w.alloc (.cells #[x] t)).cell? ((⟨w.heap.size, 0, none⟩ : Addr).add j) = some u := by
  have hadd : (⟨w.heap.size, 0, none⟩ : Addr).add j = ⟨w.heap.size, j, none⟩ := by unfold Addr.add; split <;> simp_all
  rw [hadd, cell_of_row _ _ j #[x] t (0, 0) (heap_alloc_new w _)]
  simpa using h
theorem impl_Parts (s : ByteArray) (b : Int) (w : World) (hs : s.size ≤ 1048576) (hb0 : 0 ≤ b) (hb1 : b ≤ 255) :
    Calls Try.prog 23 #[.string s, .int .u8 b] w fun e w' => (∃ v, e = .returned v ∧ w'.ownsRow w.heap.size 9 1 v (parts s b).length ((parts s b).map Value.string)) ∧ Below w.heap.size w w' := by
  obtain ⟨i0, hi, hz0, hz1, hz2⟩ := info_parts info_str
  go_enter Try.func23, Try.ntmps23
  go_wp2
  go_loopw [5, 6, 7] (fun v f i wr => ∃ k : Nat, k ≤ s.size ∧ i = .int .i64 k ∧ f = .int .i64 (pt s b k).2 ∧ wr.ownsRow w.heap.size 9 1 v (pt s b k).1.length ((pt s b k).1.map Value.string) ∧ Below w.heap.size w wr) (fun _ _ i _ => s.size - (intOf i).toNat)
  case atStart => exact ⟨0, by omega, rfl, rfl, World.ownsRow_made w #[] 0 (Nat.le_refl _) (by decide) (by simp), (by repeat (first | with_reducible exact Below.refl _ _ | with_reducible assumption | with_reducible refine Below.al ?_ _ | with_reducible refine Below.drew ?_ | with_reducible refine Below.seq ?_ (by assumption) | (with_reducible refine Below.setCell ?_ ?_ _); rotate_left; focus (first | exact Nat.le_refl _ | (simp; done) | (simp; omega))))⟩
  case round =>
    obtain ⟨k, hk, rfl, rfl, hr, hb⟩ := hrel
    obtain ⟨f1, f2⟩ := pt_le s b k
    have hsz := hb.size
    by_cases hlt : k < s.size
    · obtain ⟨y0, y1⟩ := byt_bd s k
      have hbt := hide (byt_at s k hlt)
      have hq : ((s[k].toNat : Nat) : Int) ≤ 255 := by rw [byt_at s k hlt]; exact y1
      by_cases he : byt s k = b
      · have g1 : (((s[k].toNat : Nat) : Int) == b) = true := by rw [hbt.out]; simpa using he
        have HP := hide (show pt s b (k + 1) = ((pt s b k).1 ++ [s.extract (pt s b k).2 k], k + 1) by rw [pt, if_pos he])
        clear he
        obtain ⟨f, Hf⟩ : ∃ f, Hid (f = (pt s b k).2) := ⟨_, hide rfl⟩
        obtain ⟨L, HL⟩ : ∃ L, Hid (L = (pt s b k).1) := ⟨_, hide rfl⟩
        rw [← Hf.out] at f1
        rw [← HL.out] at f2 hr
        rw [← Hf.out]
        go_wp2_with (at_builtin; refine wpList_append_own _ rfl _ _ 40 rfl w.heap.size 9 i0 (.string ⟨#[]⟩) 1 16 Try.underlying40 hi hz0 hz1 hz2 rfl (by decide) _ _ _ rfl (hr.alloc _) ⟨wr.heap.size, 0, none⟩ 1 1 [.string (s.extract f k)] rfl rfl ?c1 ?c2 ?c3 ?c4 ?c5 ?_)
        case c1 => exact fun j u h => cell_one_lit _ _ _ j u h
        case c2 => intro u hu; simp at hu; subst hu; rfl
        case c3 => unfold maxLen; omega
        case c4 => omega
        case c5 => simp; omega
        intro v' w3 hown3 hgr3 _
        have hb3 : Below w.heap.size w w3 := (Below.al hb _).grown hgr3 (by simp; omega) (fun q hq => (hr.lt q hq).1)
        have hown4 : w3.ownsRow w.heap.size 9 1 v' (pt s b (k + 1)).1.length ((pt s b (k + 1)).1.map Value.string) := by
          rw [HP.out, ← HL.out, ← Hf.out]
          simpa using hown3
        have H2 := hide (show (((pt s b (k + 1)).2 : Nat) : Int) = (k : Int) + 1 by rw [HP.out]; rfl)
        clear hown3 hgr3 hr hb
        go_wp2
        go_roundw
        case rel => exact ⟨k + 1, by omega, by go_num, by rw [H2.out], hown4, hb3⟩
        case measure => simp [intOf]; omega
      · have g1 : (((s[k].toNat : Nat) : Int) == b) = false := by rw [hbt.out]; simpa using he
        have HP := hide (show pt s b (k + 1) = pt s b k by rw [pt, if_neg he])
        clear he
        go_wp2
        go_roundw
        case rel => exact ⟨k + 1, by omega, by go_num, by rw [HP.out], by rw [HP.out]; exact hr, hb⟩
        case measure => simp [intOf]; omega
    · have e : k = s.size := by omega
      subst e
      obtain ⟨f, Hf⟩ : ∃ f, Hid (f = (pt s b s.size).2) := ⟨_, hide rfl⟩
      obtain ⟨L, HL⟩ : ∃ L, Hid (L = (pt s b s.size).1) := ⟨_, hide rfl⟩
      rw [← Hf.out] at f1
      rw [← HL.out] at f2 hr
      rw [← Hf.out]
      go_wp2_with (at_builtin; refine wpList_append_own _ rfl _ _ 40 rfl w.heap.size 9 i0 (.string ⟨#[]⟩) 1 16 Try.underlying40 hi hz0 hz1 hz2 rfl (by decide) _ _ _ rfl (hr.alloc _) ⟨wr.heap.size, 0, none⟩ 1 1 [.string (s.extract f s.size)] rfl rfl ?d1 ?d2 ?d3 ?d4 ?d5 ?_)
      case d1 => exact fun j u h => cell_one_lit _ _ _ j u h
      case d2 => intro u hu; simp at hu; subst hu; rfl
      case d3 => unfold maxLen; omega
      case d4 => omega
      case d5 => simp; omega
      intro v' w3 hown3 hgr3 _
      have hb3 : Below w.heap.size w w3 := (Below.al hb _).grown hgr3 (by simp; omega) (fun q hq => (hr.lt q hq).1)
      have hown4 : w3.ownsRow w.heap.size 9 1 v' (parts s b).length ((parts s b).map Value.string) := by
        rw [parts, ← HL.out, ← Hf.out]
        simpa using hown3
      clear hown3 hgr3 hr hb
      go_wp2
      go_ret
      exact ⟨⟨_, rfl, hown4⟩, hb3⟩
end Go.Proofs.Ytahffinjglmhhaa
