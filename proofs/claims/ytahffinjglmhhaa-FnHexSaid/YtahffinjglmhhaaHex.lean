/-
  Hexadecimal figures: what Hex returns, and its law's walk.
-/
import Derived.Test.YtahffinjglmhhaaWord
import Derived.Deep.RegionLaw
import Derived.Deep.RegionHeld3
import Derived.Deep.AppendLies
namespace Go.Proofs.Ytahffinjglmhhaa
open Go.RowKit
set_option linter.unusedVariables false

/-- The figure of a half byte. -/
def hc (x : Int) : Int := if x < 10 then x + 48 else x + 87
def hx (s : ByteArray) : Nat → List Int
  | 0 => []
  | k + 1 => hx s k ++ [hc (byt s k / 16), hc (byt s k % 16)]
theorem hx_len (s : ByteArray) (k : Nat) : (hx s k).length = 2 * k := by induction k <;> simp [hx, *]; omega
theorem cell_two_lit (w : World) (t : TypeId) (x y : Value) (j : Nat) (u : Value) (h : [x, y][j]? = some u) : (w.alloc (.cells #[x, y] t)).cell? ((⟨w.heap.size, 0, none⟩ : Addr).add j) = some u := by
  have hadd : (⟨w.heap.size, 0, none⟩ : Addr).add j = ⟨w.heap.size, j, none⟩ := by unfold Addr.add; split <;> simp_all
  rw [hadd, cell_of_row _ _ j #[x, y] t (0, 0) (heap_alloc_new w _)]
  simpa using h
set_option maxRecDepth 100000 in
theorem hexAt (x : Int) (h0 : 0 ≤ x) (h1 : x < 16) (W : World) :
    (Instr.index 9 (.string ⟨#[48, 49, 50, 51, 52, 53, 54, 55, 56, 57, 97, 98, 99, 100, 101, 102]⟩) (.int .u8 x)).run Try.prog W = .ok (.int .u8 (hc x)) W := by
  have h : x = 0 ∨ x = 1 ∨ x = 2 ∨ x = 3 ∨ x = 4 ∨ x = 5 ∨ x = 6 ∨ x = 7 ∨ x = 8 ∨ x = 9 ∨ x = 10 ∨ x = 11 ∨ x = 12 ∨ x = 13 ∨ x = 14 ∨ x = 15 := by omega
  clear h0 h1
  rcases h with rfl | rfl | rfl | rfl | rfl | rfl | rfl | rfl | rfl | rfl | rfl | rfl | rfl | rfl | rfl | rfl
  all_goals rfl
theorem impl_Hex (s : ByteArray) (w : World) (hs : s.size ≤ 1048576) :
    Calls Try.prog 19 #[.string s] w fun e w' => e = .returned (.string (strOfNums (hx s s.size))) ∧ Below w.heap.size w w' := by
  obtain ⟨i0, hi, hz0, hz1, hz2⟩ := info_parts info_u8
  go_enter Try.func19, Try.ntmps19
  go_wp2
  go_loopw [3, 4, 8] (fun v _ i wr => ∃ k : Nat, k ≤ s.size ∧ i = .int .i64 k ∧ wr.ownsRow w.heap.size 5 1 v (2 * k) ((hx s k).map (Value.int .u8)) ∧ Below w.heap.size w wr) (fun _ _ i _ => s.size - (intOf i).toNat)
  case atStart => exact ⟨0, by omega, rfl, World.ownsRow_made w #[] 0 (Nat.le_refl _) (by decide) (by simp), (by repeat (first | with_reducible exact Below.refl _ _ | with_reducible assumption | with_reducible refine Below.al ?_ _ | with_reducible refine Below.drew ?_ | with_reducible refine Below.seq ?_ (by assumption) | (with_reducible refine Below.setCell ?_ ?_ _); rotate_left; focus (first | exact Nat.le_refl _ | (simp; done) | (simp; omega))))⟩
  case round =>
    obtain ⟨k, hk, rfl, hr, hb⟩ := hrel
    by_cases hlt : k < s.size
    · obtain ⟨b0, b1⟩ := byt_bd s k
      have hbt := hide (byt_at s k hlt)
      have hq : ((s[k].toNat : Nat) : Int) ≤ 255 := by rw [byt_at s k hlt]; exact b1
      have hI1 := hexAt ((s[k].toNat : Int) / 16) (by omega) (by omega)
      have hm := hide (u8_and15 (x := (s[k].toNat : Int)) (by omega) (by omega))
      have hI2 : ∀ W : World, (Instr.index 9 (.string ⟨#[48, 49, 50, 51, 52, 53, 54, 55, 56, 57, 97, 98, 99, 100, 101, 102]⟩) (.int .u8 (bits .and .u8 (s[k].toNat : Int) 15))).run Try.prog W = .ok (.int .u8 (hc ((s[k].toNat : Int) % 16))) W := fun W => by
        rw [hm.out]; exact hexAt _ (by omega) (by omega) W
      have hsz := hb.size
      have hnews := hide (fun (j : Nat) (u : Value) (h : [Value.int .u8 (hc ((s[k].toNat : Int) / 16)), .int .u8 (hc ((s[k].toNat : Int) % 16))][j]? = some u) => cell_two_lit wr.drew 5 _ _ j u h)
      have hone := hide (ints_oneCell .u8 [hc ((s[k].toNat : Int) / 16), hc ((s[k].toNat : Int) % 16)])
      have h63 := hide (show 2 * k + 2 ≤ maxLen by unfold maxLen; omega)
      have hby := hide (show (2 * k + 2) * 1 ≤ 140737488355328 by omega)
      have hba := hide (show w.heap.size ≤ (wr.drew.alloc (.cells #[Value.int .u8 (hc ((s[k].toNat : Int) / 16)), .int .u8 (hc ((s[k].toNat : Int) % 16))] 5)).heap.size by simp; omega)
      go_wp2
      go_region_law (refine step_append_lies _ rfl (.tmp 11) (.tmp 22) 22 rfl w.heap.size 5 i0 (.int .u8 0) 1 1 Try.underlying22 hi hz0 hz1 hz2 rfl (by decide) u3 (2 * k) _ (by simp [Act.eval]) (hr.drew.alloc _) ⟨wr.heap.size, 0, none⟩ 2 2 [.int .u8 (hc ((s[k].toNat : Int) / 16)), .int .u8 (hc ((s[k].toNat : Int) % 16))] (by simp [Act.eval]) rfl hnews.out hone.out (by decide) h63.out hby.out hba.out _ rfl ?_; intro g cap w3 hown3 hgr3 hg1 hg2)
      all_goals
        have hb3 : Below w.heap.size w w3 := (((hb.alloc hsz _).drew).grown hgr3 (by simp; omega) (fun q hq => (hr.lt q hq).1))
        have hown4 : w3.ownsRow w.heap.size 5 1 (.slice (some ⟨g, 0, none⟩) (2 * k + 2) cap) (2 * k + 2) ((hx s (k + 1)).map (Value.int .u8)) := by
          rw [hx, List.map_append, ← hbt.out]; exact hown3
        clear hown3 hgr3 hr hb hI1 hI2
        go_wp2
        go_roundw
        case rel => exact ⟨k + 1, by omega, by go_num, hown4, hb3⟩
        case measure => simp [intOf]; omega
    · have e : k = s.size := by omega
      subst e
      have hconv := run_string_own (P := Try.prog) Try.underlying22 Try.underlying5 Try.underlying9 hr
      go_wp2
      go_ret
      exact ⟨rfl, hb⟩
end Go.Proofs.Ytahffinjglmhhaa
