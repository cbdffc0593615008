/-
  Hexadecimal figures read back: what Unhex returns, and its law's walk.
-/
import Derived.Test.YtahffinjglmhhaaHex
import Derived.Test.YtahffinjglmhhaaShelf
import Derived.Deep.DeepCutAuto
import Derived.Deep.RegionHeld3
namespace Go.Proofs.Ytahffinjglmhhaa
open Go.RowKit
set_option linter.unusedVariables false

/-- A figure's half byte, or -1. -/
def hf (x : Int) : Int := if 48 ≤ x ∧ x ≤ 57 then x - 48 else if 97 ≤ x ∧ x ≤ 102 then x - 87 else -1
theorem hf_bd (x : Int) : -1 ≤ hf x ∧ hf x ≤ 15 := by
  unfold hf
  split
  · omega
  · split <;> omega
def uhB (s : ByteArray) : Nat → Bool
  | 0 => true
  | k + 1 => uhB s k && (decide (0 ≤ hf (byt s (2 * k))) && decide (0 ≤ hf (byt s (2 * k + 1))))
def uhL (s : ByteArray) : Nat → List Int
  | 0 => []
  | k + 1 => uhL s k ++ [hf (byt s (2 * k)) * 16 + hf (byt s (2 * k + 1))]
theorem uhL_len (s : ByteArray) (k : Nat) : (uhL s k).length = k := by induction k <;> simp [uhL, *]
theorem uhB_mono (s : ByteArray) (k m : Nat) (h : k ≤ m) (hm : uhB s m = true) : uhB s k = true := by
  induction m with
  | zero => obtain rfl : k = 0 := by omega
            exact hm
  | succ m ih =>
    rw [uhB, Bool.and_eq_true] at hm
    by_cases e : k = m + 1
    · subst e; rw [uhB, Bool.and_eq_true]; exact hm
    · exact ih (by omega) hm.1
def unhexB (s : ByteArray) : Bool := decide (s.size % 2 = 0) && uhB s (s.size / 2)
def unhexV (s : ByteArray) : ByteArray := if unhexB s then strOfNums (uhL s (s.size / 2)) else ⟨#[]⟩
theorem unhex_odd (s : ByteArray) (h : s.size % 2 = 1) : unhexB s = false ∧ unhexV s = ⟨#[]⟩ := by
  have e : unhexB s = false := by rw [unhexB]; have : ¬ s.size % 2 = 0 := by omega
                                  simp [this]
  exact ⟨e, by rw [unhexV, e]; rfl⟩
theorem unhex_bad (s : ByteArray) (k : Nat) (h : 2 * k + 1 < s.size) (hb : hf (byt s (2 * k)) < 0 ∨ hf (byt s (2 * k + 1)) < 0) : unhexB s = false ∧ unhexV s = ⟨#[]⟩ := by
  have e : unhexB s = false := by
    rw [unhexB]
    by_cases hu : uhB s (s.size / 2) = true
    · have h1 := uhB_mono s (k + 1) (s.size / 2) (by omega) hu
      rw [uhB, Bool.and_eq_true, Bool.and_eq_true] at h1
      have a := of_decide_eq_true h1.2.1
      have b := of_decide_eq_true h1.2.2
      omega
    · have : uhB s (s.size / 2) = false := by simpa using hu
      rw [this, Bool.and_false]
  exact ⟨e, by rw [unhexV, e]; rfl⟩
theorem unhex_good (s : ByteArray) (k : Nat) (h : 2 * k = s.size) (hu : uhB s k = true) : unhexB s = true ∧ unhexV s = strOfNums (uhL s k) := by
  have h2 : s.size / 2 = k := by omega
  have e : unhexB s = true := by
    rw [unhexB, h2, hu]
    have : s.size % 2 = 0 := by omega
    simp [this]
  exact ⟨e, by rw [unhexV, e, h2]; rfl⟩
theorem uhB_step (s : ByteArray) (k : Nat) (hu : uhB s k = true) (h1 : 0 ≤ hf (byt s (2 * k))) (h2 : 0 ≤ hf (byt s (2 * k + 1))) : uhB s (k + 1) = true := by
  rw [uhB, hu]; simp [h1, h2]
def hexS : ByteArray := ⟨#[48, 49, 50, 51, 52, 53, 54, 55, 56, 57, 97, 98, 99, 100, 101, 102]⟩
set_option maxRecDepth 100000 in
theorem idx_fin : ∀ x : Fin 256, Lib.indexByte hexS.data.toList (x.val.toUInt8) = hf (x.val : Int) := by decide
set_option maxRecDepth 100000 in
theorem or_half (h l : Int) (a : 0 ≤ h) (b : h ≤ 15) (c : 0 ≤ l) (d : l ≤ 15) : bits .or .i64 (h * 16) l = h * 16 + l := by
  have H : ∀ x y : Fin 16, bits .or .i64 (((x.val * 16 : Nat) : Int)) ((y.val : Nat) : Int) = ((x.val * 16 + y.val : Nat) : Int) := by decide
  have := H ⟨h.toNat, by omega⟩ ⟨l.toNat, by omega⟩
  have e1 : ((h.toNat * 16 : Nat) : Int) = h * 16 := by omega
  have e2 : ((l.toNat : Nat) : Int) = l := by omega
  have e3 : ((h.toNat * 16 + l.toNat : Nat) : Int) = h * 16 + l := by omega
  simp only [e1, e2, e3] at this
  exact this
theorem cell_one' (w : World) (t : TypeId) (x : Value) (j : Nat) (u : Value) (h : [x][j]? = some u) : (w.alloc (.cells #[x] t)).cell? ((⟨w.heap.size, 0, none⟩ : Addr).add j) = some u := by
  have hadd : (⟨w.heap.size, 0, none⟩ : Addr).add j = ⟨w.heap.size, j, none⟩ := by unfold Addr.add; split <;> simp_all
  rw [hadd, cell_of_row _ _ j #[x] t (0, 0) (heap_alloc_new w _)]
  simpa using h
theorem idx_any (x : Int) (h0 : 0 ≤ x) (h1 : x ≤ 255) (w : World) :
    Calls Try.prog 69 #[.string ⟨#[48, 49, 50, 51, 52, 53, 54, 55, 56, 57, 97, 98, 99, 100, 101, 102]⟩, .int .u8 x] w fun e w' => e = .returned (.int .i64 (hf x)) ∧ w = w' := by
  refine (Try.strings_IndexByte _ x w).mono ?_
  rintro e w' ⟨rfl, rfl⟩
  refine ⟨?_, rfl⟩
  have h := idx_fin ⟨x.toNat, by omega⟩
  have e2 : ((x.toNat : Nat) : Int) = x := by omega
  rw [show ((⟨x.toNat, by omega⟩ : Fin 256).val) = x.toNat from rfl, e2] at h
  rw [← h]; rfl
set_option maxRecDepth 100000 in
set_option maxHeartbeats 1000000 in
theorem impl_Unhex (s : ByteArray) (w : World) (hs : s.size ≤ 1048576) :
    Calls Try.prog 20 #[.string s] w fun e w' => e = .returned (.tuple #[.string (unhexV s), .bool (unhexB s)]) ∧ Below w.heap.size w w' := by
  by_cases hp : s.size % 2 = 1
  · obtain ⟨u1, u2⟩ := unhex_odd s hp
    rw [u1, u2]
    have g : ((s.size : Int) % 2 != 0) = true := by simp; omega
    clear u1 u2 hp
    go_enter Try.func20, Try.ntmps20
    go_wp2
    go_ret2
    exact ⟨rfl, Below.refl _ _⟩
  have g : ((s.size : Int) % 2 != 0) = false := by simp; omega
  obtain ⟨i0, hi, hz0, hz1, hz2⟩ := info_parts info_u8
  go_enter Try.func20, Try.ntmps20
  go_wp2
  go_loopw [4, 5] (fun v i wr => ∃ k : Nat, 2 * k ≤ s.size ∧ i = .int .i64 ((2 * k : Nat) : Int) ∧ wr.ownsRow w.heap.size 5 1 v k ((uhL s k).map (Value.int .u8)) ∧ Hid (uhB s k = true) ∧ Below w.heap.size w wr) (fun _ i _ => s.size - (intOf i).toNat)
  case atStart => exact ⟨0, by omega, rfl, World.ownsRow_made w #[] 0 (Nat.le_refl _) (by decide) (by simp), hide rfl, (by repeat (first | with_reducible exact Below.refl _ _ | with_reducible assumption | with_reducible refine Below.al ?_ _ | with_reducible refine Below.drew ?_ | with_reducible refine Below.seq ?_ (by assumption) | (with_reducible refine Below.setCell ?_ ?_ _); rotate_left; focus (first | exact Nat.le_refl _ | (simp; done) | (simp; omega))))⟩
  case round =>
    obtain ⟨k, hk, rfl, hr, hu, hb⟩ := hrel
    by_cases hlt : 2 * k < s.size
    · have hlt2 : 2 * k + 1 < s.size := by omega
      obtain ⟨i, hi2⟩ : ∃ i, i = 2 * k := ⟨_, rfl⟩
      rw [← hi2] at hlt hlt2 ⊢
      have B1 := hide (byt_at s i hlt)
      have B2 := hide (byt_at s (i + 1) hlt2)
      have d1 := byt_bd s i
      have d2 := byt_bd s (i + 1)
      obtain ⟨a, ha⟩ : ∃ a, a = hf (byt s i) := ⟨_, rfl⟩
      obtain ⟨b, hb2⟩ : ∃ b, b = hf (byt s (i + 1)) := ⟨_, rfl⟩
      obtain ⟨a0, a1⟩ := hf_bd (byt s i)
      obtain ⟨b0, b1⟩ := hf_bd (byt s (i + 1))
      rw [← ha] at a0 a1
      rw [← hb2] at b0 b1
      have c1 : ∀ W, Calls Try.prog 69 #[.string ⟨#[48, 49, 50, 51, 52, 53, 54, 55, 56, 57, 97, 98, 99, 100, 101, 102]⟩, .int .u8 ((s[i].toNat : Nat) : Int)] W fun e w' => e = .returned (.int .i64 a) ∧ W = w' := fun W => by
        rw [ha, ← B1.out]; exact idx_any _ (by omega) (by rw [B1.out]; exact d1.2) W
      have c2 : ∀ W, Calls Try.prog 69 #[.string ⟨#[48, 49, 50, 51, 52, 53, 54, 55, 56, 57, 97, 98, 99, 100, 101, 102]⟩, .int .u8 ((s[i + 1].toNat : Nat) : Int)] W fun e w' => e = .returned (.int .i64 b) ∧ W = w' := fun W => by
        rw [hb2, ← B2.out]; exact idx_any _ (by omega) (by rw [B2.out]; exact d2.2) W
      have HA := hide ha
      have HB := hide hb2
      have HI := hide hi2
      have hsz := hb.size
      have hi3 : i ≤ 1048576 := by omega
      have hk3 : k ≤ 1048576 := by omega
      have j0 : (0 : Int) ≤ (i : Int) := by omega
      have j1 : (i : Int) < (s.size : Int) := by omega
      have j2 : (i : Int) + 1 < (s.size : Int) := by omega
      have j3 : (0 : Int) ≤ (i : Int) + 1 := by omega
      have j4 : IntKind.i64.wrap ((i : Int) + 1) = (i : Int) + 1 := IntWalk.i64_in _ ⟨by omega, by omega⟩
      clear ha hb2 hi2 d1 d2 hk
      go_wp2_with fail
      go_region_held3 (fun W => w.heap.size ≤ W.heap.size) (first | assumption | (simp; done) | (simp; omega)) (first | (go_at_call 69; refine (c1 _).mono ?_; rintro e w2 ⟨rfl, rfl⟩) | (go_at_call 69; refine (c2 _).mono ?_; rintro e w2 ⟨rfl, rfl⟩))
      all_goals
        by_cases a2 : a < 0
        · have hbad := unhex_bad s k (by have := HI.out; omega) (.inl (by rw [← HI.out, ← HA.out]; exact a2))
          obtain ⟨v1, v2⟩ := hbad
          have V1 := hide v1
          have V2 := hide v2
          clear v1 v2 c1 c2
          go_wp2
          go_ret2
          exact ⟨by rw [V1.out, V2.out]; rfl, (by repeat (first | with_reducible exact Below.refl _ _ | with_reducible assumption | with_reducible refine Below.al ?_ _ | with_reducible refine Below.drew ?_ | with_reducible refine Below.seq ?_ (by assumption) | (with_reducible refine Below.setCell ?_ ?_ _); rotate_left; focus (first | exact Nat.le_refl _ | (simp; done) | (simp; omega))))⟩
        by_cases b2 : b < 0
        · have hbad := unhex_bad s k (by have := HI.out; omega) (.inr (by rw [← HI.out, ← HB.out]; exact b2))
          obtain ⟨v1, v2⟩ := hbad
          have V1 := hide v1
          have V2 := hide v2
          clear v1 v2 c1 c2
          go_wp2
          go_ret2
          exact ⟨by rw [V1.out, V2.out]; rfl, (by repeat (first | with_reducible exact Below.refl _ _ | with_reducible assumption | with_reducible refine Below.al ?_ _ | with_reducible refine Below.drew ?_ | with_reducible refine Below.seq ?_ (by assumption) | (with_reducible refine Below.setCell ?_ ?_ _); rotate_left; focus (first | exact Nat.le_refl _ | (simp; done) | (simp; omega))))⟩
        have hor := or_half a b (by omega) a1 (by omega) b1
        have hu2 := hide (uhB_step s k hu.out (by rw [← HI.out, ← HA.out]; omega) (by rw [← HI.out, ← HB.out]; omega))
        have hL := hide (show uhL s (k + 1) = uhL s k ++ [a * 16 + b] by rw [uhL, ← HI.out, ← HA.out, ← HB.out])
        clear c1 c2
        go_wp2_with (at_builtin; refine wpList_append_own _ rfl _ _ 22 rfl w.heap.size 5 i0 (.int .u8 0) 1 1 Try.underlying22 hi hz0 hz1 hz2 rfl (by decide) _ _ _ rfl (hr.drew.alloc _) ⟨wr.heap.size, 0, none⟩ 1 1 [.int .u8 (a * 16 + b)] rfl rfl ?c11 ?c12 ?c3 ?c4 ?c5 ?_)
        try (case c11 => exact fun j u h => cell_one' _ _ _ j u h)
        case c12 => first | rfl | (intro u hu; simp at hu; subst hu; rfl)
        case c3 => first | omega | (unfold maxLen; omega)
        case c4 => omega
        case c5 => first | omega | (simp; omega)
        intro v' w3 hown3 hgr3 _
        have hb3 : Below w.heap.size w w3 := (Below.al hb.drew _).grown hgr3 (by simp; omega) (fun q hq => (hr.lt q hq).1)
        have hown4 : w3.ownsRow w.heap.size 5 1 v' (k + 1) ((uhL s (k + 1)).map (Value.int .u8)) := by
          rw [hL.out]
          simpa using hown3
        clear hown3 hgr3 hr hb
        go_wp2
        go_roundw
        case rel => exact ⟨k + 1, by have := HI.out; omega, by have := HI.out; go_num, hown4, hu2, hb3⟩
        case measure => simp [intOf]; omega
    · have hke : 2 * k = s.size := by omega
      obtain ⟨v1, v2⟩ := unhex_good s k hke hu.out
      have hconv := run_string_own (P := Try.prog) Try.underlying22 Try.underlying5 Try.underlying9 hr
      rw [← v2] at hconv
      have V1 := hide v1
      clear v1 v2
      go_wp2
      go_ret2
      exact ⟨by rw [V1.out]; rfl, hb⟩
end Go.Proofs.Ytahffinjglmhhaa
