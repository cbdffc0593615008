/-
  Words as bytes: what PutWord, GetWord and word return, and their laws' walks.
-/
import Derived.Test.YtahffinjglmhhaaSum
import Derived.Laws.BytesArg
import Derived.Laws.OwnMore
import Derived.OwnWalk
namespace Go.Proofs.Ytahffinjglmhhaa
open Go.RowKit
set_option linter.unusedVariables false

theorem info_u8 : (Try.prog.info? 5).map (fun i => (i.zero, i.size, i.bytes)) = some (some (.int .u8 0), 1, 1) := by kernel_rfl

/-- A string made of bytes that the call owns. -/
theorem run_string_own {P : Program} {w : World} {base e src dst : TypeId} {v : Value} {n : Nat} {xs : List Int} (hs : P.underlying src = some (.slice e)) (he : P.underlying e = some (.int .u8)) (hd : P.underlying dst = some .string)
    (h : w.ownsRow base e 1 v n (xs.map (Value.int .u8))) : (convert src dst v).run P w = .ok (.string (strOfNums xs)) w := by
  have hl : xs.length = n := by simpa using h.1
  rcases h.2 with ⟨rfl, h0⟩ | ⟨g, cap, cur, rfl, hb, hg, hnc, hcm, hcs, htake⟩
  · subst h0
    obtain rfl : xs = [] := List.eq_nil_of_length_eq_zero hl
    exact run_convert_bytes_nil w src e hs he 0 0 dst hd
  · refine run_convert_bytes_arg w src e hs he g 0 n cap xs hl (fun i hi => ?_) dst hd
    have hc := h.cellAt i (by omega)
    rw [Nat.zero_add, hc, List.getElem?_map, List.getElem?_eq_getElem (by omega), Option.map_some, List.getD_eq_getElem?_getD, List.getElem?_eq_getElem (by omega), Option.getD_some]

/-- The k low bytes of n, the greatest first. -/
def beL : Nat → Int → List Int
  | 0, _ => []
  | k + 1, n => (n / 256 ^ k % 256) :: beL k n
theorem beL_len (k : Nat) (n : Int) : (beL k n).length = k := by induction k <;> simp [beL, *]
/-- What PutWord returns. -/
def putWord (n sz : Int) : ByteArray := if rng sz 1 6 && wordOk n (8 * sz) then strOfNums (beL sz.toNat n) else ⟨#[]⟩
theorem lay_step (j m : Nat) (n v : Int) (hv : v = n / 256 ^ m % 256) : ((List.replicate (j + 1) 0 ++ beL m n).map (Value.int .u8)).set j (.int .u8 v) = (List.replicate j 0 ++ beL (m + 1) n).map (Value.int .u8) := by
  rw [List.map_append, List.map_append, List.map_replicate, List.map_replicate, List.set_append_left _ _ (by simp)]
  have : (List.replicate (j + 1) (Value.int .u8 0)).set j (.int .u8 v) = List.replicate j (Value.int .u8 0) ++ [.int .u8 v] := by
    rw [List.replicate_succ', List.set_append_right _ _ (by simp)]
    simp
  rw [this, beL, hv]
  simp
theorem div_step (n x : Int) (m : Nat) (h : x = n / 256 ^ m) : x / 256 = n / 256 ^ (m + 1) := by
  rw [h, Int.pow_succ, Int.ediv_ediv_of_nonneg (Int.pow_nonneg (by decide))]
theorem wordOk_bd {n : Int} {k : Nat} (h6 : k ≤ 6) (h : wordOk n (8 * (k : Int)) = true) : 0 ≤ n ∧ n < 281474976710656 := by
  rw [wordOk, Bool.and_eq_true, rng_true, rng_true] at h
  obtain ⟨⟨a, b⟩, c, d⟩ := h
  have hp : (2 : Int) ^ (8 * (k : Int)).toNat ≤ 281474976710656 := by
    have e : (8 * (k : Int)).toNat = 8 * k := by omega
    have := Nat.pow_le_pow_right (n := 2) (by decide) (show 8 * k ≤ 48 by omega)
    have e2 : ((2 ^ (8 * k) : Nat) : Int) = (2 : Int) ^ (8 * k) := by simp
    rw [e, ← e2]; omega
  omega
theorem impl_PutWord_in (k : Nat) (n : Int) (w : World) (h1 : 1 ≤ k) (h6 : k ≤ 6) (h0 : 0 ≤ n) (hn : n < 281474976710656) (hok : wordOk n (8 * (k : Int)) = true) :
    Calls Try.prog 62 #[.int .i64 n, .int .i64 k] w fun e w' => e = .returned (.string (strOfNums (beL k n))) ∧ Below w.heap.size w w' := by
  obtain ⟨i0, hi, hz0, hz1, hz2⟩ := info_parts info_u8
  have hr : rng (k : Int) 1 6 = true := by rw [rng_true]; omega
  have Hr := hide hr
  have Hk := hide hok
  clear hr hok
  go_enter Try.func62, Try.ntmps62
  go_wp2_with (first
    | (go_at_call 65; refine (within_any _ _ _ _).mono ?_; rintro e w1 ⟨rfl, rfl⟩; rw [Hr.out])
    | (go_at_call 66; refine (impl_WordOk _ _ _).mono ?_; rintro e w1 ⟨rfl, rfl⟩; rw [Hk.out])
    | (at_make; refine wpList_make_full _ rfl _ _ 22 rfl w.heap.size 5 i0 (.int .u8 0) 1 Try.underlying22 hi hz0 hz1 .i64 .i64 _ _ k rfl rfl rfl rfl (by rw [hz2]; omega) (by unfold maxLen; omega) (Nat.le_refl _) ?_; intro w1 hown hgr))
  have hown0 : w1.ownsRow w.heap.size 5 1 (.slice (some ⟨w.heap.size, 0, none⟩) k k) k ((List.replicate k 0 ++ beL 0 n).map (Value.int .u8)) := by
    have e : (madeCells (Value.int IntKind.u8 0).cells (k * 1)).toList = (List.replicate k 0 ++ beL 0 n).map (Value.int .u8) := by
      rw [Nat.mul_one]
      exact (toList_madeCells_one _ _).trans (by simp [beL])
    rw [← e]; exact hown
  have hb1 : Below w.heap.size w w1 := (Below.refl _ _).grown hgr (Nat.le_refl _) (fun k hk => by cases hk)
  clear hown hgr
  go_loopw [0, 6] (fun v i wr => ∃ j m : Nat, j ≤ 6 ∧ Hid (j + m = k) ∧ i = .int .i64 ((j : Int) - 1) ∧ (∃ x : Int, 0 ≤ x ∧ x ≤ n ∧ Hid (x = n / 256 ^ m) ∧ v = .int .i64 x) ∧
      wr.ownsRow w.heap.size 5 1 (.slice (some ⟨w.heap.size, 0, none⟩) k k) k ((List.replicate j 0 ++ beL m n).map (Value.int .u8)) ∧ Below w.heap.size w wr)
    (fun _ i _ => (intOf i + 1).toNat)
  case atStart => exact ⟨k, 0, h6, hide rfl, rfl, ⟨n, h0, Int.le_refl _, hide (by simp), rfl⟩, hown0, hb1⟩
  case round =>
    obtain ⟨j, m, hj6, Hjm, rfl, ⟨x, hx0, hxn, HX, rfl⟩, hr, hb⟩ := hrel
    clear hown0 hb1
    cases j with
    | zero =>
      have hm : m = k := by have := Hjm.out; omega
      subst hm
      have hconv := run_string_own (P := Try.prog) Try.underlying22 Try.underlying5 Try.underlying9 hr
      rw [show List.replicate 0 (0 : Int) ++ beL m n = beL m n from rfl] at hconv
      rw [show ((0 : Nat) : Int) - 1 = -1 from rfl]
      go_wp2
      go_ret
      exact ⟨rfl, hb⟩
    | succ j =>
      have e : (((j + 1 : Nat)) : Int) - 1 = (j : Int) := by omega
      rw [e]
      clear e
      have hjk : j < k := by have := Hjm.out; omega
      have hc : wr.cell? ⟨w.heap.size, j, none⟩ = some (.int .u8 0) := by
        rw [hr.cellAt j (by omega), List.getElem?_map, List.getElem?_append_left (by simp), List.getElem?_replicate, if_pos (by omega)]
        rfl
      have hf := hr.frozenAt j
      go_wp2
      go_roundw
      case rel => exact ⟨j, m + 1, by omega, hide (by have := Hjm.out; omega), rfl, ⟨x / 256, by omega, by omega, hide (div_step n x m HX.out), rfl⟩, by have h := (hr.stored j (.int .u8 (x % 256))).1; rw [lay_step j m n _ (by rw [HX.out])] at h; exact h, hb.setCell (Nat.le_refl _) _⟩
      case measure => simp [intOf]
theorem impl_PutWord (n sz : Int) (w : World) :
    Calls Try.prog 62 #[.int .i64 n, .int .i64 sz] w fun e w' => e = .returned (.string (putWord n sz)) ∧ Below w.heap.size w w' := by
  by_cases hr : rng sz 1 6 = true
  · by_cases hk : wordOk n (8 * sz) = true
    · obtain ⟨a, b⟩ := rng_true.1 hr
      obtain ⟨k, rfl⟩ := Int.eq_ofNat_of_zero_le (show 0 ≤ sz by omega)
      obtain ⟨c, d⟩ := wordOk_bd (k := k) (by omega) hk
      have e : putWord n k = strOfNums (beL k n) := by rw [putWord, hr, hk]; rfl
      rw [e]
      exact impl_PutWord_in k n w (by omega) (by omega) c d hk
    · obtain ⟨a, b⟩ := rng_true.1 hr
      have e : putWord n sz = ⟨#[]⟩ := by rw [putWord, hr]; simp [hk]
      rw [e]
      have Hr := hide hr
      have Hk := hide (show wordOk n (8 * sz) = false by simpa using hk)
      clear hr hk e
      go_enter Try.func62, Try.ntmps62
      go_wp2_with (first
        | (go_at_call 65; refine (within_any _ _ _ _).mono ?_; rintro e w1 ⟨rfl, rfl⟩; rw [Hr.out])
        | (go_at_call 66; refine (impl_WordOk _ _ _).mono ?_; rintro e w1 ⟨rfl, rfl⟩; rw [Hk.out]))
      go_ret
      exact ⟨rfl, Below.refl _ _⟩
  · have e : putWord n sz = ⟨#[]⟩ := by rw [putWord]; simp [hr]
    rw [e]
    have Hr := hide (show rng sz 1 6 = false by simpa using hr)
    clear hr e
    go_enter Try.func62, Try.ntmps62
    go_wp2_with (go_at_call 65; refine (within_any _ _ _ _).mono ?_; rintro e w1 ⟨rfl, rfl⟩; rw [Hr.out])
    go_ret
    exact ⟨rfl, Below.refl _ _⟩
theorem spec_PutWord_in (k : Nat) (n : Int) (w : World) (h1 : 1 ≤ k) (h6 : k ≤ 6) (h0 : 0 ≤ n) (hn : n < 281474976710656) (hok : wordOk n (8 * (k : Int)) = true) :
    Calls Try.prog 75 #[.int .i64 n, .int .i64 k] w fun e w' => e = .returned (.string (strOfNums (beL k n))) ∧ Below w.heap.size w w' := by
  obtain ⟨i0, hi, hz0, hz1, hz2⟩ := info_parts info_u8
  have hr : rng (k : Int) 1 6 = true := by rw [rng_true]; omega
  have Hr := hide hr
  have Hk := hide hok
  clear hr hok
  go_enter Try.func75, Try.ntmps75
  go_wp2_with (first
    | (go_at_call 63; refine (l1In_any _ _ _ _).mono ?_; rintro e w1 ⟨rfl, rfl⟩; rw [Hr.out])
    | (go_at_call 64; refine (spec_WordOk _ _ _).mono ?_; rintro e w1 ⟨rfl, rfl⟩; rw [Hk.out])
    | (at_make; refine wpList_make_full _ rfl _ _ 22 rfl w.heap.size 5 i0 (.int .u8 0) 1 Try.underlying22 hi hz0 hz1 .i64 .i64 _ _ k rfl rfl rfl rfl (by rw [hz2]; omega) (by unfold maxLen; omega) (Nat.le_refl _) ?_; intro w1 hown hgr))
  have hown0 : w1.ownsRow w.heap.size 5 1 (.slice (some ⟨w.heap.size, 0, none⟩) k k) k ((List.replicate k 0 ++ beL 0 n).map (Value.int .u8)) := by
    have e : (madeCells (Value.int IntKind.u8 0).cells (k * 1)).toList = (List.replicate k 0 ++ beL 0 n).map (Value.int .u8) := by
      rw [Nat.mul_one]
      exact (toList_madeCells_one _ _).trans (by simp [beL])
    rw [← e]; exact hown
  have hb1 : Below w.heap.size w w1 := (Below.refl _ _).grown hgr (Nat.le_refl _) (fun k hk => by cases hk)
  clear hown hgr
  go_loopw [0, 6] (fun v i wr => ∃ j m : Nat, j ≤ 6 ∧ Hid (j + m = k) ∧ i = .int .i64 ((j : Int) - 1) ∧ (∃ x : Int, 0 ≤ x ∧ x ≤ n ∧ Hid (x = n / 256 ^ m) ∧ v = .int .i64 x) ∧
      wr.ownsRow w.heap.size 5 1 (.slice (some ⟨w.heap.size, 0, none⟩) k k) k ((List.replicate j 0 ++ beL m n).map (Value.int .u8)) ∧ Below w.heap.size w wr)
    (fun _ i _ => (intOf i + 1).toNat)
  case atStart => exact ⟨k, 0, h6, hide rfl, rfl, ⟨n, h0, Int.le_refl _, hide (by simp), rfl⟩, hown0, hb1⟩
  case round =>
    obtain ⟨j, m, hj6, Hjm, rfl, ⟨x, hx0, hxn, HX, rfl⟩, hr, hb⟩ := hrel
    clear hown0 hb1
    cases j with
    | zero =>
      have hm : m = k := by have := Hjm.out; omega
      subst hm
      have hconv := run_string_own (P := Try.prog) Try.underlying22 Try.underlying5 Try.underlying9 hr
      rw [show List.replicate 0 (0 : Int) ++ beL m n = beL m n from rfl] at hconv
      rw [show ((0 : Nat) : Int) - 1 = -1 from rfl]
      go_wp2
      go_ret
      exact ⟨rfl, hb⟩
    | succ j =>
      have e : (((j + 1 : Nat)) : Int) - 1 = (j : Int) := by omega
      rw [e]
      clear e
      have hjk : j < k := by have := Hjm.out; omega
      have hc : wr.cell? ⟨w.heap.size, j, none⟩ = some (.int .u8 0) := by
        rw [hr.cellAt j (by omega), List.getElem?_map, List.getElem?_append_left (by simp), List.getElem?_replicate, if_pos (by omega)]
        rfl
      have hf := hr.frozenAt j
      go_wp2
      go_roundw
      case rel => exact ⟨j, m + 1, by omega, hide (by have := Hjm.out; omega), rfl, ⟨x / 256, by omega, by omega, hide (div_step n x m HX.out), rfl⟩, by have h := (hr.stored j (.int .u8 (x % 256))).1; rw [lay_step j m n _ (by rw [HX.out])] at h; exact h, hb.setCell (Nat.le_refl _) _⟩
      case measure => simp [intOf]
theorem spec_PutWord (n sz : Int) (w : World) :
    Calls Try.prog 75 #[.int .i64 n, .int .i64 sz] w fun e w' => e = .returned (.string (putWord n sz)) ∧ Below w.heap.size w w' := by
  by_cases hr : rng sz 1 6 = true
  · by_cases hk : wordOk n (8 * sz) = true
    · obtain ⟨a, b⟩ := rng_true.1 hr
      obtain ⟨k, rfl⟩ := Int.eq_ofNat_of_zero_le (show 0 ≤ sz by omega)
      obtain ⟨c, d⟩ := wordOk_bd (k := k) (by omega) hk
      have e : putWord n k = strOfNums (beL k n) := by rw [putWord, hr, hk]; rfl
      rw [e]
      exact spec_PutWord_in k n w (by omega) (by omega) c d hk
    · obtain ⟨a, b⟩ := rng_true.1 hr
      have e : putWord n sz = ⟨#[]⟩ := by rw [putWord, hr]; simp [hk]
      rw [e]
      have Hr := hide hr
      have Hk := hide (show wordOk n (8 * sz) = false by simpa using hk)
      clear hr hk e
      go_enter Try.func75, Try.ntmps75
      go_wp2_with (first
        | (go_at_call 63; refine (l1In_any _ _ _ _).mono ?_; rintro e w1 ⟨rfl, rfl⟩; rw [Hr.out])
        | (go_at_call 64; refine (spec_WordOk _ _ _).mono ?_; rintro e w1 ⟨rfl, rfl⟩; rw [Hk.out]))
      go_ret
      exact ⟨rfl, Below.refl _ _⟩
  · have e : putWord n sz = ⟨#[]⟩ := by rw [putWord]; simp [hr]
    rw [e]
    have Hr := hide (show rng sz 1 6 = false by simpa using hr)
    clear hr e
    go_enter Try.func75, Try.ntmps75
    go_wp2_with (go_at_call 63; refine (l1In_any _ _ _ _).mono ?_; rintro e w1 ⟨rfl, rfl⟩; rw [Hr.out])
    go_ret
    exact ⟨rfl, Below.refl _ _⟩

/-- The word of k bytes at a. -/
def gw (s : ByteArray) (a : Nat) : Nat → Int
  | 0 => 0
  | k + 1 => gw s a k * 256 + byt s (a + k)
theorem gw_bd (s : ByteArray) (a k : Nat) : 0 ≤ gw s a k ∧ gw s a k < 256 ^ k := by
  induction k with
  | zero => simp [gw]
  | succ k ih =>
    obtain ⟨b0, b1⟩ := byt_bd s (a + k)
    rw [gw, Int.pow_succ]
    omega
theorem gw_bd6 (s : ByteArray) (a k : Nat) (h : k ≤ 6) : 0 ≤ gw s a k ∧ gw s a k < 281474976710656 := by
  obtain ⟨g0, g1⟩ := gw_bd s a k
  have := Nat.pow_le_pow_right (n := 256) (by decide) h
  have e2 : ((256 ^ k : Nat) : Int) = (256 : Int) ^ k := by simp
  omega
def getOk (s : ByteArray) (at_ sz : Int) : Bool := rng sz 1 6 && rng at_ 0 (s.size - sz)
def getV (s : ByteArray) (at_ sz : Int) : Int := if getOk s at_ sz = true then gw s at_.toNat sz.toNat else 0
theorem impl_GetWord_in (s : ByteArray) (a k : Nat) (w : World) (hs : s.size ≤ 140737488355328) (h1 : 1 ≤ k) (h6 : k ≤ 6) (ha : a + k ≤ s.size) :
    Calls Try.prog 99 #[.string s, .int .i64 a, .int .i64 k] w fun e w' => e = .returned (.tuple #[.int .i64 (gw s a k), .bool true]) ∧ w = w' := by
  have hr : rng (k : Int) 1 6 = true := by rw [rng_true]; omega
  have Hr := hide hr
  clear hr
  have hle : (a : Int) ≤ (s.size : Int) - (k : Int) := by omega
  go_enter Try.func99, Try.ntmps99
  go_wp2_with (go_at_call 65; refine (within_any _ _ _ _).mono ?_; rintro e w1 ⟨rfl, rfl⟩; rw [Hr.out])
  go_loop [8, 9, 26] (fun v _ i => ∃ j : Nat, j ≤ k ∧ i = .int .i64 j ∧ v = .int .i64 (gw s a j)) (fun _ _ i => k - (intOf i).toNat)
  case atStart => exact ⟨0, by omega, rfl, rfl⟩
  case round =>
    obtain ⟨j, hj, rfl, rfl⟩ := hrel
    obtain ⟨g0, g1⟩ := gw_bd6 s a j (by omega)
    by_cases hlt : j < k
    · obtain ⟨b0, b1⟩ := byt_bd s (a + j)
      have hin : a + j < s.size := by omega
      have hq : ((s[a + j].toNat : Nat) : Int) ≤ 255 := by rw [byt_at s (a + j) hin]; exact b1
      have HS := hide (show bits .or .i64 (gw s a j * 256) ((s[a + j].toNat : Nat) : Int) = gw s a (j + 1) by
        rw [byt_at s (a + j) hin, or_byte _ _ g0 (by omega) b0 b1]; rfl)
      go_wp2
      go_round
      case rel => exact ⟨j + 1, by omega, by go_num, by rw [← HS.out]⟩
      case measure => simp [intOf]; omega
    · go_wp2
      go_ret2
      exact ⟨by have : j = k := by omega
                rw [this]; rfl, rfl⟩
theorem spec_GetWord_in (s : ByteArray) (a k : Nat) (w : World) (hs : s.size ≤ 140737488355328) (h1 : 1 ≤ k) (h6 : k ≤ 6) (ha : a + k ≤ s.size) :
    Calls Try.prog 77 #[.string s, .int .i64 a, .int .i64 k] w fun e w' => e = .returned (.tuple #[.int .i64 (gw s a k), .bool true]) ∧ w = w' := by
  have hr : rng (k : Int) 1 6 = true := by rw [rng_true]; omega
  have Hr := hide hr
  have Hs := hide (show rng (a : Int) 0 ((s.size : Int) - (k : Int)) = true by rw [rng_true]; omega)
  clear hr
  go_enter Try.func77, Try.ntmps77
  go_wp2_with (go_at_call 63; refine (l1In_any _ _ _ _).mono ?_; rintro e w1 ⟨rfl, rfl⟩; first | rw [Hr.out] | rw [Hs.out])
  go_loop [8, 9] (fun v i => ∃ j : Nat, j ≤ k ∧ i = .int .i64 j ∧ v = .int .i64 (gw s a j)) (fun _ i => k - (intOf i).toNat)
  case atStart => exact ⟨0, by omega, rfl, rfl⟩
  case round =>
    obtain ⟨j, hj, rfl, rfl⟩ := hrel
    obtain ⟨g0, g1⟩ := gw_bd6 s a j (by omega)
    by_cases hlt : j < k
    · obtain ⟨b0, b1⟩ := byt_bd s (a + j)
      have hin : a + j < s.size := by omega
      have hq : ((s[a + j].toNat : Nat) : Int) ≤ 255 := by rw [byt_at s (a + j) hin]; exact b1
      have HS := hide (show 256 * gw s a j + ((s[a + j].toNat : Nat) : Int) = gw s a (j + 1) by
        rw [byt_at s (a + j) hin, gw]; omega)
      go_wp2
      go_round
      case rel => exact ⟨j + 1, by omega, by go_num, by rw [← HS.out]⟩
      case measure => simp [intOf]; omega
    · go_wp2
      go_ret2
      exact ⟨by have : j = k := by omega
                rw [this]; rfl, rfl⟩
theorem impl_GetWord (s : ByteArray) (a z : Int) (w : World) (hs : s.size ≤ 140737488355328) :
    Calls Try.prog 99 #[.string s, .int .i64 a, .int .i64 z] w fun e w' => e = .returned (.tuple #[.int .i64 (getV s a z), .bool (getOk s a z)]) ∧ w = w' := by
  by_cases hr : rng z 1 6 = true
  · by_cases hk : rng a 0 (s.size - z) = true
    · have hok : getOk s a z = true := by rw [getOk, hr, hk]; rfl
      have e : getV s a z = gw s a.toNat z.toNat := by rw [getV, if_pos hok]
      rw [e, hok]
      obtain ⟨z1, z6⟩ := rng_true.1 hr
      obtain ⟨a0, a1⟩ := rng_true.1 hk
      obtain ⟨k, rfl⟩ := Int.eq_ofNat_of_zero_le (show 0 ≤ z by omega)
      obtain ⟨b, rfl⟩ := Int.eq_ofNat_of_zero_le a0
      exact impl_GetWord_in s b k w hs (by omega) (by omega) (by omega)
    · have hok : getOk s a z = false := by rw [getOk, hr]; simp [hk]
      have e : getV s a z = 0 := by rw [getV, hok]; rfl
      rw [e, hok]
      have Hr := hide hr
      have Hk := hide (show rng a 0 (s.size - z) = false by simpa using hk)
      obtain ⟨z1, z6⟩ := rng_true.1 hr
      have hor := rng_false.1 Hk.out
      clear hr hk e hok
      by_cases hneg : a < 0
      · clear hor
        go_enter Try.func99, Try.ntmps99
        go_wp2_with (go_at_call 65; refine (within_any _ _ _ _).mono ?_; rintro e w1 ⟨rfl, rfl⟩; rw [Hr.out])
        go_ret2
        exact ⟨rfl, rfl⟩
      · have hbig : (s.size : Int) - z < a := by omega
        clear hor
        go_enter Try.func99, Try.ntmps99
        go_wp2_with (go_at_call 65; refine (within_any _ _ _ _).mono ?_; rintro e w1 ⟨rfl, rfl⟩; rw [Hr.out])
        go_ret2
        exact ⟨rfl, rfl⟩
  · have hok : getOk s a z = false := by rw [getOk]; simp [hr]
    have e : getV s a z = 0 := by rw [getV, hok]; rfl
    rw [e, hok]
    have Hr := hide (show rng z 1 6 = false by simpa using hr)
    clear hr e hok
    go_enter Try.func99, Try.ntmps99
    go_wp2_with (go_at_call 65; refine (within_any _ _ _ _).mono ?_; rintro e w1 ⟨rfl, rfl⟩; rw [Hr.out])
    go_ret2
    exact ⟨rfl, rfl⟩
theorem spec_GetWord (s : ByteArray) (a z : Int) (w : World) (hs : s.size ≤ 140737488355328) :
    Calls Try.prog 77 #[.string s, .int .i64 a, .int .i64 z] w fun e w' => e = .returned (.tuple #[.int .i64 (getV s a z), .bool (getOk s a z)]) ∧ w = w' := by
  by_cases hr : rng z 1 6 = true
  · by_cases hk : rng a 0 (s.size - z) = true
    · have hok : getOk s a z = true := by rw [getOk, hr, hk]; rfl
      have e : getV s a z = gw s a.toNat z.toNat := by rw [getV, if_pos hok]
      rw [e, hok]
      obtain ⟨z1, z6⟩ := rng_true.1 hr
      obtain ⟨a0, a1⟩ := rng_true.1 hk
      obtain ⟨k, rfl⟩ := Int.eq_ofNat_of_zero_le (show 0 ≤ z by omega)
      obtain ⟨b, rfl⟩ := Int.eq_ofNat_of_zero_le a0
      exact spec_GetWord_in s b k w hs (by omega) (by omega) (by omega)
    · have hok : getOk s a z = false := by rw [getOk, hr]; simp [hk]
      have e : getV s a z = 0 := by rw [getV, hok]; rfl
      rw [e, hok]
      have Hr := hide hr
      have Hk := hide (show rng a 0 (s.size - z) = false by simpa using hk)
      obtain ⟨z1, z6⟩ := rng_true.1 hr
      have hor := rng_false.1 Hk.out
      clear hr hk e hok
      clear hor
      go_enter Try.func77, Try.ntmps77
      go_wp2_with (go_at_call 63; refine (l1In_any _ _ _ _).mono ?_; rintro e w1 ⟨rfl, rfl⟩; first | rw [Hr.out] | rw [Hk.out])
      go_ret2
      exact ⟨rfl, rfl⟩
  · have hok : getOk s a z = false := by rw [getOk]; simp [hr]
    have e : getV s a z = 0 := by rw [getV, hok]; rfl
    rw [e, hok]
    have Hr := hide (show rng z 1 6 = false by simpa using hr)
    clear hr e hok
    go_enter Try.func77, Try.ntmps77
    go_wp2_with (go_at_call 63; refine (l1In_any _ _ _ _).mono ?_; rintro e w1 ⟨rfl, rfl⟩; rw [Hr.out])
    go_ret2
    exact ⟨rfl, rfl⟩
theorem impl_word (s : ByteArray) (a z : Int) (w : World) (hs : s.size ≤ 140737488355328) :
    Calls Try.prog 61 #[.string s, .int .i64 a, .int .i64 z] w fun e w' => e = .returned (.int .i64 (getV s a z)) ∧ w = w' := by
  go_enter Try.func61, Try.ntmps61
  go_wp2_with (go_at_call 99; refine (impl_GetWord _ _ _ _ hs).mono ?_; rintro e w1 ⟨rfl, rfl⟩)
  go_ret
  exact ⟨rfl, rfl⟩
end Go.Proofs.Ytahffinjglmhhaa
