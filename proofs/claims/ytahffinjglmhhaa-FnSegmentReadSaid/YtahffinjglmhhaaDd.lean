/-
  A head with a byte turned and its sum made right again; packets drawn to be read.
-/
import Derived.Test.YtahffinjglmhhaaDc
import Derived.Deep.DeepCutAuto
namespace Go.Proofs.Ytahffinjglmhhaa
open Go.RowKit
set_option linter.unusedVariables false
/-- A row of n bytes that can be read and written. -/
structure BR (w : World) (q n : Nat) : Prop where
  cells : ∀ j, j < n → ∃ x : Int, 0 ≤ x ∧ x ≤ 255 ∧ w.cell? ⟨q, j, none⟩ = some (.int .u8 x)
  frz : ∀ j, j < n → w.frozen? ⟨q, j, none⟩ = false
  lt : q < w.heap.size
theorem BR.st {g q n : Nat} {a b : World} (h : BR a q n) (hs : St g a b) (hq : q ≠ g) : BR b q n :=
  ⟨fun j hj => by obtain ⟨x, x0, x1, hx⟩ := h.cells j hj; exact ⟨x, x0, x1, (hs.1.cell hq h.lt).trans hx⟩, fun j hj => (hs.1.frozen hq h.lt).trans (h.frz j hj), Nat.lt_of_lt_of_le h.lt hs.1.size⟩
theorem BR.below {q n : Nat} {a b : World} (h : BR a q n) (hs : Below a.heap.size a b) : BR b q n :=
  ⟨fun j hj => by obtain ⟨x, x0, x1, hx⟩ := h.cells j hj; exact ⟨x, x0, x1, (hs.cell (p := ⟨q, j, none⟩) h.lt).trans hx⟩, fun j hj => (World.frozen?_of_block (w := a) (hs.block q h.lt)).trans (h.frz j hj), Nat.lt_of_lt_of_le h.lt hs.size⟩
theorem BR.alloc {q n : Nat} {a : World} (h : BR a q n) (o : Obj) : BR (a.alloc o) q n := h.below (below_alloc' a o)
theorem BR.set {q n : Nat} {w : World} (h : BR w q n) (j : Nat) (x : Int) (hj : j < n) (x0 : 0 ≤ x) (x1 : x ≤ 255) : BR (w.setCell ⟨q, j, none⟩ (.int .u8 x)) q n := by
  obtain ⟨y, _, _, hy⟩ := h.cells j hj
  refine ⟨fun i hi => ?_, fun i hi => by have := h.frz i hi; simpa using this, by simp [World.setCell]; exact h.lt⟩
  by_cases e : i = j
  · subst e
    exact ⟨x, x0, x1, World.cell?_setCell_same _ _ _ hy⟩
  · obtain ⟨z, z0, z1, hz⟩ := h.cells i hi
    exact ⟨z, z0, z1, (World.cell?_setCell_other _ _ _ _ (fun e' => e (congrArg Addr.off e').symm)).trans hz⟩
theorem BR.list {q : Nat} {w : World} : ∀ n, (∀ j, j < n → ∃ x : Int, 0 ≤ x ∧ x ≤ 255 ∧ w.cell? ⟨q, j, none⟩ = some (.int .u8 x)) → ∃ L : List Int, L.length = n ∧ ∀ j, j < n → w.cell? ⟨q, j, none⟩ = some (.int .u8 (L.getD j 0)) := by
  intro n
  induction n with
  | zero => intro _; exact ⟨[], rfl, fun j hj => by omega⟩
  | succ n ih =>
    intro h
    obtain ⟨L, h1, h2⟩ := ih (fun j hj => h j (by omega))
    obtain ⟨x, _, _, hx⟩ := h n (by omega)
    refine ⟨L ++ [x], by simp [h1], fun j hj => ?_⟩
    by_cases e : j = n
    · subst e
      rw [List.getD_eq_getElem?_getD, List.getElem?_append_right (by omega), h1]
      simpa using hx
    · rw [List.getD_eq_getElem?_getD, List.getElem?_append_left (by omega), ← List.getD_eq_getElem?_getD]
      exact h2 j (by omega)
/-- Its first k bytes as a text. -/
theorem BR.back {P : Program} {q n : Nat} {w : World} (h : BR w q n) (k cap : Nat) (hk : k ≤ n) (src dst e : TypeId) (hs : P.underlying src = some (.slice e)) (he : P.underlying e = some (.int .u8)) (hd : P.underlying dst = some .string) :
    ∃ t : ByteArray, t.size = k ∧ (convert src dst (.slice (some ⟨q, 0, none⟩) k cap)).run P w = .ok (.string t) w := by
  obtain ⟨L, h1, h2⟩ := BR.list k (fun j hj => h.cells j (by omega))
  refine ⟨strOfNums L, by rw [strOfNums_size, h1], run_convert_bytes_arg _ src e hs he q 0 k cap L h1 (fun i hi => ?_) dst hd⟩
  rw [Nat.zero_add]; exact h2 i hi
set_option maxHeartbeats 1000000 in
set_option maxRecDepth 100000 in
theorem l7Turned_any (g m : Nat) (s : ByteArray) (w0 w : World) (hst : St g w0 w) (hga : g < w0.heap.size) (hs : s.size ≤ m) (hm : m ≤ 100000) :
    Calls Try.prog 83 #[.pointer (some ⟨g, 0, none⟩), .string s] w fun e w' => StrP (m + 20) e ∧ St g w0 w' := by
  by_cases h20 : s.size < 20
  · have hl := hst.2.lt
    go_enter Try.func83, Try.ntmps83
    go_wp2_with fail
    refine (l1Turned_any g _ 3 _ _ m w0 _ (hst.alloc _) hs (by omega) (by omega) (by simp) (by omega) (by omega) (strLit _ _ 20 [⟨#[0]⟩, ⟨#[69]⟩, ⟨#[120]⟩] (by decide))).mono ?_
    rintro e w4 ⟨⟨x, rfl, hx⟩, hst4⟩
    have Hx := hide hx
    clear hx
    go_wp2_with fail
    go_ret
    exact ⟨⟨_, rfl, Hx.out⟩, hst4⟩
  go_enter Try.func83, Try.ntmps83
  (go_wp2_with fail; refine (l1Once_any g w0 _ 3 (by omega) hst).mono ?_; rintro e w1 ⟨⟨p, rfl⟩, h1⟩)
  clear hst
  cases p
  · obtain ⟨cap, w2, hconv, c1, c2, c3, c4, c5⟩ := conv_bytes (P := Try.prog) w1 9 22 5 s Try.underlying9 Try.underlying22 Try.underlying5
    have hl1 := h1.2.lt
    have hsz1 := h1.1.size
    have R2 : BR w2 w1.heap.size s.size := ⟨fun j hj => ⟨byt s j, (byt_bd s j).1, (byt_bd s j).2, c4 j hj⟩, c5, by omega⟩
    have h2 := h1.seqB c3
    have hl2 := h2.2.lt
    clear c2 c3 c4 c5 h1
    go_wp2_with fail
    refine (l1PickInt_any g _ 9 _ (fun x => 0 ≤ x ∧ x ≤ 19) _ _ ((St.refl h2.2).alloc _) (by omega) (by simp) (by omega) (by omega) (pickLit _ _ [0, 1, 2, 3, 6, 7, 8, 10, 19] _ (by decide))).mono ?_
    rintro e w3 ⟨⟨k9, rfl, k0, k1⟩, h3⟩
    obtain ⟨k, rfl⟩ : ∃ k : Nat, k9 = k := ⟨k9.toNat, by omega⟩
    have R3 := R2.st h3 (by omega)
    have h4 := h2.trans h3
    have hl3 := h4.2.lt
    clear R2 h2 h3 hconv
    go_wp2_with fail
    refine (l1PickInt_any g _ 7 _ (fun x => 0 ≤ x ∧ x ≤ 255) _ _ ((St.refl h4.2).alloc _) (by omega) (by simp) (by omega) (by omega) (pickLit _ _ [0, 64, 32, 69, 70, 1, 255] _ (by decide))).mono ?_
    rintro e w4 ⟨⟨y, rfl, y0, y1⟩, h5⟩
    have R4 := R3.st h5 (by omega)
    have h6 := h4.trans h5
    have hks : k < s.size := by omega
    have hwr : IntKind.u8.wrap y = y := IntWalk.u8_in _ ⟨by omega, by omega⟩
    obtain ⟨z, _, _, cz⟩ := R4.cells k hks
    have fz := R4.frz k hks
    have j1 : (k : Int) < (s.size : Int) := by omega
    clear R3 h4 h5
    go_upto_region 6 with fail
    obtain ⟨W, hW⟩ : ∃ W, W = w4.setCell ⟨w1.heap.size, k, none⟩ (.int .u8 y) := ⟨_, rfl⟩
    rw [← hW]
    have RW : BR W w1.heap.size s.size := by rw [hW]; exact R4.set k y hks y0 y1
    have hSW : St g w0 W := by rw [hW]; exact h6.setNew hga _ (by show w0.heap.size ≤ w1.heap.size; omega) _
    clear hW R4 h6 cz fz
    (go_wp2_with fail; refine (l1Once_any g _ _ 4 (by omega) (St.refl hSW.2)).mono ?_; rintro e w5 ⟨⟨p, rfl⟩, h7⟩)
    have R5 := RW.st h7 (by omega)
    have h8 := hSW.trans h7
    clear RW hSW h7
    cases p
    · obtain ⟨a10, _, _, c10⟩ := R5.cells 10 (by omega)
      obtain ⟨a11, _, _, c11⟩ := R5.cells 11 (by omega)
      have f10 := R5.frz 10 (by omega)
      have f11 := R5.frz 11 (by omega)
      have j10 : (10 : Int) < (s.size : Int) := by omega
      have j11 : (11 : Int) < (s.size : Int) := by omega
      have j20 : (20 : Int) ≤ (s.size : Int) := by omega
      go_upto_region 10 with fail
      obtain ⟨W2, hW⟩ : ∃ W, W = (w5.setCell ⟨w1.heap.size, 10, none⟩ (.int .u8 0)).setCell ⟨w1.heap.size, 11, none⟩ (.int .u8 0) := ⟨_, rfl⟩
      rw [← hW]
      have R6 : BR W2 w1.heap.size s.size := by rw [hW]; exact (R5.set 10 0 (by omega) (by omega) (by omega)).set 11 0 (by omega) (by omega) (by omega)
      have h9 : St g w0 W2 := by rw [hW]; exact (h8.setNew hga _ (by show w0.heap.size ≤ w1.heap.size; omega) _).setNew hga _ (by show w0.heap.size ≤ w1.heap.size; omega) _
      clear hW R5 h8 c10 c11 f10 f11
      obtain ⟨t, ht, hb1⟩ := R6.back (P := Try.prog) 20 cap (by omega) 22 9 5 Try.underlying22 Try.underlying5 Try.underlying9
      have htz : t.size ≤ 140737488355328 := by omega
      go_wp2_with fail
      refine (spec_SumOf _ _ htz).mono ?_
      rintro e wq ⟨rfl, rfl⟩
      obtain ⟨S0, S1⟩ := sumOf_bd t
      obtain ⟨Z, hZ⟩ : ∃ Z, Z = sumOf t := ⟨_, rfl⟩
      rw [← hZ] at S0 S1 ⊢
      obtain ⟨a10, _, _, c10⟩ := R6.cells 10 (by omega)
      obtain ⟨a11, _, _, c11⟩ := R6.cells 11 (by omega)
      have f10 := R6.frz 10 (by omega)
      have f11 := R6.frz 11 (by omega)
      have w1' : IntKind.u8.wrap (Z / 256) = Z / 256 := IntWalk.u8_in _ ⟨by omega, by omega⟩
      have w2' : IntKind.u8.wrap (Z % 256) = Z % 256 := IntWalk.u8_in _ ⟨by omega, by omega⟩
      clear hb1 hZ
      go_upto_region 13 with fail
      obtain ⟨W3, hW⟩ : ∃ W, W = (W2.setCell ⟨w1.heap.size, 10, none⟩ (.int .u8 (Z / 256))).setCell ⟨w1.heap.size, 11, none⟩ (.int .u8 (Z % 256)) := ⟨_, rfl⟩
      rw [← hW]
      have R7 : BR W3 w1.heap.size s.size := by rw [hW]; exact (R6.set 10 _ (by omega) (by omega) (by omega)).set 11 _ (by omega) (by omega) (by omega)
      have h10 : St g w0 W3 := by rw [hW]; exact (h9.setNew hga _ (by show w0.heap.size ≤ w1.heap.size; omega) _).setNew hga _ (by show w0.heap.size ≤ w1.heap.size; omega) _
      clear hW R6 h9 c10 c11 f10 f11
      obtain ⟨t2, ht2, hb2⟩ := R7.back (P := Try.prog) s.size cap (by omega) 22 9 5 Try.underlying22 Try.underlying5 Try.underlying9
      go_wp2_with fail
      go_ret
      exact ⟨⟨_, rfl, by omega⟩, h10⟩
    · obtain ⟨t, ht, hb1⟩ := R5.back (P := Try.prog) s.size cap (by omega) 22 9 5 Try.underlying22 Try.underlying5 Try.underlying9
      go_wp2_with fail
      go_ret
      exact ⟨⟨_, rfl, by omega⟩, h8⟩
  · have hl := h1.2.lt
    go_wp2_with fail
    refine (l1Turned_any g _ 3 _ _ m w0 _ (h1.alloc _) hs (by omega) (by omega) (by simp) (by omega) (by omega) (strLit _ _ 20 [⟨#[0]⟩, ⟨#[69]⟩, ⟨#[120]⟩] (by decide))).mono ?_
    rintro e w4 ⟨⟨x, rfl, hx⟩, hst4⟩
    have Hx := hide hx
    clear hx
    go_wp2_with fail
    go_ret
    exact ⟨⟨_, rfl, Hx.out⟩, hst4⟩
theorem drawReadPacket_any (v : Value) (n : Nat) (w : World) (hn : n ≤ 1048576) (hb : Bytes w v n) :
    Calls Try.prog 37 #[v] w fun e w' => StrP 3020 e ∧ Below w.heap.size w w' := by
  have HB := hide hb
  clear hb
  go_enter Try.func37, Try.ntmps37
  go_wp2_with fail
  refine (l1New_any v n _ hn HB.out).mono ?_
  rintro e w1 ⟨⟨g, rfl, hg, hc⟩, hb1⟩
  go_wp2_with fail
  refine (l7Packet_any g _ hc).mono ?_
  rintro e w2 ⟨⟨s, d, t, p, i, b, rfl, hz⟩, hst⟩
  go_wp2_with fail
  refine (spec_PacketText _ _ _ _ _ _ _).mono ?_
  rintro e w3 ⟨rfl, hb3⟩
  have hst3 := hst.seqB hb3
  have hl := hst3.2.lt
  have hlc := hc.lt
  obtain ⟨T, hT⟩ : ∃ T, T = pktText s d t p i b := ⟨_, rfl⟩
  have hs : T.size ≤ 2100 := by have := size_pktText_le s d t p i b; rw [hT]; omega
  rw [← hT]
  clear hT hst hb3
  go_wp2_with fail
  refine (l1Pick_any g _ 3 _ 20 w1 _ (hst3.alloc _) (by omega) (by simp) (by omega) (by omega) (strLit _ _ 20 [⟨#[]⟩, ⟨#[0]⟩, ⟨#[112, 97, 100]⟩] (by decide))).mono ?_
  rintro e w4 ⟨⟨u, rfl, hu⟩, hst4⟩
  have hU : (T ++ u).size ≤ 3000 := by rw [ByteArray.size_append]; omega
  have hU2 : T.size + u.size ≤ 3000 := by omega
  clear hst3
  (go_wp2_with fail; refine (l1Once_any g w1 _ 2 (by omega) hst4).mono ?_; rintro e w5 ⟨⟨q, rfl⟩, hst5⟩)
  cases q
  · go_wp2_with fail
    go_ret
    exact ⟨⟨_, rfl, by omega⟩, hst5.out hb1 hg⟩
  · go_wp2_with fail
    refine (l7Turned_any g 3000 _ w1 _ hst5 hlc hU (by omega)).mono ?_
    rintro e w6 ⟨⟨x, rfl, hx⟩, hst6⟩
    have Hx := hide hx
    clear hx
    go_wp2_with fail
    go_ret
    exact ⟨⟨_, rfl, Hx.out⟩, hst6.out hb1 hg⟩
end Go.Proofs.Ytahffinjglmhhaa
