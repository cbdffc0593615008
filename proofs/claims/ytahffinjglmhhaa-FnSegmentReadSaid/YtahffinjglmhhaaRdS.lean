/-
  Segments read: what ReadSegment returns.
-/
import Derived.Test.YtahffinjglmhhaaRtS
import Derived.Test.YtahffinjglmhhaaRdO
import Derived.Test.YtahffinjglmhhaaBk
import Derived.Deep.RegionHeld3
import Derived.Deep.DeepCutAuto
namespace Go.Proofs.Ytahffinjglmhhaa
open Go.RowKit
set_option linter.unusedVariables false
set_option linter.unusedSimpArgs false
theorem undrew {W w5 : World} (h : Below W.drew.heap.size W.drew w5) : Below W.heap.size W w5 := ⟨h.os, h.tape, h.output, h.size, h.block⟩
theorem Blk.drew {w : World} {q : Nat} {l : List Value} (h : Blk w q l) : Blk w.drew q l := ⟨h.cells, h.frz, h.lt⟩
theorem rsN_bd (s : ByteArray) : 0 ≤ rsN s ∧ rsN s ≤ 60 := by
  have := byt_bd s 12
  unfold rsN; omega
theorem impl_RS_s (s : ByteArray) (src dst : Int) (w : World) (h : s.size < 20) :
    Calls Try.prog 51 #[.string s, .int .i64 src, .int .i64 dst] w fun e w' => e = .returned (.tuple #[.agg #[.int .i64 0, .int .i64 0, .int .i64 0, .int .i64 0, .int .i64 0, .int .i64 0, .int .i64 0, .int .i64 0, .bool false, .bool false, .int .i64 0, .int .i64 0, .string ⟨#[]⟩], .bool false]) ∧ Below w.heap.size w w' := by
  go_enter Try.func51, Try.ntmps51
  go_wp2_with fail
  simp [bodyPost, results, Try.results51, go_sem]
  exact (by repeat (first | with_reducible exact Below.refl _ _ | with_reducible assumption | with_reducible refine Below.al ?_ _ | with_reducible refine Below.drew ?_ | with_reducible refine Below.seq ?_ (by assumption) | (with_reducible refine Below.setCell ?_ ?_ _); rotate_left; focus (first | exact Nat.le_refl _ | (simp; done) | (simp; omega))))
set_option maxHeartbeats 2000000 in
theorem impl_RS_a (s : ByteArray) (src dst : Int) (w : World) (hs : s.size ≤ 1000000000) (h20 : 20 ≤ s.size) (hn : rsN s < 20) :
    Calls Try.prog 51 #[.string s, .int .i64 src, .int .i64 dst] w fun e w' => e = .returned (.tuple #[.agg #[.int .i64 0, .int .i64 0, .int .i64 0, .int .i64 0, .int .i64 0, .int .i64 0, .int .i64 0, .int .i64 0, .bool false, .bool false, .int .i64 0, .int .i64 0, .string ⟨#[]⟩], .bool false]) ∧ Below w.heap.size w w' := by
  have p12 : 12 < s.size := by omega
  have hq : ((s[12].toNat : Nat) : Int) ≤ 255 := by rw [byt_at s 12 p12]; have := byt_bd s 12; omega
  have hn2 : ((s[12].toNat : Nat) : Int) / 16 * 4 < 20 := by rw [byt_at s 12 p12]; exact hn
  clear hn
  go_enter Try.func51, Try.ntmps51
  (go_wp2_with fail; refine (impl_PseudoHead _ _ _ _).mono ?_; rintro e w1 ⟨rfl, hb1⟩; obtain ⟨hc1, hf1⟩ := bcell hb1; (try (have hz1_0 : w.heap.size < w1.heap.size := (by have := hb1.size; (try simp at this); omega))); (try (have hz1_x : w.heap.size + 1 < w1.heap.size := (by have := hb1.size; (try simp at this); omega))))
  have bA := (Blk.new w [.int .i64 0, .int .i64 0, .int .i64 0, .int .i64 0, .int .i64 0, .int .i64 0, .int .i64 0, .int .i64 0, .bool false, .bool false, .int .i64 0, .int .i64 0, .string ⟨#[]⟩] 69).below hb1
  clear hc1 hf1 hz1_0
  obtain ⟨cA, fA, _⟩ := bA
  go_wp2_with fail
  simp [bodyPost, results, Try.results51, go_sem, cA]
  all_goals exact (by repeat (first | with_reducible exact Below.refl _ _ | with_reducible assumption | with_reducible refine Below.al ?_ _ | with_reducible refine Below.drew ?_ | with_reducible refine Below.seq ?_ (by assumption) | (with_reducible refine Below.setCell ?_ ?_ _); rotate_left; focus (first | exact Nat.le_refl _ | (simp; done) | (simp; omega))))
set_option maxHeartbeats 2000000 in
theorem impl_RS_b (s : ByteArray) (src dst : Int) (w : World) (hs : s.size ≤ 1000000000) (h20 : 20 ≤ s.size) (hn : 20 ≤ rsN s) (hm : (s.size : Int) < rsN s) :
    Calls Try.prog 51 #[.string s, .int .i64 src, .int .i64 dst] w fun e w' => e = .returned (.tuple #[.agg #[.int .i64 0, .int .i64 0, .int .i64 0, .int .i64 0, .int .i64 0, .int .i64 0, .int .i64 0, .int .i64 0, .bool false, .bool false, .int .i64 0, .int .i64 0, .string ⟨#[]⟩], .bool false]) ∧ Below w.heap.size w w' := by
  have p12 : 12 < s.size := by omega
  have hq : ((s[12].toNat : Nat) : Int) ≤ 255 := by rw [byt_at s 12 p12]; have := byt_bd s 12; omega
  have hn2 : 20 ≤ ((s[12].toNat : Nat) : Int) / 16 * 4 := by rw [byt_at s 12 p12]; exact hn
  have hm2 : (s.size : Int) < ((s[12].toNat : Nat) : Int) / 16 * 4 := by rw [byt_at s 12 p12]; exact hm
  clear hn hm
  go_enter Try.func51, Try.ntmps51
  (go_wp2_with fail; refine (impl_PseudoHead _ _ _ _).mono ?_; rintro e w1 ⟨rfl, hb1⟩; obtain ⟨hc1, hf1⟩ := bcell hb1; (try (have hz1_0 : w.heap.size < w1.heap.size := (by have := hb1.size; (try simp at this); omega))); (try (have hz1_x : w.heap.size + 1 < w1.heap.size := (by have := hb1.size; (try simp at this); omega))))
  have bA := (Blk.new w [.int .i64 0, .int .i64 0, .int .i64 0, .int .i64 0, .int .i64 0, .int .i64 0, .int .i64 0, .int .i64 0, .bool false, .bool false, .int .i64 0, .int .i64 0, .string ⟨#[]⟩] 69).below hb1
  clear hc1 hf1 hz1_0
  obtain ⟨cA, fA, _⟩ := bA
  go_wp2_with fail
  simp [bodyPost, results, Try.results51, go_sem, cA]
  all_goals exact (by repeat (first | with_reducible exact Below.refl _ _ | with_reducible assumption | with_reducible refine Below.al ?_ _ | with_reducible refine Below.drew ?_ | with_reducible refine Below.seq ?_ (by assumption) | (with_reducible refine Below.setCell ?_ ?_ _); rotate_left; focus (first | exact Nat.le_refl _ | (simp; done) | (simp; omega))))
set_option maxHeartbeats 2000000 in
theorem impl_RS_c (s : ByteArray) (src dst : Int) (w : World) (hs : s.size ≤ 1000000000) (h20 : 20 ≤ s.size) (hn : 20 ≤ rsN s) (hm : rsN s ≤ (s.size : Int)) (hh : headOk src dst s.size = false) :
    Calls Try.prog 51 #[.string s, .int .i64 src, .int .i64 dst] w fun e w' => e = .returned (.tuple #[.agg #[.int .i64 0, .int .i64 0, .int .i64 0, .int .i64 0, .int .i64 0, .int .i64 0, .int .i64 0, .int .i64 0, .bool false, .bool false, .int .i64 0, .int .i64 0, .string ⟨#[]⟩], .bool false]) ∧ Below w.heap.size w w' := by
  have p12 : 12 < s.size := by omega
  have hq : ((s[12].toNat : Nat) : Int) ≤ 255 := by rw [byt_at s 12 p12]; have := byt_bd s 12; omega
  have hn2 : 20 ≤ ((s[12].toNat : Nat) : Int) / 16 * 4 := by rw [byt_at s 12 p12]; exact hn
  have hm2 : ((s[12].toNat : Nat) : Int) / 16 * 4 ≤ (s.size : Int) := by rw [byt_at s 12 p12]; exact hm
  have H := hide (show pseudo src dst s.size = ⟨#[]⟩ by rw [pseudo, hh]; rfl)
  clear hn hm hh
  go_enter Try.func51, Try.ntmps51
  (go_wp2_with fail; refine (impl_PseudoHead _ _ _ _).mono ?_; rintro e w1 ⟨rfl, hb1⟩; obtain ⟨hc1, hf1⟩ := bcell hb1; (try (have hz1_0 : w.heap.size < w1.heap.size := (by have := hb1.size; (try simp at this); omega))); (try (have hz1_x : w.heap.size + 1 < w1.heap.size := (by have := hb1.size; (try simp at this); omega))))
  rw [H.out]
  have bA := (Blk.new w [.int .i64 0, .int .i64 0, .int .i64 0, .int .i64 0, .int .i64 0, .int .i64 0, .int .i64 0, .int .i64 0, .bool false, .bool false, .int .i64 0, .int .i64 0, .string ⟨#[]⟩] 69).below hb1
  clear hc1 hf1 hz1_0
  obtain ⟨cA, fA, _⟩ := bA
  go_wp2_with fail
  simp [bodyPost, results, Try.results51, go_sem, cA]
  all_goals exact (by repeat (first | with_reducible exact Below.refl _ _ | with_reducible assumption | with_reducible refine Below.al ?_ _ | with_reducible refine Below.drew ?_ | with_reducible refine Below.seq ?_ (by assumption) | (with_reducible refine Below.setCell ?_ ?_ _); rotate_left; focus (first | exact Nat.le_refl _ | (simp; done) | (simp; omega))))
set_option maxHeartbeats 2000000 in
theorem impl_RS_d (s : ByteArray) (src dst : Int) (w : World) (hs : s.size ≤ 1000000000) (h20 : 20 ≤ s.size) (hn : 20 ≤ rsN s) (hm : rsN s ≤ (s.size : Int)) (hh : headOk src dst s.size = true) (hz : sumOf (pseudo src dst s.size ++ s) ≠ 0) :
    Calls Try.prog 51 #[.string s, .int .i64 src, .int .i64 dst] w fun e w' => e = .returned (.tuple #[.agg #[.int .i64 0, .int .i64 0, .int .i64 0, .int .i64 0, .int .i64 0, .int .i64 0, .int .i64 0, .int .i64 0, .bool false, .bool false, .int .i64 0, .int .i64 0, .string ⟨#[]⟩], .bool false]) ∧ Below w.heap.size w w' := by
  have p12 : 12 < s.size := by omega
  have hq : ((s[12].toNat : Nat) : Int) ≤ 255 := by rw [byt_at s 12 p12]; have := byt_bd s 12; omega
  have hn2 : 20 ≤ ((s[12].toNat : Nat) : Int) / 16 * 4 := by rw [byt_at s 12 p12]; exact hn
  have hm2 : ((s[12].toNat : Nat) : Int) / 16 * 4 ≤ (s.size : Int) := by rw [byt_at s 12 p12]; exact hm
  obtain ⟨P, HP⟩ : ∃ P, Hid (P = pseudo src dst s.size) := ⟨_, hide rfl⟩
  have hP : P.size = 12 := by rw [HP.out]; exact pseudo_size hh
  obtain ⟨e1, e2, e3⟩ := str_ne0 P (by omega)
  rw [← HP.out] at hz
  have hsz : (P ++ s).size ≤ 1000000012 := by rw [ByteArray.size_append]; omega
  have hz2 := hide (show (sumOf (P ++ s) == 0) = false by simpa using hz)
  have HS := hide hsz
  clear hn hm hh hz hsz
  go_enter Try.func51, Try.ntmps51
  (go_wp2_with fail; refine (impl_PseudoHead _ _ _ _).mono ?_; rintro e w1 ⟨rfl, hb1⟩; obtain ⟨hc1, hf1⟩ := bcell hb1; (try (have hz1_0 : w.heap.size < w1.heap.size := (by have := hb1.size; (try simp at this); omega))); (try (have hz1_x : w.heap.size + 1 < w1.heap.size := (by have := hb1.size; (try simp at this); omega))))
  rw [← HP.out]
  have bA := (Blk.new w [.int .i64 0, .int .i64 0, .int .i64 0, .int .i64 0, .int .i64 0, .int .i64 0, .int .i64 0, .int .i64 0, .bool false, .bool false, .int .i64 0, .int .i64 0, .string ⟨#[]⟩] 69).below hb1
  clear hc1 hf1 hz1_0
  obtain ⟨cA, fA, _⟩ := bA
  go_wp2_with (first | (go_at_call 82; refine (impl_SumRight _ _ (by have := HS.out; omega)).mono ?_; rintro e w2 ⟨rfl, rfl⟩; rw [hz2.out]))
  simp [bodyPost, results, Try.results51, go_sem, cA]
  all_goals exact (by repeat (first | with_reducible exact Below.refl _ _ | with_reducible assumption | with_reducible refine Below.al ?_ _ | with_reducible refine Below.drew ?_ | with_reducible refine Below.seq ?_ (by assumption) | (with_reducible refine Below.setCell ?_ ?_ _); rotate_left; focus (first | exact Nat.le_refl _ | (simp; done) | (simp; omega))))
set_option maxHeartbeats 8000000 in
theorem impl_RS_z (s : ByteArray) (src dst : Int) (w : World) (hs : s.size ≤ 1000000000) (h20 : 20 ≤ s.size) (hn : 20 ≤ rsN s) (hm : rsN s ≤ (s.size : Int)) (hh : headOk src dst s.size = true) (hz : sumOf (pseudo src dst s.size ++ s) = 0) (R : Value) (hR1 : roB (s.extract 20 (rsN s).toNat) = false → R = .tuple #[.agg #[.int .i64 0, .int .i64 0, .int .i64 0, .int .i64 0, .int .i64 0, .int .i64 0, .int .i64 0, .int .i64 0, .bool false, .bool false, .int .i64 0, .int .i64 0, .string ⟨#[]⟩], .bool false]) (hR2 : roB (s.extract 20 (rsN s).toNat) = true → segOk (getV s 0 2) (getV s 2 2) (getV s 4 4) (getV s 8 4) (byt s 13 % 64) (getV s 14 2) (roO (s.extract 20 (rsN s).toNat)).m (roO (s.extract 20 (rsN s).toNat)).s (roO (s.extract 20 (rsN s).toNat)).st (roO (s.extract 20 (rsN s).toNat)).v (roO (s.extract 20 (rsN s).toNat)).y (s.extract (rsN s).toNat s.size) = false → R = .tuple #[.agg #[.int .i64 0, .int .i64 0, .int .i64 0, .int .i64 0, .int .i64 0, .int .i64 0, .int .i64 0, .int .i64 0, .bool false, .bool false, .int .i64 0, .int .i64 0, .string ⟨#[]⟩], .bool false]) (hR3 : roB (s.extract 20 (rsN s).toNat) = true → segOk (getV s 0 2) (getV s 2 2) (getV s 4 4) (getV s 8 4) (byt s 13 % 64) (getV s 14 2) (roO (s.extract 20 (rsN s).toNat)).m (roO (s.extract 20 (rsN s).toNat)).s (roO (s.extract 20 (rsN s).toNat)).st (roO (s.extract 20 (rsN s).toNat)).v (roO (s.extract 20 (rsN s).toNat)).y (s.extract (rsN s).toNat s.size) = true → R = .tuple #[.agg #[.int .i64 (getV s 0 2), .int .i64 (getV s 2 2), .int .i64 (getV s 4 4), .int .i64 (getV s 8 4), .int .i64 (byt s 13 % 64), .int .i64 (getV s 14 2), .int .i64 (roO (s.extract 20 (rsN s).toNat)).m, .int .i64 (roO (s.extract 20 (rsN s).toNat)).s, .bool (roO (s.extract 20 (rsN s).toNat)).k, .bool (roO (s.extract 20 (rsN s).toNat)).st, .int .i64 (roO (s.extract 20 (rsN s).toNat)).v, .int .i64 (roO (s.extract 20 (rsN s).toNat)).y, .string (s.extract (rsN s).toNat s.size)], .bool true]) :
    Calls Try.prog 51 #[.string s, .int .i64 src, .int .i64 dst] w fun e w' => e = .returned (R) ∧ Below w.heap.size w w' := by
  have p12 : 12 < s.size := by omega
  have hq : ((s[12].toNat : Nat) : Int) ≤ 255 := by rw [byt_at s 12 p12]; have := byt_bd s 12; omega
  have p13 : 13 < s.size := by omega
  have hq13 : ((s[13].toNat : Nat) : Int) ≤ 255 := by rw [byt_at s 13 p13]; have := byt_bd s 13; omega
  have hq14 : (0 : Int) ≤ ((s[13].toNat : Nat) : Int) := by omega
  obtain ⟨N, hN⟩ : ∃ N : Nat, rsN s = N := ⟨(rsN s).toNat, by omega⟩
  have hn2 : 20 ≤ ((s[12].toNat : Nat) : Int) / 16 * 4 := by rw [byt_at s 12 p12]; exact hn
  have hm2 : ((s[12].toNat : Nat) : Int) / 16 * 4 ≤ (s.size : Int) := by rw [byt_at s 12 p12]; exact hm
  have hN2 : ((s[12].toNat : Nat) : Int) / 16 * 4 = N := by rw [byt_at s 12 p12]; exact hN
  have hn3 : 20 ≤ N := by omega
  have hm3 : N ≤ s.size := by omega
  have j13 : (13 : Int) < (s.size : Int) := by omega
  have i1 : (20 : Int) ≤ (N : Int) := by omega
  have i2 : (N : Int) ≤ (s.size : Int) := by omega
  obtain ⟨P, HP⟩ : ∃ P, Hid (P = pseudo src dst s.size) := ⟨_, hide rfl⟩
  have hP : P.size = 12 := by rw [HP.out]; exact pseudo_size hh
  obtain ⟨e1, e2, e3⟩ := str_ne0 P (by omega)
  rw [← HP.out] at hz
  have hsz : (P ++ s).size ≤ 1000000012 := by rw [ByteArray.size_append]; omega
  have hz2 := hide (show (sumOf (P ++ s) == 0) = true by simpa using hz)
  have HS := hide hsz
  have hs' : s.size ≤ 140737488355328 := by omega
  have Ho := hide (show (s.extract 20 N).size ≤ 140737488355328 by rw [ByteArray.size_extract]; omega)
  have e13 : bits .and .i64 ((s[13].toNat : Nat) : Int) 63 = byt s 13 % 64 := by rw [and_m6, byt_at s 13 p13]
  have hNt : (rsN s).toNat = N := by omega
  rw [hNt] at hR1 hR2 hR3
  obtain ⟨o, HO⟩ : ∃ o, Hid (o = roO (s.extract 20 N)) := ⟨_, hide rfl⟩
  obtain ⟨B, HB⟩ : ∃ B, Hid (B = roB (s.extract 20 N)) := ⟨_, hide rfl⟩
  rw [← HB.out] at hR1 hR2 hR3
  rw [← HO.out] at hR2 hR3
  have R1 := hide hR1
  have R2 := hide hR2
  have R3 := hide hR3
  clear hR1 hR2 hR3 hNt
  have E13 := hide (show bits .and .i64 (IntKind.i64.wrap ((s[13].toNat : Nat) : Int)) 63 = byt s 13 % 64 by rw [IntWalk.i64_in _ ⟨by omega, by omega⟩, and_m6, byt_at s 13 p13])
  clear hn hm hh hz hsz hN hn2 hm2
  go_enter Try.func51, Try.ntmps51
  (go_wp2_with fail; refine (impl_PseudoHead _ _ _ _).mono ?_; rintro e w1 ⟨rfl, hb1⟩; obtain ⟨hc1, hf1⟩ := bcell hb1; (try (have hz1_0 : w.heap.size < w1.heap.size := (by have := hb1.size; (try simp at this); omega))); (try (have hz1_x : w.heap.size + 1 < w1.heap.size := (by have := hb1.size; (try simp at this); omega))))
  rw [← HP.out]
  have bA := (Blk.new w [.int .i64 0, .int .i64 0, .int .i64 0, .int .i64 0, .int .i64 0, .int .i64 0, .int .i64 0, .int .i64 0, .bool false, .bool false, .int .i64 0, .int .i64 0, .string ⟨#[]⟩] 69).below hb1
  clear hc1 hf1 hz1_0
  go_wp2_with (first | (go_at_call 82; refine (impl_SumRight _ _ (by have := HS.out; omega)).mono ?_; rintro e w2 ⟨rfl, rfl⟩; rw [hz2.out]))
  refine (impl_ReadOptions _ _ Ho.out).mono ?_
  rintro e w3 ⟨rfl, hb3⟩
  rw [← HO.out, ← HB.out]
  have bA3 := bA.below hb3
  have hB3 : Below w.heap.size w w3 := Below.seq (Below.seq (below_new w _) hb1) hb3
  have hlt := bA3.lt
  clear bA hb1 hb3
  go_upto_region 8 with fail
  go_cut [12] (fun s12 wx => s12 = .pointer (some ⟨w3.heap.size + 1, 0, none⟩) ∧ wx = ((w3.alloc (.cells #[.int .i64 o.m, .int .i64 o.s, .bool o.k, .bool o.st, .int .i64 o.v, .int .i64 o.y] 59)).alloc (.cells #[.int .i64 (getV s 0 2), .int .i64 (getV s 2 2), .int .i64 (getV s 4 4), .int .i64 (getV s 8 4), .int .i64 (byt s 13 % 64), .int .i64 (getV s 14 2), .int .i64 o.m, .int .i64 o.s, .bool o.k, .bool o.st, .int .i64 o.v, .int .i64 o.y, .string (s.extract N s.size)] 69)).drew)
  case first =>
    clear bA3 hB3 R1 R2 R3 HB HO HP HS hz2 Ho hP e1 e2 e3 hlt hq hN2 p12 h20
    go_region_held3 (fun W => ∀ j, W.cell? ⟨w3.heap.size, j, none⟩ = [Value.int .i64 o.m, .int .i64 o.s, .bool o.k, .bool o.st, .int .i64 o.v, .int .i64 o.y].toArray[j]?) (first | assumption | exact newA w3 _ _ | exact keepA (below_new _ _) (newA w3 _ _))
      (first | (go_at_call 61; refine (impl_word _ _ _ _ hs').mono ?_; rintro e w4 ⟨rfl, rfl⟩))
    all_goals (go_wp2_with fail; go_meet; exact ⟨rfl, by rw [E13.out]⟩)
  case rest =>
  obtain ⟨rfl, hwx⟩ := hcut
  have hsz3 : (w3.alloc (.cells #[.int .i64 o.m, .int .i64 o.s, .bool o.k, .bool o.st, .int .i64 o.v, .int .i64 o.y] 59)).heap.size = w3.heap.size + 1 := by simp
  have bT := (Blk.new (w3.alloc (.cells #[.int .i64 o.m, .int .i64 o.s, .bool o.k, .bool o.st, .int .i64 o.v, .int .i64 o.y] 59)) [.int .i64 (getV s 0 2), .int .i64 (getV s 2 2), .int .i64 (getV s 4 4), .int .i64 (getV s 8 4), .int .i64 (byt s 13 % 64), .int .i64 (getV s 14 2), .int .i64 o.m, .int .i64 o.s, .bool o.k, .bool o.st, .int .i64 o.v, .int .i64 o.y, .string (s.extract N s.size)] 69).drew
  rw [hsz3] at bT
  have bA4 := ((bA3.alloc (.cells #[.int .i64 o.m, .int .i64 o.s, .bool o.k, .bool o.st, .int .i64 o.v, .int .i64 o.y] 59)).alloc (.cells #[.int .i64 (getV s 0 2), .int .i64 (getV s 2 2), .int .i64 (getV s 4 4), .int .i64 (getV s 8 4), .int .i64 (byt s 13 % 64), .int .i64 (getV s 14 2), .int .i64 o.m, .int .i64 o.s, .bool o.k, .bool o.st, .int .i64 o.v, .int .i64 o.y, .string (s.extract N s.size)] 69)).drew
  have hB4 := Below.drew (Below.al (Below.al hB3 (.cells #[.int .i64 o.m, .int .i64 o.s, .bool o.k, .bool o.st, .int .i64 o.v, .int .i64 o.y] 59)) (.cells #[.int .i64 (getV s 0 2), .int .i64 (getV s 2 2), .int .i64 (getV s 4 4), .int .i64 (getV s 8 4), .int .i64 (byt s 13 % 64), .int .i64 (getV s 14 2), .int .i64 o.m, .int .i64 o.s, .bool o.k, .bool o.st, .int .i64 o.v, .int .i64 o.y, .string (s.extract N s.size)] 69))
  rw [← hwx] at bT bA4 hB4
  clear hsz3 bA3 hB3 hwx
  by_cases hB : B = true
  · rw [hB]
    have HS1 := hide (R2.out hB)
    have HS2 := hide (R3.out hB)
    clear hB R1 R2 R3
    cases hk : segOk (getV s 0 2) (getV s 2 2) (getV s 4 4) (getV s 8 4) (byt s 13 % 64) (getV s 14 2) o.m o.s o.st o.v o.y (s.extract N s.size)
    · have hR := HS1.out hk
      subst hR
      have HK := hide hk
      clear hk HS1 HS2
      have cT0 := bT.cells
      (go_wp2_with fail; refine (impl_SegmentOk _ _ _ _ _ _ _ _ _ _ _ _ _ _).mono ?_; rintro e w5 ⟨rfl, hb5⟩; obtain ⟨hc5, hf5⟩ := bcell hb5; (try (have hz5_4 : w4.heap.size < w5.heap.size := (by have := hb5.size; (try simp at this); omega))); (try (have hz5_3 : w3.heap.size < w5.heap.size := (by have := hb5.size; (try simp at this); omega))); (try (have hz5_2 : w2.heap.size < w5.heap.size := (by have := hb5.size; (try simp at this); omega))); (try (have hz5_1 : w1.heap.size < w5.heap.size := (by have := hb5.size; (try simp at this); omega))); (try (have hz5_0 : w.heap.size < w5.heap.size := (by have := hb5.size; (try simp at this); omega))); (try (have hz5_x : w.heap.size + 1 < w5.heap.size := (by have := hb5.size; (try simp at this); omega))))
      rw [HK.out]
      obtain ⟨cA, fA, _⟩ := bA4.below hb5
      have hB5 := Below.seq hB4 hb5
      clear hc5 hf5 hb5 bA4 bT hB4 cT0
      go_wp2_with fail
      simp [bodyPost, results, Try.results51, go_sem, cA]
      all_goals exact (by repeat (first | with_reducible exact Below.refl _ _ | with_reducible assumption | with_reducible refine Below.al ?_ _ | with_reducible refine Below.drew ?_ | with_reducible refine Below.seq ?_ (by assumption) | (with_reducible refine Below.setCell ?_ ?_ _); rotate_left; focus (first | exact Nat.le_refl _ | (simp; done) | (simp; omega))))
    · have hR := HS2.out hk
      subst hR
      have HK := hide hk
      clear hk HS1 HS2
      have cT0 := bT.cells
      (go_wp2_with fail; refine (impl_SegmentOk _ _ _ _ _ _ _ _ _ _ _ _ _ _).mono ?_; rintro e w5 ⟨rfl, hb5⟩; obtain ⟨hc5, hf5⟩ := bcell hb5; (try (have hz5_4 : w4.heap.size < w5.heap.size := (by have := hb5.size; (try simp at this); omega))); (try (have hz5_3 : w3.heap.size < w5.heap.size := (by have := hb5.size; (try simp at this); omega))); (try (have hz5_2 : w2.heap.size < w5.heap.size := (by have := hb5.size; (try simp at this); omega))); (try (have hz5_1 : w1.heap.size < w5.heap.size := (by have := hb5.size; (try simp at this); omega))); (try (have hz5_0 : w.heap.size < w5.heap.size := (by have := hb5.size; (try simp at this); omega))); (try (have hz5_x : w.heap.size + 1 < w5.heap.size := (by have := hb5.size; (try simp at this); omega))))
      rw [HK.out]
      obtain ⟨cA, fA, _⟩ := bA4.below hb5
      obtain ⟨cT, fT, _⟩ := bT.below hb5
      have hB5 := Below.seq hB4 hb5
      clear hc5 hf5 hb5 bA4 bT hB4 cT0
      go_wp2_with fail
      simp [bodyPost, results, Try.results51, go_sem, cA]
      all_goals exact (by repeat (first | with_reducible exact Below.refl _ _ | with_reducible assumption | with_reducible refine Below.al ?_ _ | with_reducible refine Below.drew ?_ | with_reducible refine Below.seq ?_ (by assumption) | (with_reducible refine Below.setCell ?_ ?_ _); rotate_left; focus (first | exact Nat.le_refl _ | (simp; done) | (simp; omega))))
  · have hB' : B = false := by simpa using hB
    have hR := R1.out hB'
    subst hR
    rw [hB']
    clear hB hB' R1 R2 R3
    obtain ⟨cA, fA, _⟩ := bA4
    clear bT
    go_wp2_with fail
    simp [bodyPost, results, Try.results51, go_sem, cA]
    all_goals exact (by repeat (first | with_reducible exact Below.refl _ _ | with_reducible assumption | with_reducible refine Below.al ?_ _ | with_reducible refine Below.drew ?_ | with_reducible refine Below.seq ?_ (by assumption) | (with_reducible refine Below.setCell ?_ ?_ _); rotate_left; focus (first | exact Nat.le_refl _ | (simp; done) | (simp; omega))))
theorem spec_RS_s (s : ByteArray) (src dst : Int) (w : World) (h : s.size < 20) :
    Calls Try.prog 52 #[.string s, .int .i64 src, .int .i64 dst] w fun e w' => e = .returned (.tuple #[.agg #[.int .i64 0, .int .i64 0, .int .i64 0, .int .i64 0, .int .i64 0, .int .i64 0, .int .i64 0, .int .i64 0, .bool false, .bool false, .int .i64 0, .int .i64 0, .string ⟨#[]⟩], .bool false]) ∧ Below w.heap.size w w' := by
  go_enter Try.func52, Try.ntmps52
  go_wp2_with fail
  simp [bodyPost, results, Try.results52, go_sem]
  exact (by repeat (first | with_reducible exact Below.refl _ _ | with_reducible assumption | with_reducible refine Below.al ?_ _ | with_reducible refine Below.drew ?_ | with_reducible refine Below.seq ?_ (by assumption) | (with_reducible refine Below.setCell ?_ ?_ _); rotate_left; focus (first | exact Nat.le_refl _ | (simp; done) | (simp; omega))))
set_option maxHeartbeats 2000000 in
theorem spec_RS_a (s : ByteArray) (src dst : Int) (w : World) (hs : s.size ≤ 1000000000) (h20 : 20 ≤ s.size) (hn : rsN s < 20) :
    Calls Try.prog 52 #[.string s, .int .i64 src, .int .i64 dst] w fun e w' => e = .returned (.tuple #[.agg #[.int .i64 0, .int .i64 0, .int .i64 0, .int .i64 0, .int .i64 0, .int .i64 0, .int .i64 0, .int .i64 0, .bool false, .bool false, .int .i64 0, .int .i64 0, .string ⟨#[]⟩], .bool false]) ∧ Below w.heap.size w w' := by
  have p12 : 12 < s.size := by omega
  have hq : ((s[12].toNat : Nat) : Int) ≤ 255 := by rw [byt_at s 12 p12]; have := byt_bd s 12; omega
  have hn2 : ((s[12].toNat : Nat) : Int) / 16 * 4 < 20 := by rw [byt_at s 12 p12]; exact hn
  have HI := hide (show rng (((s[12].toNat : Nat) : Int) / 16 * 4) 20 (s.size : Int) = false by rw [rng_false]; omega)
  clear hn
  go_enter Try.func52, Try.ntmps52
  (go_wp2_with fail; refine (spec_PseudoHead _ _ _ _).mono ?_; rintro e w1 ⟨rfl, hb1⟩; obtain ⟨hc1, hf1⟩ := bcell hb1; (try (have hz1_0 : w.heap.size < w1.heap.size := (by have := hb1.size; (try simp at this); omega))); (try (have hz1_x : w.heap.size + 1 < w1.heap.size := (by have := hb1.size; (try simp at this); omega))))
  have bA := (Blk.new w [.int .i64 0, .int .i64 0, .int .i64 0, .int .i64 0, .int .i64 0, .int .i64 0, .int .i64 0, .int .i64 0, .bool false, .bool false, .int .i64 0, .int .i64 0, .string ⟨#[]⟩] 69).below hb1
  clear hc1 hf1 hz1_0
  obtain ⟨cA, fA, _⟩ := bA
  go_wp2_with (first | (go_at_call 63; refine (l1In_any _ _ _ _).mono ?_; rintro e w2 ⟨rfl, rfl⟩; rw [HI.out]))
  simp [bodyPost, results, Try.results52, go_sem, cA]
  all_goals exact (by repeat (first | with_reducible exact Below.refl _ _ | with_reducible assumption | with_reducible refine Below.al ?_ _ | with_reducible refine Below.drew ?_ | with_reducible refine Below.seq ?_ (by assumption) | (with_reducible refine Below.setCell ?_ ?_ _); rotate_left; focus (first | exact Nat.le_refl _ | (simp; done) | (simp; omega))))
set_option maxHeartbeats 2000000 in
theorem spec_RS_b (s : ByteArray) (src dst : Int) (w : World) (hs : s.size ≤ 1000000000) (h20 : 20 ≤ s.size) (hn : 20 ≤ rsN s) (hm : (s.size : Int) < rsN s) :
    Calls Try.prog 52 #[.string s, .int .i64 src, .int .i64 dst] w fun e w' => e = .returned (.tuple #[.agg #[.int .i64 0, .int .i64 0, .int .i64 0, .int .i64 0, .int .i64 0, .int .i64 0, .int .i64 0, .int .i64 0, .bool false, .bool false, .int .i64 0, .int .i64 0, .string ⟨#[]⟩], .bool false]) ∧ Below w.heap.size w w' := by
  have p12 : 12 < s.size := by omega
  have hq : ((s[12].toNat : Nat) : Int) ≤ 255 := by rw [byt_at s 12 p12]; have := byt_bd s 12; omega
  have hn2 : 20 ≤ ((s[12].toNat : Nat) : Int) / 16 * 4 := by rw [byt_at s 12 p12]; exact hn
  have hm2 : (s.size : Int) < ((s[12].toNat : Nat) : Int) / 16 * 4 := by rw [byt_at s 12 p12]; exact hm
  have HI := hide (show rng (((s[12].toNat : Nat) : Int) / 16 * 4) 20 (s.size : Int) = false by rw [rng_false]; omega)
  clear hn hm
  go_enter Try.func52, Try.ntmps52
  (go_wp2_with fail; refine (spec_PseudoHead _ _ _ _).mono ?_; rintro e w1 ⟨rfl, hb1⟩; obtain ⟨hc1, hf1⟩ := bcell hb1; (try (have hz1_0 : w.heap.size < w1.heap.size := (by have := hb1.size; (try simp at this); omega))); (try (have hz1_x : w.heap.size + 1 < w1.heap.size := (by have := hb1.size; (try simp at this); omega))))
  have bA := (Blk.new w [.int .i64 0, .int .i64 0, .int .i64 0, .int .i64 0, .int .i64 0, .int .i64 0, .int .i64 0, .int .i64 0, .bool false, .bool false, .int .i64 0, .int .i64 0, .string ⟨#[]⟩] 69).below hb1
  clear hc1 hf1 hz1_0
  obtain ⟨cA, fA, _⟩ := bA
  go_wp2_with (first | (go_at_call 63; refine (l1In_any _ _ _ _).mono ?_; rintro e w2 ⟨rfl, rfl⟩; rw [HI.out]))
  simp [bodyPost, results, Try.results52, go_sem, cA]
  all_goals exact (by repeat (first | with_reducible exact Below.refl _ _ | with_reducible assumption | with_reducible refine Below.al ?_ _ | with_reducible refine Below.drew ?_ | with_reducible refine Below.seq ?_ (by assumption) | (with_reducible refine Below.setCell ?_ ?_ _); rotate_left; focus (first | exact Nat.le_refl _ | (simp; done) | (simp; omega))))
set_option maxHeartbeats 2000000 in
theorem spec_RS_c (s : ByteArray) (src dst : Int) (w : World) (hs : s.size ≤ 1000000000) (h20 : 20 ≤ s.size) (hn : 20 ≤ rsN s) (hm : rsN s ≤ (s.size : Int)) (hh : headOk src dst s.size = false) :
    Calls Try.prog 52 #[.string s, .int .i64 src, .int .i64 dst] w fun e w' => e = .returned (.tuple #[.agg #[.int .i64 0, .int .i64 0, .int .i64 0, .int .i64 0, .int .i64 0, .int .i64 0, .int .i64 0, .int .i64 0, .bool false, .bool false, .int .i64 0, .int .i64 0, .string ⟨#[]⟩], .bool false]) ∧ Below w.heap.size w w' := by
  have p12 : 12 < s.size := by omega
  have hq : ((s[12].toNat : Nat) : Int) ≤ 255 := by rw [byt_at s 12 p12]; have := byt_bd s 12; omega
  have hn2 : 20 ≤ ((s[12].toNat : Nat) : Int) / 16 * 4 := by rw [byt_at s 12 p12]; exact hn
  have hm2 : ((s[12].toNat : Nat) : Int) / 16 * 4 ≤ (s.size : Int) := by rw [byt_at s 12 p12]; exact hm
  have HI := hide (show rng (((s[12].toNat : Nat) : Int) / 16 * 4) 20 (s.size : Int) = true by rw [rng_true]; omega)
  have H := hide (show pseudo src dst s.size = ⟨#[]⟩ by rw [pseudo, hh]; rfl)
  clear hn hm hh
  go_enter Try.func52, Try.ntmps52
  (go_wp2_with fail; refine (spec_PseudoHead _ _ _ _).mono ?_; rintro e w1 ⟨rfl, hb1⟩; obtain ⟨hc1, hf1⟩ := bcell hb1; (try (have hz1_0 : w.heap.size < w1.heap.size := (by have := hb1.size; (try simp at this); omega))); (try (have hz1_x : w.heap.size + 1 < w1.heap.size := (by have := hb1.size; (try simp at this); omega))))
  rw [H.out]
  have bA := (Blk.new w [.int .i64 0, .int .i64 0, .int .i64 0, .int .i64 0, .int .i64 0, .int .i64 0, .int .i64 0, .int .i64 0, .bool false, .bool false, .int .i64 0, .int .i64 0, .string ⟨#[]⟩] 69).below hb1
  clear hc1 hf1 hz1_0
  obtain ⟨cA, fA, _⟩ := bA
  go_wp2_with (first | (go_at_call 63; refine (l1In_any _ _ _ _).mono ?_; rintro e w2 ⟨rfl, rfl⟩; rw [HI.out]))
  simp [bodyPost, results, Try.results52, go_sem, cA]
  all_goals exact (by repeat (first | with_reducible exact Below.refl _ _ | with_reducible assumption | with_reducible refine Below.al ?_ _ | with_reducible refine Below.drew ?_ | with_reducible refine Below.seq ?_ (by assumption) | (with_reducible refine Below.setCell ?_ ?_ _); rotate_left; focus (first | exact Nat.le_refl _ | (simp; done) | (simp; omega))))
set_option maxHeartbeats 2000000 in
theorem spec_RS_d (s : ByteArray) (src dst : Int) (w : World) (hs : s.size ≤ 1000000000) (h20 : 20 ≤ s.size) (hn : 20 ≤ rsN s) (hm : rsN s ≤ (s.size : Int)) (hh : headOk src dst s.size = true) (hz : sumOf (pseudo src dst s.size ++ s) ≠ 0) :
    Calls Try.prog 52 #[.string s, .int .i64 src, .int .i64 dst] w fun e w' => e = .returned (.tuple #[.agg #[.int .i64 0, .int .i64 0, .int .i64 0, .int .i64 0, .int .i64 0, .int .i64 0, .int .i64 0, .int .i64 0, .bool false, .bool false, .int .i64 0, .int .i64 0, .string ⟨#[]⟩], .bool false]) ∧ Below w.heap.size w w' := by
  have p12 : 12 < s.size := by omega
  have hq : ((s[12].toNat : Nat) : Int) ≤ 255 := by rw [byt_at s 12 p12]; have := byt_bd s 12; omega
  have hn2 : 20 ≤ ((s[12].toNat : Nat) : Int) / 16 * 4 := by rw [byt_at s 12 p12]; exact hn
  have hm2 : ((s[12].toNat : Nat) : Int) / 16 * 4 ≤ (s.size : Int) := by rw [byt_at s 12 p12]; exact hm
  have HI := hide (show rng (((s[12].toNat : Nat) : Int) / 16 * 4) 20 (s.size : Int) = true by rw [rng_true]; omega)
  obtain ⟨P, HP⟩ : ∃ P, Hid (P = pseudo src dst s.size) := ⟨_, hide rfl⟩
  have hP : P.size = 12 := by rw [HP.out]; exact pseudo_size hh
  obtain ⟨e1, e2, e3⟩ := str_ne0 P (by omega)
  rw [← HP.out] at hz
  have hsz : (P ++ s).size ≤ 1000000012 := by rw [ByteArray.size_append]; omega
  have hz2 := hide (show (sumOf (P ++ s) == 0) = false by simpa using hz)
  have HS := hide hsz
  clear hn hm hh hz hsz
  go_enter Try.func52, Try.ntmps52
  (go_wp2_with fail; refine (spec_PseudoHead _ _ _ _).mono ?_; rintro e w1 ⟨rfl, hb1⟩; obtain ⟨hc1, hf1⟩ := bcell hb1; (try (have hz1_0 : w.heap.size < w1.heap.size := (by have := hb1.size; (try simp at this); omega))); (try (have hz1_x : w.heap.size + 1 < w1.heap.size := (by have := hb1.size; (try simp at this); omega))))
  rw [← HP.out]
  have bA := (Blk.new w [.int .i64 0, .int .i64 0, .int .i64 0, .int .i64 0, .int .i64 0, .int .i64 0, .int .i64 0, .int .i64 0, .bool false, .bool false, .int .i64 0, .int .i64 0, .string ⟨#[]⟩] 69).below hb1
  clear hc1 hf1 hz1_0
  obtain ⟨cA, fA, _⟩ := bA
  go_wp2_with (first | (go_at_call 63; refine (l1In_any _ _ _ _).mono ?_; rintro e w2 ⟨rfl, rfl⟩; rw [HI.out]) | (go_at_call 84; refine (spec_SumRight _ _ (by have := HS.out; omega)).mono ?_; rintro e w2 ⟨rfl, rfl⟩; rw [hz2.out]))
  simp [bodyPost, results, Try.results52, go_sem, cA]
  all_goals exact (by repeat (first | with_reducible exact Below.refl _ _ | with_reducible assumption | with_reducible refine Below.al ?_ _ | with_reducible refine Below.drew ?_ | with_reducible refine Below.seq ?_ (by assumption) | (with_reducible refine Below.setCell ?_ ?_ _); rotate_left; focus (first | exact Nat.le_refl _ | (simp; done) | (simp; omega))))
set_option maxHeartbeats 8000000 in
theorem spec_RS_z (s : ByteArray) (src dst : Int) (w : World) (hs : s.size ≤ 1000000000) (h20 : 20 ≤ s.size) (hn : 20 ≤ rsN s) (hm : rsN s ≤ (s.size : Int)) (hh : headOk src dst s.size = true) (hz : sumOf (pseudo src dst s.size ++ s) = 0) (R : Value) (hR1 : roB (s.extract 20 (rsN s).toNat) = false → R = .tuple #[.agg #[.int .i64 0, .int .i64 0, .int .i64 0, .int .i64 0, .int .i64 0, .int .i64 0, .int .i64 0, .int .i64 0, .bool false, .bool false, .int .i64 0, .int .i64 0, .string ⟨#[]⟩], .bool false]) (hR2 : roB (s.extract 20 (rsN s).toNat) = true → segOk (getV s 0 2) (getV s 2 2) (getV s 4 4) (getV s 8 4) (byt s 13 % 64) (getV s 14 2) (roO (s.extract 20 (rsN s).toNat)).m (roO (s.extract 20 (rsN s).toNat)).s (roO (s.extract 20 (rsN s).toNat)).st (roO (s.extract 20 (rsN s).toNat)).v (roO (s.extract 20 (rsN s).toNat)).y (s.extract (rsN s).toNat s.size) = false → R = .tuple #[.agg #[.int .i64 0, .int .i64 0, .int .i64 0, .int .i64 0, .int .i64 0, .int .i64 0, .int .i64 0, .int .i64 0, .bool false, .bool false, .int .i64 0, .int .i64 0, .string ⟨#[]⟩], .bool false]) (hR3 : roB (s.extract 20 (rsN s).toNat) = true → segOk (getV s 0 2) (getV s 2 2) (getV s 4 4) (getV s 8 4) (byt s 13 % 64) (getV s 14 2) (roO (s.extract 20 (rsN s).toNat)).m (roO (s.extract 20 (rsN s).toNat)).s (roO (s.extract 20 (rsN s).toNat)).st (roO (s.extract 20 (rsN s).toNat)).v (roO (s.extract 20 (rsN s).toNat)).y (s.extract (rsN s).toNat s.size) = true → R = .tuple #[.agg #[.int .i64 (getV s 0 2), .int .i64 (getV s 2 2), .int .i64 (getV s 4 4), .int .i64 (getV s 8 4), .int .i64 (byt s 13 % 64), .int .i64 (getV s 14 2), .int .i64 (roO (s.extract 20 (rsN s).toNat)).m, .int .i64 (roO (s.extract 20 (rsN s).toNat)).s, .bool (roO (s.extract 20 (rsN s).toNat)).k, .bool (roO (s.extract 20 (rsN s).toNat)).st, .int .i64 (roO (s.extract 20 (rsN s).toNat)).v, .int .i64 (roO (s.extract 20 (rsN s).toNat)).y, .string (s.extract (rsN s).toNat s.size)], .bool true]) :
    Calls Try.prog 52 #[.string s, .int .i64 src, .int .i64 dst] w fun e w' => e = .returned (R) ∧ Below w.heap.size w w' := by
  have p12 : 12 < s.size := by omega
  have hq : ((s[12].toNat : Nat) : Int) ≤ 255 := by rw [byt_at s 12 p12]; have := byt_bd s 12; omega
  have p13 : 13 < s.size := by omega
  have hq13 : ((s[13].toNat : Nat) : Int) ≤ 255 := by rw [byt_at s 13 p13]; have := byt_bd s 13; omega
  have hq14 : (0 : Int) ≤ ((s[13].toNat : Nat) : Int) := by omega
  obtain ⟨N, hN⟩ : ∃ N : Nat, rsN s = N := ⟨(rsN s).toNat, by omega⟩
  have hn2 : 20 ≤ ((s[12].toNat : Nat) : Int) / 16 * 4 := by rw [byt_at s 12 p12]; exact hn
  have hm2 : ((s[12].toNat : Nat) : Int) / 16 * 4 ≤ (s.size : Int) := by rw [byt_at s 12 p12]; exact hm
  have hN2 : ((s[12].toNat : Nat) : Int) / 16 * 4 = N := by rw [byt_at s 12 p12]; exact hN
  have hn3 : 20 ≤ N := by omega
  have hm3 : N ≤ s.size := by omega
  have j13 : (13 : Int) < (s.size : Int) := by omega
  have i1 : (20 : Int) ≤ (N : Int) := by omega
  have i2 : (N : Int) ≤ (s.size : Int) := by omega
  have HI := hide (show rng (N : Int) 20 (s.size : Int) = true by rw [rng_true]; omega)
  obtain ⟨P, HP⟩ : ∃ P, Hid (P = pseudo src dst s.size) := ⟨_, hide rfl⟩
  have hP : P.size = 12 := by rw [HP.out]; exact pseudo_size hh
  obtain ⟨e1, e2, e3⟩ := str_ne0 P (by omega)
  rw [← HP.out] at hz
  have hsz : (P ++ s).size ≤ 1000000012 := by rw [ByteArray.size_append]; omega
  have hz2 := hide (show (sumOf (P ++ s) == 0) = true by simpa using hz)
  have HS := hide hsz
  have hs' : s.size ≤ 140737488355328 := by omega
  have Ho := hide (show (s.extract 20 N).size ≤ 140737488355328 by rw [ByteArray.size_extract]; omega)
  have e13 : ((s[13].toNat : Nat) : Int) % 64 = byt s 13 % 64 := by rw [byt_at s 13 p13]
  have hNt : (rsN s).toNat = N := by omega
  rw [hNt] at hR1 hR2 hR3
  obtain ⟨o, HO⟩ : ∃ o, Hid (o = roO (s.extract 20 N)) := ⟨_, hide rfl⟩
  obtain ⟨B, HB⟩ : ∃ B, Hid (B = roB (s.extract 20 N)) := ⟨_, hide rfl⟩
  rw [← HB.out] at hR1 hR2 hR3
  rw [← HO.out] at hR2 hR3
  have R1 := hide hR1
  have R2 := hide hR2
  have R3 := hide hR3
  clear hR1 hR2 hR3 hNt
  have E13 := hide (show bits .and .i64 (IntKind.i64.wrap ((s[13].toNat : Nat) : Int)) 63 = byt s 13 % 64 by rw [IntWalk.i64_in _ ⟨by omega, by omega⟩, and_m6, byt_at s 13 p13])
  clear hn hm hh hz hsz hN hn2 hm2
  go_enter Try.func52, Try.ntmps52
  (go_wp2_with fail; refine (spec_PseudoHead _ _ _ _).mono ?_; rintro e w1 ⟨rfl, hb1⟩; obtain ⟨hc1, hf1⟩ := bcell hb1; (try (have hz1_0 : w.heap.size < w1.heap.size := (by have := hb1.size; (try simp at this); omega))); (try (have hz1_x : w.heap.size + 1 < w1.heap.size := (by have := hb1.size; (try simp at this); omega))))
  rw [← HP.out]
  have bA := (Blk.new w [.int .i64 0, .int .i64 0, .int .i64 0, .int .i64 0, .int .i64 0, .int .i64 0, .int .i64 0, .int .i64 0, .bool false, .bool false, .int .i64 0, .int .i64 0, .string ⟨#[]⟩] 69).below hb1
  clear hc1 hf1 hz1_0
  go_wp2_with (first | (go_at_call 63; refine (l1In_any _ _ _ _).mono ?_; rintro e w2 ⟨rfl, rfl⟩; rw [HI.out]) | (go_at_call 84; refine (spec_SumRight _ _ (by have := HS.out; omega)).mono ?_; rintro e w2 ⟨rfl, rfl⟩; rw [hz2.out]))
  refine (spec_ReadOptions _ _ Ho.out).mono ?_
  rintro e w3 ⟨rfl, hb3⟩
  rw [← HO.out, ← HB.out]
  have bA3 := bA.below hb3
  have hB3 : Below w.heap.size w w3 := Below.seq (Below.seq (below_new w _) hb1) hb3
  have hlt := bA3.lt
  clear bA hb1 hb3
  by_cases hB : B = true
  · rw [hB]
    have HS1 := hide (R2.out hB)
    have HS2 := hide (R3.out hB)
    clear hB R1 R2 R3
    cases hk : segOk (getV s 0 2) (getV s 2 2) (getV s 4 4) (getV s 8 4) (byt s 13 % 64) (getV s 14 2) o.m o.s o.st o.v o.y (s.extract N s.size)
    · go_wp2_with fail
      go_region
      all_goals
        have hR := HS1.out hk
        subst hR
        have HK := hide hk
        clear hk HS1 HS2
        go_upto_region 14 with (first | (go_at_call 77; refine (spec_GetWord _ _ _ _ hs').mono ?_; rintro e w1 ⟨rfl, rfl⟩))
        obtain ⟨wx, hwx⟩ : ∃ wx, wx = ((w3.alloc (.cells #[.int .i64 o.m, .int .i64 o.s, .bool o.k, .bool o.st, .int .i64 o.v, .int .i64 o.y] 59)).alloc (.cells #[.int .i64 (getV s 0 2), .int .i64 (getV s 2 2), .int .i64 (getV s 4 4), .int .i64 (getV s 8 4), .int .i64 (byt s 13 % 64), .int .i64 (getV s 14 2), .int .i64 o.m, .int .i64 o.s, .bool o.k, .bool o.st, .int .i64 o.v, .int .i64 o.y, .string (s.extract N s.size)] 69)).drew := ⟨_, rfl⟩
        rw [← hwx]
        have hsz3 : (w3.alloc (.cells #[.int .i64 o.m, .int .i64 o.s, .bool o.k, .bool o.st, .int .i64 o.v, .int .i64 o.y] 59)).heap.size = w3.heap.size + 1 := by simp
        have bT := (Blk.new (w3.alloc (.cells #[.int .i64 o.m, .int .i64 o.s, .bool o.k, .bool o.st, .int .i64 o.v, .int .i64 o.y] 59)) [.int .i64 (getV s 0 2), .int .i64 (getV s 2 2), .int .i64 (getV s 4 4), .int .i64 (getV s 8 4), .int .i64 (byt s 13 % 64), .int .i64 (getV s 14 2), .int .i64 o.m, .int .i64 o.s, .bool o.k, .bool o.st, .int .i64 o.v, .int .i64 o.y, .string (s.extract N s.size)] 69).drew
        rw [hsz3] at bT
        have bA4 := ((bA3.alloc (.cells #[.int .i64 o.m, .int .i64 o.s, .bool o.k, .bool o.st, .int .i64 o.v, .int .i64 o.y] 59)).alloc (.cells #[.int .i64 (getV s 0 2), .int .i64 (getV s 2 2), .int .i64 (getV s 4 4), .int .i64 (getV s 8 4), .int .i64 (byt s 13 % 64), .int .i64 (getV s 14 2), .int .i64 o.m, .int .i64 o.s, .bool o.k, .bool o.st, .int .i64 o.v, .int .i64 o.y, .string (s.extract N s.size)] 69)).drew
        have hB4 := Below.drew (Below.al (Below.al hB3 (.cells #[.int .i64 o.m, .int .i64 o.s, .bool o.k, .bool o.st, .int .i64 o.v, .int .i64 o.y] 59)) (.cells #[.int .i64 (getV s 0 2), .int .i64 (getV s 2 2), .int .i64 (getV s 4 4), .int .i64 (getV s 8 4), .int .i64 (byt s 13 % 64), .int .i64 (getV s 14 2), .int .i64 o.m, .int .i64 o.s, .bool o.k, .bool o.st, .int .i64 o.v, .int .i64 o.y, .string (s.extract N s.size)] 69))
        rw [← hwx] at bT bA4 hB4
        clear hsz3 bA3 hB3 hwx
        have cT0 := bT.cells
        go_wp2_with fail
        refine (spec_SegmentOk _ _ _ _ _ _ _ _ _ _ _ _ _ _).mono ?_
        rintro e w5 ⟨rfl, hb5⟩
        rw [HK.out]
        obtain ⟨cA, fA, _⟩ := bA4.below hb5
        have hB5 := Below.seq hB4 hb5
        clear hb5 bA4 bT hB4 cT0
        go_wp2_with fail
        simp [bodyPost, results, Try.results52, go_sem, cA]
        all_goals exact (by repeat (first | with_reducible exact Below.refl _ _ | with_reducible assumption | with_reducible refine Below.al ?_ _ | with_reducible refine Below.drew ?_ | with_reducible refine Below.seq ?_ (by assumption) | (with_reducible refine Below.setCell ?_ ?_ _); rotate_left; focus (first | exact Nat.le_refl _ | (simp; done) | (simp; omega))))
    · go_wp2_with fail
      go_region
      all_goals
        have hR := HS2.out hk
        subst hR
        have HK := hide hk
        clear hk HS1 HS2
        go_upto_region 14 with (first | (go_at_call 77; refine (spec_GetWord _ _ _ _ hs').mono ?_; rintro e w1 ⟨rfl, rfl⟩))
        obtain ⟨wx, hwx⟩ : ∃ wx, wx = ((w3.alloc (.cells #[.int .i64 o.m, .int .i64 o.s, .bool o.k, .bool o.st, .int .i64 o.v, .int .i64 o.y] 59)).alloc (.cells #[.int .i64 (getV s 0 2), .int .i64 (getV s 2 2), .int .i64 (getV s 4 4), .int .i64 (getV s 8 4), .int .i64 (byt s 13 % 64), .int .i64 (getV s 14 2), .int .i64 o.m, .int .i64 o.s, .bool o.k, .bool o.st, .int .i64 o.v, .int .i64 o.y, .string (s.extract N s.size)] 69)).drew := ⟨_, rfl⟩
        rw [← hwx]
        have hsz3 : (w3.alloc (.cells #[.int .i64 o.m, .int .i64 o.s, .bool o.k, .bool o.st, .int .i64 o.v, .int .i64 o.y] 59)).heap.size = w3.heap.size + 1 := by simp
        have bT := (Blk.new (w3.alloc (.cells #[.int .i64 o.m, .int .i64 o.s, .bool o.k, .bool o.st, .int .i64 o.v, .int .i64 o.y] 59)) [.int .i64 (getV s 0 2), .int .i64 (getV s 2 2), .int .i64 (getV s 4 4), .int .i64 (getV s 8 4), .int .i64 (byt s 13 % 64), .int .i64 (getV s 14 2), .int .i64 o.m, .int .i64 o.s, .bool o.k, .bool o.st, .int .i64 o.v, .int .i64 o.y, .string (s.extract N s.size)] 69).drew
        rw [hsz3] at bT
        have bA4 := ((bA3.alloc (.cells #[.int .i64 o.m, .int .i64 o.s, .bool o.k, .bool o.st, .int .i64 o.v, .int .i64 o.y] 59)).alloc (.cells #[.int .i64 (getV s 0 2), .int .i64 (getV s 2 2), .int .i64 (getV s 4 4), .int .i64 (getV s 8 4), .int .i64 (byt s 13 % 64), .int .i64 (getV s 14 2), .int .i64 o.m, .int .i64 o.s, .bool o.k, .bool o.st, .int .i64 o.v, .int .i64 o.y, .string (s.extract N s.size)] 69)).drew
        have hB4 := Below.drew (Below.al (Below.al hB3 (.cells #[.int .i64 o.m, .int .i64 o.s, .bool o.k, .bool o.st, .int .i64 o.v, .int .i64 o.y] 59)) (.cells #[.int .i64 (getV s 0 2), .int .i64 (getV s 2 2), .int .i64 (getV s 4 4), .int .i64 (getV s 8 4), .int .i64 (byt s 13 % 64), .int .i64 (getV s 14 2), .int .i64 o.m, .int .i64 o.s, .bool o.k, .bool o.st, .int .i64 o.v, .int .i64 o.y, .string (s.extract N s.size)] 69))
        rw [← hwx] at bT bA4 hB4
        clear hsz3 bA3 hB3 hwx
        have cT0 := bT.cells
        go_wp2_with fail
        refine (spec_SegmentOk _ _ _ _ _ _ _ _ _ _ _ _ _ _).mono ?_
        rintro e w5 ⟨rfl, hb5⟩
        rw [HK.out]
        obtain ⟨cA, fA, _⟩ := bA4.below hb5
        obtain ⟨cT, fT, _⟩ := bT.below hb5
        have hB5 := Below.seq hB4 hb5
        clear hb5 bA4 bT hB4 cT0
        go_wp2_with fail
        simp [bodyPost, results, Try.results52, go_sem, cA]
        all_goals exact (by repeat (first | with_reducible exact Below.refl _ _ | with_reducible assumption | with_reducible refine Below.al ?_ _ | with_reducible refine Below.drew ?_ | with_reducible refine Below.seq ?_ (by assumption) | (with_reducible refine Below.setCell ?_ ?_ _); rotate_left; focus (first | exact Nat.le_refl _ | (simp; done) | (simp; omega))))
  · have hB' : B = false := by simpa using hB
    have hR := R1.out hB'
    subst hR
    rw [hB']
    clear hB hB' R1 R2 R3
    go_wp2_with fail
    go_region
    all_goals
      go_upto_region 14 with (first | (go_at_call 77; refine (spec_GetWord _ _ _ _ hs').mono ?_; rintro e w1 ⟨rfl, rfl⟩))
      obtain ⟨wx, hwx⟩ : ∃ wx, wx = ((w3.alloc (.cells #[.int .i64 o.m, .int .i64 o.s, .bool o.k, .bool o.st, .int .i64 o.v, .int .i64 o.y] 59)).alloc (.cells #[.int .i64 (getV s 0 2), .int .i64 (getV s 2 2), .int .i64 (getV s 4 4), .int .i64 (getV s 8 4), .int .i64 (byt s 13 % 64), .int .i64 (getV s 14 2), .int .i64 o.m, .int .i64 o.s, .bool o.k, .bool o.st, .int .i64 o.v, .int .i64 o.y, .string (s.extract N s.size)] 69)).drew := ⟨_, rfl⟩
      rw [← hwx]
      have hsz3 : (w3.alloc (.cells #[.int .i64 o.m, .int .i64 o.s, .bool o.k, .bool o.st, .int .i64 o.v, .int .i64 o.y] 59)).heap.size = w3.heap.size + 1 := by simp
      have bT := (Blk.new (w3.alloc (.cells #[.int .i64 o.m, .int .i64 o.s, .bool o.k, .bool o.st, .int .i64 o.v, .int .i64 o.y] 59)) [.int .i64 (getV s 0 2), .int .i64 (getV s 2 2), .int .i64 (getV s 4 4), .int .i64 (getV s 8 4), .int .i64 (byt s 13 % 64), .int .i64 (getV s 14 2), .int .i64 o.m, .int .i64 o.s, .bool o.k, .bool o.st, .int .i64 o.v, .int .i64 o.y, .string (s.extract N s.size)] 69).drew
      rw [hsz3] at bT
      have bA4 := ((bA3.alloc (.cells #[.int .i64 o.m, .int .i64 o.s, .bool o.k, .bool o.st, .int .i64 o.v, .int .i64 o.y] 59)).alloc (.cells #[.int .i64 (getV s 0 2), .int .i64 (getV s 2 2), .int .i64 (getV s 4 4), .int .i64 (getV s 8 4), .int .i64 (byt s 13 % 64), .int .i64 (getV s 14 2), .int .i64 o.m, .int .i64 o.s, .bool o.k, .bool o.st, .int .i64 o.v, .int .i64 o.y, .string (s.extract N s.size)] 69)).drew
      have hB4 := Below.drew (Below.al (Below.al hB3 (.cells #[.int .i64 o.m, .int .i64 o.s, .bool o.k, .bool o.st, .int .i64 o.v, .int .i64 o.y] 59)) (.cells #[.int .i64 (getV s 0 2), .int .i64 (getV s 2 2), .int .i64 (getV s 4 4), .int .i64 (getV s 8 4), .int .i64 (byt s 13 % 64), .int .i64 (getV s 14 2), .int .i64 o.m, .int .i64 o.s, .bool o.k, .bool o.st, .int .i64 o.v, .int .i64 o.y, .string (s.extract N s.size)] 69))
      rw [← hwx] at bT bA4 hB4
      clear hsz3 bA3 hB3 hwx
      obtain ⟨cA, fA, _⟩ := bA4
      clear bT
      go_wp2_with fail
      simp [bodyPost, results, Try.results52, go_sem, cA]
      all_goals exact (by repeat (first | with_reducible exact Below.refl _ _ | with_reducible assumption | with_reducible refine Below.al ?_ _ | with_reducible refine Below.drew ?_ | with_reducible refine Below.seq ?_ (by assumption) | (with_reducible refine Below.setCell ?_ ?_ _); rotate_left; focus (first | exact Nat.le_refl _ | (simp; done) | (simp; omega))))
end Go.Proofs.Ytahffinjglmhhaa
