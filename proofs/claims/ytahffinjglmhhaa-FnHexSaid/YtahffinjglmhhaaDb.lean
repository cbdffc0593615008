/-
  The draws of structs: frames, messages of ARP, packets, options, segments.
-/
import Derived.Test.YtahffinjglmhhaaDa
import Derived.Test.YtahffinjglmhhaaOk
namespace Go.Proofs.Ytahffinjglmhhaa
open Go.RowKit
set_option linter.unusedVariables false
theorem pickAt (w : World) (t : TypeId) (L : List Int) (p : Int → Prop) (h : ∀ x ∈ L, p x) (b : Nat) (hb : w.heap.size = b) : ∀ j, j < L.length → ∃ x, (w.alloc (.cells (L.map (Value.int .i64)).toArray t)).cell? ⟨b, j, none⟩ = some (.int .i64 x) ∧ p x := by
  subst hb; exact pickLit w t L p h
def FrP (e : Ending) : Prop := ∃ (d s t : Int) (b : ByteArray), e = .returned (.agg #[.int .i64 d, .int .i64 s, .int .i64 t, .string b]) ∧ b.size ≤ 2000
def ArP (e : Ending) : Prop := ∃ (k sh si dh di : Int), e = .returned (.agg #[.int .i64 k, .int .i64 sh, .int .i64 si, .int .i64 dh, .int .i64 di])
def PkP (e : Ending) : Prop := ∃ (s d t p i : Int) (b : ByteArray), e = .returned (.agg #[.int .i64 s, .int .i64 d, .int .i64 t, .int .i64 p, .int .i64 i, .string b]) ∧ b.size ≤ 2000
def OpP (e : Ending) : Prop := ∃ (m s : Int) (k st : Bool) (v y : Int), e = .returned (.agg #[.int .i64 m, .int .i64 s, .bool k, .bool st, .int .i64 v, .int .i64 y])
def SgP (e : Ending) : Prop := ∃ (f t q a l n m s : Int) (k st : Bool) (v y : Int) (b : ByteArray), e = .returned (.agg #[.int .i64 f, .int .i64 t, .int .i64 q, .int .i64 a, .int .i64 l, .int .i64 n, .int .i64 m, .int .i64 s, .bool k, .bool st, .int .i64 v, .int .i64 y, .string b]) ∧ b.size ≤ 2000

theorem St.size1 {g : Nat} {w a : World} {o : Obj} (h : St g (w.alloc o) a) : w.heap.size + 1 ≤ a.heap.size := by
  have := h.1.size
  simpa using this
set_option maxRecDepth 100000 in
set_option maxHeartbeats 1000000 in
theorem l5Frame_any (g : Nat) (w : World) (hc : Cur g w) :
    Calls Try.prog 73 #[.pointer (some ⟨g, 0, none⟩)] w fun e w' => FrP e ∧ St g w w' := by
  have hl := hc.lt
  go_enter Try.func73, Try.ntmps73
  (go_wp2_with fail; refine (l5Mac_any g _ _ (St.refl (hc.alloc _))).mono ?_; rintro e w1 ⟨⟨d, rfl, hx1⟩, h1⟩)
  clear hx1
  (go_wp2_with fail; refine (l5Mac_any g _ _ h1).mono ?_; rintro e w2 ⟨⟨s, rfl, hx2⟩, h2⟩)
  clear hx2
  have hl3 := h2.2.lt
  go_wp2_with fail
  refine (l1PickInt_any g _ 4 _ I64 _ _ (St.alloc h2 _) (by omega) (by simp) (by omega) (by omega) (pickAt _ _ [2048, 2054, 1536, 65535] I64 (i64_list _ (by decide)) _ (by simp))).mono ?_
  rintro e w3 ⟨⟨t, rfl, hx⟩, h3⟩
  clear hx hl3
  (go_wp2_with fail; refine (l1Below_any g _ _ 6 (by omega) h3).mono ?_; rintro e w4 ⟨⟨n, rfl, n0, n1⟩, h4⟩)
  have n2 : n ≤ 5 := by omega
  clear n1
  (go_wp2_with fail; refine (l1Bytes_any g _ h4.2 n (by omega)).mono ?_; rintro e w5 ⟨⟨u, xs, rfl, hr, hlen, hx⟩, h5⟩)
  have hconv := run_string_own (P := Try.prog) Try.underlying22 Try.underlying5 Try.underlying9 hr
  have hz : (strOfNums xs).size ≤ 2000 := by rw [strOfNums_size]; omega
  obtain ⟨b, hb⟩ : ∃ b, b = strOfNums xs := ⟨_, rfl⟩
  rw [← hb] at hconv hz
  have h105 := h4.trans h5
  clear hr hlen hx hb
  have bA := ((Blk.new w [.int .i64 0, .int .i64 0, .int .i64 0, .string ⟨#[]⟩] 43).st h105 (by omega)).alloc (.cells #[.int .i64 d, .int .i64 s, .int .i64 t, .string b] 43)
  have bF := Blk.new w5 [.int .i64 d, .int .i64 s, .int .i64 t, .string b] 43
  have hS := ((St.refl hc).alloc _).trans h105
  have q1 := hS.1.size
  have q2 := St.size1 h105
  have hS1 := hS.alloc (.cells #[.int .i64 d, .int .i64 s, .int .i64 t, .string b] 43)
  clear h1 h105 h2 h3 h4 h5
  (go_wp2_with fail; refine (l1Below_any g _ _ 12 (by omega) (St.refl (hS.2.alloc _))).mono ?_; rintro e w6 ⟨⟨k, rfl, k0, k1⟩, hk⟩)
  clear hconv
  by_cases e0 : k = 0
  · subst e0
    clear k0 k1
    (go_wp2_with fail; refine (l2Word_any g _ _ hk).mono ?_; rintro e w7 ⟨⟨x, rfl, hx7⟩, h7⟩)
    clear hx7
    obtain ⟨cA, fA, _⟩ := bA.st h7 (by omega)
    obtain ⟨cF, fF, _⟩ := bF.st h7 (by omega)
    have hT := hS1.trans h7
    have q3 := hT.1.size
    clear bA bF hS hS1 hk h7
    go_wp2
    simp [bodyPost, results, Try.results73, go_sem, cA]
    all_goals exact ⟨⟨_, _, _, _, rfl, hz⟩, (by repeat (first | with_reducible assumption | (with_reducible refine St.setNew ?_ (by assumption) _ (by first | exact Nat.le_refl _ | (simp; done) | (simp; omega) | omega) _) | with_reducible refine St.drew ?_ | with_reducible refine St.alloc ?_ _))⟩
  by_cases e1 : k = 1
  · subst e1
    clear k0 k1
    (go_wp2_with fail; refine (l2Word_any g _ _ hk).mono ?_; rintro e w7 ⟨⟨x, rfl, hx7⟩, h7⟩)
    clear hx7
    obtain ⟨cA, fA, _⟩ := bA.st h7 (by omega)
    obtain ⟨cF, fF, _⟩ := bF.st h7 (by omega)
    have hT := hS1.trans h7
    have q3 := hT.1.size
    clear bA bF hS hS1 hk h7
    go_wp2
    simp [bodyPost, results, Try.results73, go_sem, cA]
    all_goals exact ⟨⟨_, _, _, _, rfl, hz⟩, (by repeat (first | with_reducible assumption | (with_reducible refine St.setNew ?_ (by assumption) _ (by first | exact Nat.le_refl _ | (simp; done) | (simp; omega) | omega) _) | with_reducible refine St.drew ?_ | with_reducible refine St.alloc ?_ _))⟩
  by_cases e2 : k = 2
  · subst e2
    clear k0 k1
    have hl7 := hk.2.lt
    go_wp2_with fail
    refine (l1PickInt_any g _ 4 _ I64 _ _ (St.alloc hk _) (by omega) (by simp) (by omega) (by omega) (pickAt _ _ [0, 1535, 65536, -1] I64 (i64_list _ (by decide)) _ (by simp))).mono ?_
    rintro e w7 ⟨⟨x, rfl, hx⟩, h7⟩
    clear hx hl7
    obtain ⟨cA, fA, _⟩ := bA.st h7 (by omega)
    obtain ⟨cF, fF, _⟩ := bF.st h7 (by omega)
    have hT := hS1.trans h7
    have q3 := hT.1.size
    clear bA bF hS hS1 hk h7
    go_wp2
    simp [bodyPost, results, Try.results73, go_sem, cA]
    all_goals exact ⟨⟨_, _, _, _, rfl, hz⟩, (by repeat (first | with_reducible assumption | (with_reducible refine St.setNew ?_ (by assumption) _ (by first | exact Nat.le_refl _ | (simp; done) | (simp; omega) | omega) _) | with_reducible refine St.drew ?_ | with_reducible refine St.alloc ?_ _))⟩
  by_cases e3 : k = 3
  · subst e3
    clear k0 k1
    (go_wp2_with fail; refine (l1Below_any g _ _ 4 (by omega) hk).mono ?_; rintro e w7 ⟨⟨m, rfl, m0, m1⟩, h7⟩)
    have m2 : m ≤ 3 := by omega
    clear m1
    go_wp2_with fail
    refine (l5Long_any _ _ (by omega) (by omega)).mono ?_
    rintro e w8 ⟨⟨x, rfl, hx⟩, hb8⟩
    have h8 := h7.seqB hb8
    clear hb8 h7
    obtain ⟨cA, fA, _⟩ := bA.st h8 (by omega)
    obtain ⟨cF, fF, _⟩ := bF.st h8 (by omega)
    have hT := hS1.trans h8
    have q3 := hT.1.size
    clear bA bF hS hS1 hk h8
    go_wp2
    simp [bodyPost, results, Try.results73, go_sem, cA]
    all_goals exact ⟨⟨_, _, _, _, rfl, hx⟩, (by repeat (first | with_reducible assumption | (with_reducible refine St.setNew ?_ (by assumption) _ (by first | exact Nat.le_refl _ | (simp; done) | (simp; omega) | omega) _) | with_reducible refine St.drew ?_ | with_reducible refine St.alloc ?_ _))⟩
  obtain ⟨cA, fA, _⟩ := bA.st hk (by omega)
  obtain ⟨cF, fF, _⟩ := bF.st hk (by omega)
  have hT := hS1.trans hk
  have q3 := hT.1.size
  clear bA bF hS hS1 hk
  go_wp2
  simp [bodyPost, results, Try.results73, go_sem, cA]
  all_goals exact ⟨⟨_, _, _, _, rfl, hz⟩, (by repeat (first | with_reducible assumption | (with_reducible refine St.setNew ?_ (by assumption) _ (by first | exact Nat.le_refl _ | (simp; done) | (simp; omega) | omega) _) | with_reducible refine St.drew ?_ | with_reducible refine St.alloc ?_ _))⟩
set_option maxRecDepth 100000 in
set_option maxHeartbeats 1000000 in
theorem l6Arp_any (g : Nat) (w : World) (hc : Cur g w) :
    Calls Try.prog 57 #[.pointer (some ⟨g, 0, none⟩)] w fun e w' => ArP e ∧ St g w w' := by
  have hl := hc.lt
  go_enter Try.func57, Try.ntmps57
  (go_wp2_with fail; refine (l1Below_any g _ _ 2 (by omega) (St.refl (hc.alloc _))).mono ?_; rintro e w1 ⟨⟨k9, rfl, k90, k91⟩, h1⟩)
  have k92 : k9 ≤ 1 := by omega
  clear k91
  (go_wp2_with fail; refine (l5Mac_any g _ _ h1).mono ?_; rintro e w2 ⟨⟨sh, rfl, hx2⟩, h2⟩)
  clear hx2
  (go_wp2_with fail; refine (l6Ip_any g _ _ h2).mono ?_; rintro e w3 ⟨⟨si, rfl, hx3⟩, h3⟩)
  clear hx3
  (go_wp2_with fail; refine (l5Mac_any g _ _ h3).mono ?_; rintro e w4 ⟨⟨dh, rfl, hx4⟩, h4⟩)
  clear hx4
  (go_wp2_with fail; refine (l6Ip_any g _ _ h4).mono ?_; rintro e w5 ⟨⟨di, rfl, hx5⟩, h5⟩)
  clear hx5
  have bA := ((Blk.new w [.int .i64 0, .int .i64 0, .int .i64 0, .int .i64 0, .int .i64 0] 25).st h5 (by omega)).alloc (.cells #[.int .i64 (1 + k9), .int .i64 sh, .int .i64 si, .int .i64 dh, .int .i64 di] 25)
  have bF := Blk.new w5 [.int .i64 (1 + k9), .int .i64 sh, .int .i64 si, .int .i64 dh, .int .i64 di] 25
  have hS := ((St.refl hc).alloc _).trans h5
  have q1 := hS.1.size
  have q2 := St.size1 h5
  have hS1 := hS.alloc (.cells #[.int .i64 (1 + k9), .int .i64 sh, .int .i64 si, .int .i64 dh, .int .i64 di] 25)
  clear h1 h2 h3 h4 h5
  (go_wp2_with fail; refine (l1Below_any g _ _ 14 (by omega) (St.refl (hS.2.alloc _))).mono ?_; rintro e w6 ⟨⟨k, rfl, k0, k1⟩, hk⟩)
  by_cases e0 : k = 0
  · subst e0
    clear k0 k1
    (go_wp2_with fail; refine (l1Below_any g _ _ 5 (by omega) hk).mono ?_; rintro e w7 ⟨⟨m, rfl, m0, m1⟩, h7⟩)
    have m2 : m ≤ 4 := by omega
    clear m1
    obtain ⟨cA, fA, _⟩ := bA.st h7 (by omega)
    obtain ⟨cF, fF, _⟩ := bF.st h7 (by omega)
    have hT := hS1.trans h7
    have q3 := hT.1.size
    clear bA bF hS hS1 hk h7
    go_wp2
    simp [bodyPost, results, Try.results57, go_sem, cA]
    all_goals exact ⟨⟨_, _, _, _, _, rfl⟩, (by repeat (first | with_reducible assumption | (with_reducible refine St.setNew ?_ (by assumption) _ (by first | exact Nat.le_refl _ | (simp; done) | (simp; omega) | omega) _) | with_reducible refine St.drew ?_ | with_reducible refine St.alloc ?_ _))⟩
  by_cases e1 : k = 1
  · subst e1
    clear k0 k1
    (go_wp2_with fail; refine (l2Word_any g _ _ hk).mono ?_; rintro e w7 ⟨⟨x, rfl, hx7⟩, h7⟩)
    clear hx7
    obtain ⟨cA, fA, _⟩ := bA.st h7 (by omega)
    obtain ⟨cF, fF, _⟩ := bF.st h7 (by omega)
    have hT := hS1.trans h7
    have q3 := hT.1.size
    clear bA bF hS hS1 hk h7
    go_wp2
    simp [bodyPost, results, Try.results57, go_sem, cA]
    all_goals exact ⟨⟨_, _, _, _, _, rfl⟩, (by repeat (first | with_reducible assumption | (with_reducible refine St.setNew ?_ (by assumption) _ (by first | exact Nat.le_refl _ | (simp; done) | (simp; omega) | omega) _) | with_reducible refine St.drew ?_ | with_reducible refine St.alloc ?_ _))⟩
  by_cases e2 : k = 2
  · subst e2
    clear k0 k1
    (go_wp2_with fail; refine (l2Word_any g _ _ hk).mono ?_; rintro e w7 ⟨⟨x, rfl, hx7⟩, h7⟩)
    clear hx7
    obtain ⟨cA, fA, _⟩ := bA.st h7 (by omega)
    obtain ⟨cF, fF, _⟩ := bF.st h7 (by omega)
    have hT := hS1.trans h7
    have q3 := hT.1.size
    clear bA bF hS hS1 hk h7
    go_wp2
    simp [bodyPost, results, Try.results57, go_sem, cA]
    all_goals exact ⟨⟨_, _, _, _, _, rfl⟩, (by repeat (first | with_reducible assumption | (with_reducible refine St.setNew ?_ (by assumption) _ (by first | exact Nat.le_refl _ | (simp; done) | (simp; omega) | omega) _) | with_reducible refine St.drew ?_ | with_reducible refine St.alloc ?_ _))⟩
  by_cases e3 : k = 3
  · subst e3
    clear k0 k1
    (go_wp2_with fail; refine (l2Word_any g _ _ hk).mono ?_; rintro e w7 ⟨⟨x, rfl, hx7⟩, h7⟩)
    clear hx7
    obtain ⟨cA, fA, _⟩ := bA.st h7 (by omega)
    obtain ⟨cF, fF, _⟩ := bF.st h7 (by omega)
    have hT := hS1.trans h7
    have q3 := hT.1.size
    clear bA bF hS hS1 hk h7
    go_wp2
    simp [bodyPost, results, Try.results57, go_sem, cA]
    all_goals exact ⟨⟨_, _, _, _, _, rfl⟩, (by repeat (first | with_reducible assumption | (with_reducible refine St.setNew ?_ (by assumption) _ (by first | exact Nat.le_refl _ | (simp; done) | (simp; omega) | omega) _) | with_reducible refine St.drew ?_ | with_reducible refine St.alloc ?_ _))⟩
  obtain ⟨cA, fA, _⟩ := bA.st hk (by omega)
  obtain ⟨cF, fF, _⟩ := bF.st hk (by omega)
  have hT := hS1.trans hk
  have q3 := hT.1.size
  clear bA bF hS hS1 hk
  go_wp2
  simp [bodyPost, results, Try.results57, go_sem, cA]
  all_goals exact ⟨⟨_, _, _, _, _, rfl⟩, (by repeat (first | with_reducible assumption | (with_reducible refine St.setNew ?_ (by assumption) _ (by first | exact Nat.le_refl _ | (simp; done) | (simp; omega) | omega) _) | with_reducible refine St.drew ?_ | with_reducible refine St.alloc ?_ _))⟩
set_option maxRecDepth 100000 in
set_option maxHeartbeats 1000000 in
theorem l7Packet_any (g : Nat) (w : World) (hc : Cur g w) :
    Calls Try.prog 78 #[.pointer (some ⟨g, 0, none⟩)] w fun e w' => PkP e ∧ St g w w' := by
  have hl := hc.lt
  go_enter Try.func78, Try.ntmps78
  (go_wp2_with fail; refine (l6Ip_any g _ _ (St.refl (hc.alloc _))).mono ?_; rintro e w1 ⟨⟨s, rfl, hx1⟩, h1⟩)
  clear hx1
  (go_wp2_with fail; refine (l6Ip_any g _ _ h1).mono ?_; rintro e w2 ⟨⟨d, rfl, hx2⟩, h2⟩)
  clear hx2
  (go_wp2_with fail; refine (l1Below_any g _ _ 64 (by omega) h2).mono ?_; rintro e w3 ⟨⟨t, rfl, t0, t1⟩, h3⟩)
  have t2 : t ≤ 63 := by omega
  clear t1
  have hl4 := h3.2.lt
  go_wp2_with fail
  refine (l1PickInt_any g _ 4 _ I64 _ _ (St.alloc h3 _) (by omega) (by simp) (by omega) (by omega) (pickAt _ _ [6, 6, 17, 0] I64 (i64_list _ (by decide)) _ (by simp))).mono ?_
  rintro e w4 ⟨⟨p, rfl, hx⟩, h4⟩
  clear hx hl4
  (go_wp2_with fail; refine (l1Below_any g _ _ 65536 (by omega) h4).mono ?_; rintro e w5 ⟨⟨i, rfl, i0, i1⟩, h5⟩)
  have i2 : i ≤ 65535 := by omega
  clear i1
  (go_wp2_with fail; refine (l1Below_any g _ _ 8 (by omega) h5).mono ?_; rintro e w6 ⟨⟨n, rfl, n0, n1⟩, h6⟩)
  have n2 : n ≤ 7 := by omega
  clear n1
  (go_wp2_with fail; refine (l1Bytes_any g _ h6.2 n (by omega)).mono ?_; rintro e w7 ⟨⟨u, xs, rfl, hr, hlen, hx⟩, h7⟩)
  have hconv := run_string_own (P := Try.prog) Try.underlying22 Try.underlying5 Try.underlying9 hr
  have hz : (strOfNums xs).size ≤ 2000 := by rw [strOfNums_size]; omega
  obtain ⟨b, hb⟩ : ∃ b, b = strOfNums xs := ⟨_, rfl⟩
  rw [← hb] at hconv hz
  have h107 := h6.trans h7
  clear hr hlen hx hb
  have bA := ((Blk.new w [.int .i64 0, .int .i64 0, .int .i64 0, .int .i64 0, .int .i64 0, .string ⟨#[]⟩] 50).st h107 (by omega)).alloc (.cells #[.int .i64 s, .int .i64 d, .int .i64 (1 + t), .int .i64 p, .int .i64 i, .string b] 50)
  have bF := Blk.new w7 [.int .i64 s, .int .i64 d, .int .i64 (1 + t), .int .i64 p, .int .i64 i, .string b] 50
  have hS := ((St.refl hc).alloc _).trans h107
  have q1 := hS.1.size
  have q2 := St.size1 h107
  have hS1 := hS.alloc (.cells #[.int .i64 s, .int .i64 d, .int .i64 (1 + t), .int .i64 p, .int .i64 i, .string b] 50)
  clear h1 h107 h2 h3 h4 h5 h6 h7
  (go_wp2_with fail; refine (l1Below_any g _ _ 14 (by omega) (St.refl (hS.2.alloc _))).mono ?_; rintro e w8 ⟨⟨k, rfl, k0, k1⟩, hk⟩)
  clear hconv
  by_cases e0 : k = 0
  · subst e0
    clear k0 k1
    (go_wp2_with fail; refine (l2Word_any g _ _ hk).mono ?_; rintro e w9 ⟨⟨x, rfl, hx9⟩, h9⟩)
    clear hx9
    obtain ⟨cA, fA, _⟩ := bA.st h9 (by omega)
    obtain ⟨cF, fF, _⟩ := bF.st h9 (by omega)
    have hT := hS1.trans h9
    have q3 := hT.1.size
    clear bA bF hS hS1 hk h9
    go_wp2
    simp [bodyPost, results, Try.results78, go_sem, cA]
    all_goals exact ⟨⟨_, _, _, _, _, _, rfl, hz⟩, (by repeat (first | with_reducible assumption | (with_reducible refine St.setNew ?_ (by assumption) _ (by first | exact Nat.le_refl _ | (simp; done) | (simp; omega) | omega) _) | with_reducible refine St.drew ?_ | with_reducible refine St.alloc ?_ _))⟩
  by_cases e1 : k = 1
  · subst e1
    clear k0 k1
    have hl9 := hk.2.lt
    go_wp2_with fail
    refine (l1PickInt_any g _ 3 _ I64 _ _ (St.alloc hk _) (by omega) (by simp) (by omega) (by omega) (pickAt _ _ [0, 255, 256] I64 (i64_list _ (by decide)) _ (by simp))).mono ?_
    rintro e w9 ⟨⟨x, rfl, hx⟩, h9⟩
    clear hx hl9
    obtain ⟨cA, fA, _⟩ := bA.st h9 (by omega)
    obtain ⟨cF, fF, _⟩ := bF.st h9 (by omega)
    have hT := hS1.trans h9
    have q3 := hT.1.size
    clear bA bF hS hS1 hk h9
    go_wp2
    simp [bodyPost, results, Try.results78, go_sem, cA]
    all_goals exact ⟨⟨_, _, _, _, _, _, rfl, hz⟩, (by repeat (first | with_reducible assumption | (with_reducible refine St.setNew ?_ (by assumption) _ (by first | exact Nat.le_refl _ | (simp; done) | (simp; omega) | omega) _) | with_reducible refine St.drew ?_ | with_reducible refine St.alloc ?_ _))⟩
  by_cases e2 : k = 2
  · subst e2
    clear k0 k1
    (go_wp2_with fail; refine (l1Below_any g _ _ 3 (by omega) hk).mono ?_; rintro e w9 ⟨⟨m, rfl, m0, m1⟩, h9⟩)
    have m2 : m ≤ 2 := by omega
    clear m1
    go_wp2_with fail
    refine (l5Long_any _ _ (by omega) (by omega)).mono ?_
    rintro e w10 ⟨⟨x, rfl, hx⟩, hb8⟩
    have h10 := h9.seqB hb8
    clear hb8 h9
    obtain ⟨cA, fA, _⟩ := bA.st h10 (by omega)
    obtain ⟨cF, fF, _⟩ := bF.st h10 (by omega)
    have hT := hS1.trans h10
    have q3 := hT.1.size
    clear bA bF hS hS1 hk h10
    go_wp2
    simp [bodyPost, results, Try.results78, go_sem, cA]
    all_goals exact ⟨⟨_, _, _, _, _, _, rfl, hx⟩, (by repeat (first | with_reducible assumption | (with_reducible refine St.setNew ?_ (by assumption) _ (by first | exact Nat.le_refl _ | (simp; done) | (simp; omega) | omega) _) | with_reducible refine St.drew ?_ | with_reducible refine St.alloc ?_ _))⟩
  by_cases e3 : k = 3
  · subst e3
    clear k0 k1
    (go_wp2_with fail; refine (l2Word_any g _ _ hk).mono ?_; rintro e w9 ⟨⟨x, rfl, hx9⟩, h9⟩)
    clear hx9
    obtain ⟨cA, fA, _⟩ := bA.st h9 (by omega)
    obtain ⟨cF, fF, _⟩ := bF.st h9 (by omega)
    have hT := hS1.trans h9
    have q3 := hT.1.size
    clear bA bF hS hS1 hk h9
    go_wp2
    simp [bodyPost, results, Try.results78, go_sem, cA]
    all_goals exact ⟨⟨_, _, _, _, _, _, rfl, hz⟩, (by repeat (first | with_reducible assumption | (with_reducible refine St.setNew ?_ (by assumption) _ (by first | exact Nat.le_refl _ | (simp; done) | (simp; omega) | omega) _) | with_reducible refine St.drew ?_ | with_reducible refine St.alloc ?_ _))⟩
  obtain ⟨cA, fA, _⟩ := bA.st hk (by omega)
  obtain ⟨cF, fF, _⟩ := bF.st hk (by omega)
  have hT := hS1.trans hk
  have q3 := hT.1.size
  clear bA bF hS hS1 hk
  go_wp2
  simp [bodyPost, results, Try.results78, go_sem, cA]
  all_goals exact ⟨⟨_, _, _, _, _, _, rfl, hz⟩, (by repeat (first | with_reducible assumption | (with_reducible refine St.setNew ?_ (by assumption) _ (by first | exact Nat.le_refl _ | (simp; done) | (simp; omega) | omega) _) | with_reducible refine St.drew ?_ | with_reducible refine St.alloc ?_ _))⟩
set_option maxRecDepth 100000 in
set_option maxHeartbeats 1000000 in
theorem l8Options_any (g : Nat) (w : World) (hc : Cur g w) :
    Calls Try.prog 87 #[.pointer (some ⟨g, 0, none⟩)] w fun e w' => OpP e ∧ St g w w' := by
  have hl := hc.lt
  go_enter Try.func87, Try.ntmps87
  go_wp2_with fail
  refine (spec_NoOptions _).mono ?_
  rintro e w1 ⟨rfl, hb1⟩
  have h1 := St.seqB (St.alloc (St.refl hc) _) hb1
  have q1 := h1.1.size
  have q2 := hb1.size
  simp at q2
  have bA := ((Blk.new w [.int .i64 0, .int .i64 0, .bool false, .bool false, .int .i64 0, .int .i64 0] 59).below hb1).alloc (.cells #[.int .i64 0, .int .i64 (-1), .bool false, .bool false, .int .i64 0, .int .i64 0] 59)
  have bF := Blk.new w1 [.int .i64 0, .int .i64 (-1), .bool false, .bool false, .int .i64 0, .int .i64 0] 59
  have hS := h1.alloc (.cells #[.int .i64 0, .int .i64 (-1), .bool false, .bool false, .int .i64 0, .int .i64 0] 59)
  clear hb1
  (go_wp2_with fail; refine (l1Once_any g _ _ 3 (by omega) (St.refl hS.2)).mono ?_; rintro e w2 ⟨⟨p, rfl⟩, h2⟩)
  have bA2 := bA.st h2 (by omega)
  have bF2 := bF.st h2 (by omega)
  have hS2 := hS.trans h2
  clear bA bF h2 hS h1
  have hl2 := hS2.2.lt
  have q3 := hS2.1.size
  have q5 := bF2.lt
  cases p
  · go_wp2_with fail
    refine (l1PickInt_any g _ 6 _ I64 _ _ (St.alloc (St.refl hS2.2) _) (by omega) (by simp) (by omega) (by omega) (pickLit _ _ [536, 1460, 1300, 64, 65535, 1] I64 (i64_list _ (by decide)))).mono ?_
    rintro e w3 ⟨⟨m, rfl, hx⟩, h3⟩
    have nA : w.heap.size ≠ g := by omega
    have nF : w1.heap.size ≠ g := by omega
    have xA3 := Blk.st bA2 h3 nA
    have xF3 := Blk.st bF2 h3 nF
    clear nA nF
    have cells3 := xF3.cells
    have frz3 := xF3.frz
    have bA3 := xA3.other (q := w1.heap.size) (by omega) 0 (.int .i64 m)
    have bF3 := xF3.set 0 (.int .i64 m) (by simp)
    clear xA3 xF3
    have hS3 := St.setNew (hS2.trans h3) (by assumption) ⟨w1.heap.size, 0, none⟩ (by assumption) (.int .i64 m)
    simp only [List.set] at bF3
    clear bA2 bF2 h3 hS2 hx hl2
    have bA2 := bA3
    have bF2 := bF3
    have hS2 := hS3
    clear bA3 bF3 hS3
    (go_wp2_with fail; refine (l1Once_any g _ _ 2 (by omega) (St.refl hS2.2)).mono ?_; rintro e w4 ⟨⟨p, rfl⟩, h4⟩)
    have bA4 := bA2.st h4 (by omega)
    have bF4 := bF2.st h4 (by omega)
    have hS4 := hS2.trans h4
    clear bA2 bF2 h4 hS2
    cases p
    · have bA3 := bA4
      have bF3 := bF4
      have hS3 := hS4
      clear bA4 bF4 hS4
      (go_wp2_with fail; refine (l1Once_any g _ _ 2 (by omega) (St.refl hS3.2)).mono ?_; rintro e w6 ⟨⟨c, rfl⟩, h6⟩)
      have bA6 := (bA3.st h6 (by omega)).other (q := w1.heap.size) (by omega) 2 (.bool c)
      have bF6 := (bF3.st h6 (by omega)).set 2 (.bool c) (by simp)
      have hS6 := St.setNew (hS3.trans h6) (by assumption) ⟨w1.heap.size, 2, none⟩ (by assumption) (.bool c)
      have cells6 := (bF3.st h6 (by omega)).cells
      have frz6 := (bF3.st h6 (by omega)).frz
      clear bA3 bF3 h6 hS3
      simp only [List.set] at bF6
      (go_wp2_with fail; refine (l1Once_any g _ _ 2 (by omega) (St.refl hS6.2)).mono ?_; rintro e w7 ⟨⟨p, rfl⟩, h7⟩)
      have bA7 := bA6.st h7 (by omega)
      have bF7 := bF6.st h7 (by omega)
      have hS7 := hS6.trans h7
      clear bA6 bF6 h7 hS6 cells6 frz6
      cases p
      · obtain ⟨cA, fA, _⟩ := bA7
        obtain ⟨cF, fF, _⟩ := bF7
        go_wp2
        simp [bodyPost, results, Try.results87, go_sem, cA]
        all_goals exact ⟨⟨_, _, _, _, _, _, rfl⟩, (by repeat (first | with_reducible assumption | (with_reducible refine St.setNew ?_ (by assumption) _ (by first | exact Nat.le_refl _ | (simp; done) | (simp; omega) | omega) _) | with_reducible refine St.drew ?_ | with_reducible refine St.alloc ?_ _))⟩
      · have cells7 := bF7.cells
        have frz7 := bF7.frz
        have bA8 := bA7.other (q := w1.heap.size) (by omega) 3 (.bool true)
        have bF8 := bF7.set 3 (.bool true) (by simp)
        have hS8 := St.setNew hS7 (by assumption) ⟨w1.heap.size, 3, none⟩ (by assumption) (.bool true)
        simp only [List.set] at bF8
        (go_wp2_with fail; refine (l2Deep_any g _ _ (St.refl hS8.2)).mono ?_; rintro e w9 ⟨⟨v, rfl, hx⟩, h9⟩)
        clear hx cells7 frz7
        have cells9 := (bF8.st h9 (by omega)).cells
        have frz9 := (bF8.st h9 (by omega)).frz
        have bA9 := (bA8.st h9 (by omega)).other (q := w1.heap.size) (by omega) 4 (.int .i64 v)
        have bF9 := (bF8.st h9 (by omega)).set 4 (.int .i64 v) (by simp)
        have hS9 := St.setNew (hS8.trans h9) (by assumption) ⟨w1.heap.size, 4, none⟩ (by assumption) (.int .i64 v)
        simp only [List.set] at bF9
        clear bA7 bF7 bA8 bF8 hS7 hS8 h9
        (go_wp2_with fail; refine (l2Deep_any g _ _ (St.refl hS9.2)).mono ?_; rintro e w10 ⟨⟨y, rfl, hx⟩, h10⟩)
        clear hx cells9 frz9
        obtain ⟨cA, fA, _⟩ := bA9.st h10 (by omega)
        obtain ⟨cF, fF, _⟩ := bF9.st h10 (by omega)
        have hS10 := hS9.trans h10
        have q10 := hS10.1.size
        clear bA9 bF9 hS9 h10
        go_wp2
        simp [bodyPost, results, Try.results87, go_sem, cA]
        all_goals exact ⟨⟨_, _, _, _, _, _, rfl⟩, (by repeat (first | with_reducible assumption | (with_reducible refine St.setNew ?_ (by assumption) _ (by first | exact Nat.le_refl _ | (simp; done) | (simp; omega) | omega) _) | with_reducible refine St.drew ?_ | with_reducible refine St.alloc ?_ _))⟩
    · (go_wp2_with fail; refine (l1Below_any g _ _ 15 (by omega) (St.refl hS4.2)).mono ?_; rintro e w5 ⟨⟨s, rfl, s0, s1⟩, h5⟩)
      clear s0 s1
      have cells5 := (bF4.st h5 (by omega)).cells
      have frz5 := (bF4.st h5 (by omega)).frz
      have bA3 := (bA4.st h5 (by omega)).other (q := w1.heap.size) (by omega) 1 (.int .i64 s)
      have bF3 := (bF4.st h5 (by omega)).set 1 (.int .i64 s) (by simp)
      have hS3 := St.setNew (hS4.trans h5) (by assumption) ⟨w1.heap.size, 1, none⟩ (by assumption) (.int .i64 s)
      simp only [List.set] at bF3
      clear bA4 bF4 h5 hS4
      (go_wp2_with fail; refine (l1Once_any g _ _ 2 (by omega) (St.refl hS3.2)).mono ?_; rintro e w6 ⟨⟨c, rfl⟩, h6⟩)
      have bA6 := (bA3.st h6 (by omega)).other (q := w1.heap.size) (by omega) 2 (.bool c)
      have bF6 := (bF3.st h6 (by omega)).set 2 (.bool c) (by simp)
      have hS6 := St.setNew (hS3.trans h6) (by assumption) ⟨w1.heap.size, 2, none⟩ (by assumption) (.bool c)
      have cells6 := (bF3.st h6 (by omega)).cells
      have frz6 := (bF3.st h6 (by omega)).frz
      clear bA3 bF3 h6 hS3
      simp only [List.set] at bF6
      (go_wp2_with fail; refine (l1Once_any g _ _ 2 (by omega) (St.refl hS6.2)).mono ?_; rintro e w7 ⟨⟨p, rfl⟩, h7⟩)
      have bA7 := bA6.st h7 (by omega)
      have bF7 := bF6.st h7 (by omega)
      have hS7 := hS6.trans h7
      clear bA6 bF6 h7 hS6 cells6 frz6
      cases p
      · obtain ⟨cA, fA, _⟩ := bA7
        obtain ⟨cF, fF, _⟩ := bF7
        go_wp2
        simp [bodyPost, results, Try.results87, go_sem, cA]
        all_goals exact ⟨⟨_, _, _, _, _, _, rfl⟩, (by repeat (first | with_reducible assumption | (with_reducible refine St.setNew ?_ (by assumption) _ (by first | exact Nat.le_refl _ | (simp; done) | (simp; omega) | omega) _) | with_reducible refine St.drew ?_ | with_reducible refine St.alloc ?_ _))⟩
      · have cells7 := bF7.cells
        have frz7 := bF7.frz
        have bA8 := bA7.other (q := w1.heap.size) (by omega) 3 (.bool true)
        have bF8 := bF7.set 3 (.bool true) (by simp)
        have hS8 := St.setNew hS7 (by assumption) ⟨w1.heap.size, 3, none⟩ (by assumption) (.bool true)
        simp only [List.set] at bF8
        (go_wp2_with fail; refine (l2Deep_any g _ _ (St.refl hS8.2)).mono ?_; rintro e w9 ⟨⟨v, rfl, hx⟩, h9⟩)
        clear hx cells7 frz7
        have cells9 := (bF8.st h9 (by omega)).cells
        have frz9 := (bF8.st h9 (by omega)).frz
        have bA9 := (bA8.st h9 (by omega)).other (q := w1.heap.size) (by omega) 4 (.int .i64 v)
        have bF9 := (bF8.st h9 (by omega)).set 4 (.int .i64 v) (by simp)
        have hS9 := St.setNew (hS8.trans h9) (by assumption) ⟨w1.heap.size, 4, none⟩ (by assumption) (.int .i64 v)
        simp only [List.set] at bF9
        clear bA7 bF7 bA8 bF8 hS7 hS8 h9
        (go_wp2_with fail; refine (l2Deep_any g _ _ (St.refl hS9.2)).mono ?_; rintro e w10 ⟨⟨y, rfl, hx⟩, h10⟩)
        clear hx cells9 frz9
        obtain ⟨cA, fA, _⟩ := bA9.st h10 (by omega)
        obtain ⟨cF, fF, _⟩ := bF9.st h10 (by omega)
        have hS10 := hS9.trans h10
        have q10 := hS10.1.size
        clear bA9 bF9 hS9 h10
        go_wp2
        simp [bodyPost, results, Try.results87, go_sem, cA]
        all_goals exact ⟨⟨_, _, _, _, _, _, rfl⟩, (by repeat (first | with_reducible assumption | (with_reducible refine St.setNew ?_ (by assumption) _ (by first | exact Nat.le_refl _ | (simp; done) | (simp; omega) | omega) _) | with_reducible refine St.drew ?_ | with_reducible refine St.alloc ?_ _))⟩
  · skip
    (go_wp2_with fail; refine (l1Once_any g _ _ 2 (by omega) (St.refl hS2.2)).mono ?_; rintro e w4 ⟨⟨p, rfl⟩, h4⟩)
    have bA4 := bA2.st h4 (by omega)
    have bF4 := bF2.st h4 (by omega)
    have hS4 := hS2.trans h4
    clear bA2 bF2 h4 hS2
    cases p
    · have bA3 := bA4
      have bF3 := bF4
      have hS3 := hS4
      clear bA4 bF4 hS4
      (go_wp2_with fail; refine (l1Once_any g _ _ 2 (by omega) (St.refl hS3.2)).mono ?_; rintro e w6 ⟨⟨c, rfl⟩, h6⟩)
      have bA6 := (bA3.st h6 (by omega)).other (q := w1.heap.size) (by omega) 2 (.bool c)
      have bF6 := (bF3.st h6 (by omega)).set 2 (.bool c) (by simp)
      have hS6 := St.setNew (hS3.trans h6) (by assumption) ⟨w1.heap.size, 2, none⟩ (by assumption) (.bool c)
      have cells6 := (bF3.st h6 (by omega)).cells
      have frz6 := (bF3.st h6 (by omega)).frz
      clear bA3 bF3 h6 hS3
      simp only [List.set] at bF6
      (go_wp2_with fail; refine (l1Once_any g _ _ 2 (by omega) (St.refl hS6.2)).mono ?_; rintro e w7 ⟨⟨p, rfl⟩, h7⟩)
      have bA7 := bA6.st h7 (by omega)
      have bF7 := bF6.st h7 (by omega)
      have hS7 := hS6.trans h7
      clear bA6 bF6 h7 hS6 cells6 frz6
      cases p
      · obtain ⟨cA, fA, _⟩ := bA7
        obtain ⟨cF, fF, _⟩ := bF7
        go_wp2
        simp [bodyPost, results, Try.results87, go_sem, cA]
        all_goals exact ⟨⟨_, _, _, _, _, _, rfl⟩, (by repeat (first | with_reducible assumption | (with_reducible refine St.setNew ?_ (by assumption) _ (by first | exact Nat.le_refl _ | (simp; done) | (simp; omega) | omega) _) | with_reducible refine St.drew ?_ | with_reducible refine St.alloc ?_ _))⟩
      · have cells7 := bF7.cells
        have frz7 := bF7.frz
        have bA8 := bA7.other (q := w1.heap.size) (by omega) 3 (.bool true)
        have bF8 := bF7.set 3 (.bool true) (by simp)
        have hS8 := St.setNew hS7 (by assumption) ⟨w1.heap.size, 3, none⟩ (by assumption) (.bool true)
        simp only [List.set] at bF8
        (go_wp2_with fail; refine (l2Deep_any g _ _ (St.refl hS8.2)).mono ?_; rintro e w9 ⟨⟨v, rfl, hx⟩, h9⟩)
        clear hx cells7 frz7
        have cells9 := (bF8.st h9 (by omega)).cells
        have frz9 := (bF8.st h9 (by omega)).frz
        have bA9 := (bA8.st h9 (by omega)).other (q := w1.heap.size) (by omega) 4 (.int .i64 v)
        have bF9 := (bF8.st h9 (by omega)).set 4 (.int .i64 v) (by simp)
        have hS9 := St.setNew (hS8.trans h9) (by assumption) ⟨w1.heap.size, 4, none⟩ (by assumption) (.int .i64 v)
        simp only [List.set] at bF9
        clear bA7 bF7 bA8 bF8 hS7 hS8 h9
        (go_wp2_with fail; refine (l2Deep_any g _ _ (St.refl hS9.2)).mono ?_; rintro e w10 ⟨⟨y, rfl, hx⟩, h10⟩)
        clear hx cells9 frz9
        obtain ⟨cA, fA, _⟩ := bA9.st h10 (by omega)
        obtain ⟨cF, fF, _⟩ := bF9.st h10 (by omega)
        have hS10 := hS9.trans h10
        have q10 := hS10.1.size
        clear bA9 bF9 hS9 h10
        go_wp2
        simp [bodyPost, results, Try.results87, go_sem, cA]
        all_goals exact ⟨⟨_, _, _, _, _, _, rfl⟩, (by repeat (first | with_reducible assumption | (with_reducible refine St.setNew ?_ (by assumption) _ (by first | exact Nat.le_refl _ | (simp; done) | (simp; omega) | omega) _) | with_reducible refine St.drew ?_ | with_reducible refine St.alloc ?_ _))⟩
    · (go_wp2_with fail; refine (l1Below_any g _ _ 15 (by omega) (St.refl hS4.2)).mono ?_; rintro e w5 ⟨⟨s, rfl, s0, s1⟩, h5⟩)
      clear s0 s1
      have cells5 := (bF4.st h5 (by omega)).cells
      have frz5 := (bF4.st h5 (by omega)).frz
      have bA3 := (bA4.st h5 (by omega)).other (q := w1.heap.size) (by omega) 1 (.int .i64 s)
      have bF3 := (bF4.st h5 (by omega)).set 1 (.int .i64 s) (by simp)
      have hS3 := St.setNew (hS4.trans h5) (by assumption) ⟨w1.heap.size, 1, none⟩ (by assumption) (.int .i64 s)
      simp only [List.set] at bF3
      clear bA4 bF4 h5 hS4
      (go_wp2_with fail; refine (l1Once_any g _ _ 2 (by omega) (St.refl hS3.2)).mono ?_; rintro e w6 ⟨⟨c, rfl⟩, h6⟩)
      have bA6 := (bA3.st h6 (by omega)).other (q := w1.heap.size) (by omega) 2 (.bool c)
      have bF6 := (bF3.st h6 (by omega)).set 2 (.bool c) (by simp)
      have hS6 := St.setNew (hS3.trans h6) (by assumption) ⟨w1.heap.size, 2, none⟩ (by assumption) (.bool c)
      have cells6 := (bF3.st h6 (by omega)).cells
      have frz6 := (bF3.st h6 (by omega)).frz
      clear bA3 bF3 h6 hS3
      simp only [List.set] at bF6
      (go_wp2_with fail; refine (l1Once_any g _ _ 2 (by omega) (St.refl hS6.2)).mono ?_; rintro e w7 ⟨⟨p, rfl⟩, h7⟩)
      have bA7 := bA6.st h7 (by omega)
      have bF7 := bF6.st h7 (by omega)
      have hS7 := hS6.trans h7
      clear bA6 bF6 h7 hS6 cells6 frz6
      cases p
      · obtain ⟨cA, fA, _⟩ := bA7
        obtain ⟨cF, fF, _⟩ := bF7
        go_wp2
        simp [bodyPost, results, Try.results87, go_sem, cA]
        all_goals exact ⟨⟨_, _, _, _, _, _, rfl⟩, (by repeat (first | with_reducible assumption | (with_reducible refine St.setNew ?_ (by assumption) _ (by first | exact Nat.le_refl _ | (simp; done) | (simp; omega) | omega) _) | with_reducible refine St.drew ?_ | with_reducible refine St.alloc ?_ _))⟩
      · have cells7 := bF7.cells
        have frz7 := bF7.frz
        have bA8 := bA7.other (q := w1.heap.size) (by omega) 3 (.bool true)
        have bF8 := bF7.set 3 (.bool true) (by simp)
        have hS8 := St.setNew hS7 (by assumption) ⟨w1.heap.size, 3, none⟩ (by assumption) (.bool true)
        simp only [List.set] at bF8
        (go_wp2_with fail; refine (l2Deep_any g _ _ (St.refl hS8.2)).mono ?_; rintro e w9 ⟨⟨v, rfl, hx⟩, h9⟩)
        clear hx cells7 frz7
        have cells9 := (bF8.st h9 (by omega)).cells
        have frz9 := (bF8.st h9 (by omega)).frz
        have bA9 := (bA8.st h9 (by omega)).other (q := w1.heap.size) (by omega) 4 (.int .i64 v)
        have bF9 := (bF8.st h9 (by omega)).set 4 (.int .i64 v) (by simp)
        have hS9 := St.setNew (hS8.trans h9) (by assumption) ⟨w1.heap.size, 4, none⟩ (by assumption) (.int .i64 v)
        simp only [List.set] at bF9
        clear bA7 bF7 bA8 bF8 hS7 hS8 h9
        (go_wp2_with fail; refine (l2Deep_any g _ _ (St.refl hS9.2)).mono ?_; rintro e w10 ⟨⟨y, rfl, hx⟩, h10⟩)
        clear hx cells9 frz9
        obtain ⟨cA, fA, _⟩ := bA9.st h10 (by omega)
        obtain ⟨cF, fF, _⟩ := bF9.st h10 (by omega)
        have hS10 := hS9.trans h10
        have q10 := hS10.1.size
        clear bA9 bF9 hS9 h10
        go_wp2
        simp [bodyPost, results, Try.results87, go_sem, cA]
        all_goals exact ⟨⟨_, _, _, _, _, _, rfl⟩, (by repeat (first | with_reducible assumption | (with_reducible refine St.setNew ?_ (by assumption) _ (by first | exact Nat.le_refl _ | (simp; done) | (simp; omega) | omega) _) | with_reducible refine St.drew ?_ | with_reducible refine St.alloc ?_ _))⟩
set_option maxRecDepth 100000 in
set_option maxHeartbeats 1000000 in
theorem l8Bent_any (g : Nat) (w : World) (hc : Cur g w) :
    Calls Try.prog 86 #[.pointer (some ⟨g, 0, none⟩)] w fun e w' => OpP e ∧ St g w w' := by
  have hl := hc.lt
  go_enter Try.func86, Try.ntmps86
  (go_wp2_with fail; refine (l8Options_any g _ (hc.alloc _)).mono ?_; rintro e w1 ⟨⟨m, s, c, st, v, y, rfl⟩, h1⟩)
  have bA := ((Blk.new w [.int .i64 0, .int .i64 0, .bool false, .bool false, .int .i64 0, .int .i64 0] 59).st h1 (by omega)).alloc (.cells #[.int .i64 m, .int .i64 s, .bool c, .bool st, .int .i64 v, .int .i64 y] 59)
  have bF := Blk.new w1 [.int .i64 m, .int .i64 s, .bool c, .bool st, .int .i64 v, .int .i64 y] 59
  have hS := ((St.refl hc).alloc _).trans h1
  have q1 := hS.1.size
  have q2 := St.size1 h1
  have hS1 := hS.alloc (.cells #[.int .i64 m, .int .i64 s, .bool c, .bool st, .int .i64 v, .int .i64 y] 59)
  clear h1
  (go_wp2_with fail; refine (l1Below_any g _ _ 10 (by omega) (St.refl (hS.2.alloc _))).mono ?_; rintro e w2 ⟨⟨k, rfl, k0, k1⟩, hk⟩)
  by_cases e0 : k = 0
  · subst e0
    clear k0 k1
    (go_wp2_with fail; refine (l2Word_any g _ _ hk).mono ?_; rintro e w3 ⟨⟨x, rfl, hx3⟩, h3⟩)
    clear hx3
    obtain ⟨cA, fA, _⟩ := bA.st h3 (by omega)
    obtain ⟨cF, fF, _⟩ := bF.st h3 (by omega)
    have hT := hS1.trans h3
    have q3 := hT.1.size
    clear bA bF hS hS1 hk h3
    go_wp2
    simp [bodyPost, results, Try.results86, go_sem, cA]
    all_goals exact ⟨⟨_, _, _, _, _, _, rfl⟩, (by repeat (first | with_reducible assumption | (with_reducible refine St.setNew ?_ (by assumption) _ (by first | exact Nat.le_refl _ | (simp; done) | (simp; omega) | omega) _) | with_reducible refine St.drew ?_ | with_reducible refine St.alloc ?_ _))⟩
  by_cases e1 : k = 1
  · subst e1
    clear k0 k1
    have hl3 := hk.2.lt
    go_wp2_with fail
    refine (l1PickInt_any g _ 4 _ I64 _ _ (St.alloc hk _) (by omega) (by simp) (by omega) (by omega) (pickAt _ _ [-2, -1, 14, 15] I64 (i64_list _ (by decide)) _ (by simp))).mono ?_
    rintro e w3 ⟨⟨x, rfl, hx⟩, h3⟩
    clear hx hl3
    obtain ⟨cA, fA, _⟩ := bA.st h3 (by omega)
    obtain ⟨cF, fF, _⟩ := bF.st h3 (by omega)
    have hT := hS1.trans h3
    have q3 := hT.1.size
    clear bA bF hS hS1 hk h3
    go_wp2
    simp [bodyPost, results, Try.results86, go_sem, cA]
    all_goals exact ⟨⟨_, _, _, _, _, _, rfl⟩, (by repeat (first | with_reducible assumption | (with_reducible refine St.setNew ?_ (by assumption) _ (by first | exact Nat.le_refl _ | (simp; done) | (simp; omega) | omega) _) | with_reducible refine St.drew ?_ | with_reducible refine St.alloc ?_ _))⟩
  by_cases e2 : k = 2
  · subst e2
    clear k0 k1
    obtain ⟨cA, fA, _⟩ := bA.st hk (by omega)
    obtain ⟨cF, fF, _⟩ := bF.st hk (by omega)
    have hT := hS1.trans hk
    have q3 := hT.1.size
    clear bA bF hS hS1 hk
    go_wp2
    simp [bodyPost, results, Try.results86, go_sem, cA]
    all_goals exact ⟨⟨_, _, _, _, _, _, rfl⟩, (by repeat (first | with_reducible assumption | (with_reducible refine St.setNew ?_ (by assumption) _ (by first | exact Nat.le_refl _ | (simp; done) | (simp; omega) | omega) _) | with_reducible refine St.drew ?_ | with_reducible refine St.alloc ?_ _))⟩
  by_cases e3 : k = 3
  · subst e3
    clear k0 k1
    (go_wp2_with fail; refine (l2Word_any g _ _ hk).mono ?_; rintro e w3 ⟨⟨x, rfl, hx3⟩, h3⟩)
    clear hx3
    obtain ⟨cA, fA, _⟩ := bA.st h3 (by omega)
    obtain ⟨cF, fF, _⟩ := bF.st h3 (by omega)
    have hT := hS1.trans h3
    have q3 := hT.1.size
    clear bA bF hS hS1 hk h3
    go_wp2
    simp [bodyPost, results, Try.results86, go_sem, cA]
    all_goals exact ⟨⟨_, _, _, _, _, _, rfl⟩, (by repeat (first | with_reducible assumption | (with_reducible refine St.setNew ?_ (by assumption) _ (by first | exact Nat.le_refl _ | (simp; done) | (simp; omega) | omega) _) | with_reducible refine St.drew ?_ | with_reducible refine St.alloc ?_ _))⟩
  obtain ⟨cA, fA, _⟩ := bA.st hk (by omega)
  obtain ⟨cF, fF, _⟩ := bF.st hk (by omega)
  have hT := hS1.trans hk
  have q3 := hT.1.size
  clear bA bF hS hS1 hk
  go_wp2
  simp [bodyPost, results, Try.results86, go_sem, cA]
  all_goals exact ⟨⟨_, _, _, _, _, _, rfl⟩, (by repeat (first | with_reducible assumption | (with_reducible refine St.setNew ?_ (by assumption) _ (by first | exact Nat.le_refl _ | (simp; done) | (simp; omega) | omega) _) | with_reducible refine St.drew ?_ | with_reducible refine St.alloc ?_ _))⟩
set_option maxRecDepth 100000 in
theorem l9Flags_any (g : Nat) (w0 w : World) (hst : St g w0 w) :
    Calls Try.prog 110 #[.pointer (some ⟨g, 0, none⟩)] w fun e w' => IntP I64 e ∧ St g w0 w' := by
  go_enter Try.func110, Try.ntmps110
  (go_wp2_with fail; refine (l1Below_any g _ _ 64 (by omega) hst).mono ?_; rintro e w1 ⟨⟨x, rfl, x0, x1⟩, h1⟩)
  have hlt := h1.2.lt
  have hx : I64 x := by unfold I64; omega
  clear x0 x1
  go_wp2_with fail
  refine (l1PickInt_any g _ 10 _ I64 w0 _ (h1.alloc _) (by omega) (by simp) (by omega) (by omega) (pickLit _ _ [2, 16, 16, 18, 24, 17, 4, 20, 0, x] I64 (fun z hz => by simp at hz; unfold I64 at hx ⊢; omega))).mono ?_
  rintro e w2 ⟨⟨y, rfl, hy⟩, h2⟩
  have Hy := hide hy
  clear hy
  go_wp2_with fail
  go_ret
  exact ⟨⟨_, rfl, Hy.out⟩, h2⟩
set_option maxRecDepth 100000 in
set_option maxHeartbeats 1000000 in
theorem l9Segment_any (g : Nat) (w : World) (hc : Cur g w) :
    Calls Try.prog 91 #[.pointer (some ⟨g, 0, none⟩)] w fun e w' => SgP e ∧ St g w w' := by
  have hl := hc.lt
  go_enter Try.func91, Try.ntmps91
  have h0 := St.refl (hc.alloc (.cells #[.int .i64 0, .int .i64 0, .int .i64 0, .int .i64 0, .int .i64 0, .int .i64 0, .int .i64 0, .int .i64 0, .bool false, .bool false, .int .i64 0, .int .i64 0, .string ⟨#[]⟩] 69))
  have hl1 := h0.2.lt
  go_wp2_with fail
  refine (l1PickInt_any g _ 3 _ I64 _ _ (St.alloc h0 _) (by omega) (by simp) (by omega) (by omega) (pickAt _ _ [40000, 40001, 80] I64 (i64_list _ (by decide)) _ (by simp))).mono ?_
  rintro e w1 ⟨⟨f, rfl, hx⟩, h1⟩
  clear hx hl1
  have hl2 := h1.2.lt
  go_wp2_with fail
  refine (l1PickInt_any g _ 3 _ I64 _ _ (St.alloc h1 _) (by omega) (by simp) (by omega) (by omega) (pickAt _ _ [80, 80, 81] I64 (i64_list _ (by decide)) _ (by simp))).mono ?_
  rintro e w2 ⟨⟨t, rfl, hx⟩, h2⟩
  clear hx hl2
  (go_wp2_with fail; refine (l2Deep_any g _ _ h2).mono ?_; rintro e w3 ⟨⟨q, rfl, hx3⟩, h3⟩)
  clear hx3
  (go_wp2_with fail; refine (l2Deep_any g _ _ h3).mono ?_; rintro e w4 ⟨⟨a, rfl, hx4⟩, h4⟩)
  clear hx4
  (go_wp2_with fail; refine (l9Flags_any g _ _ h4).mono ?_; rintro e w5 ⟨⟨l, rfl, hx5⟩, h5⟩)
  clear hx5
  have hl6 := h5.2.lt
  go_wp2_with fail
  refine (l1PickInt_any g _ 4 _ I64 _ _ (St.alloc h5 _) (by omega) (by simp) (by omega) (by omega) (pickAt _ _ [0, 1, 64, 65535] I64 (i64_list _ (by decide)) _ (by simp))).mono ?_
  rintro e w6 ⟨⟨n9, rfl, hx⟩, h6⟩
  clear hx hl6
  (go_wp2_with fail; refine (l8Options_any g _ (h6).2).mono ?_; rintro e w7 ⟨⟨m, s, c, st, v, y, rfl⟩, h7⟩)
  have h99 := h6.trans h7
  (go_wp2_with fail; refine (l1Below_any g _ _ 7 (by omega) h99).mono ?_; rintro e w8 ⟨⟨n, rfl, n0, n1⟩, h8⟩)
  have n2 : n ≤ 6 := by omega
  clear n1
  (go_wp2_with fail; refine (l1Bytes_any g _ h8.2 n (by omega)).mono ?_; rintro e w9 ⟨⟨u, xs, rfl, hr, hlen, hx⟩, h9⟩)
  have hconv := run_string_own (P := Try.prog) Try.underlying22 Try.underlying5 Try.underlying9 hr
  have hz : (strOfNums xs).size ≤ 2000 := by rw [strOfNums_size]; omega
  obtain ⟨b, hb⟩ : ∃ b, b = strOfNums xs := ⟨_, rfl⟩
  rw [← hb] at hconv hz
  have h109 := h8.trans h9
  clear hr hlen hx hb
  obtain ⟨cA, fA, _⟩ := (Blk.new w [.int .i64 0, .int .i64 0, .int .i64 0, .int .i64 0, .int .i64 0, .int .i64 0, .int .i64 0, .int .i64 0, .bool false, .bool false, .int .i64 0, .int .i64 0, .string ⟨#[]⟩] 69).st h109 (by omega)
  have hS := ((St.refl hc).alloc _).trans h109
  have q1 := hS.1.size
  clear h0 h1 h2 h3 h4 h5 h6 h7 h8 h9 h99 h109
  go_wp2
  simp [bodyPost, results, Try.results91, go_sem, cA]
  all_goals exact ⟨⟨_, _, _, _, _, _, _, _, _, _, _, _, _, rfl, hz⟩, (by repeat (first | with_reducible assumption | (with_reducible refine St.setNew ?_ (by assumption) _ (by first | exact Nat.le_refl _ | (simp; done) | (simp; omega) | omega) _) | with_reducible refine St.drew ?_ | with_reducible refine St.alloc ?_ _))⟩
end Go.Proofs.Ytahffinjglmhhaa
