/-
  Messages of ARP read, and answered: what ReadArp and ArpReply return, and their laws' walks.
-/
import Derived.Test.YtcapkadknabfiaaRdF
namespace Go.Proofs.Ytcapkadknabfiaa
open Go.RowKit
set_option linter.unusedVariables false

def raOk (s : ByteArray) : Bool := arpOk (getV s 6 2) (getV s 8 6) (getV s 14 4) (getV s 18 6) (getV s 24 4)
def raHd (s : ByteArray) : Bool := (s.extract 0 6).toList == ([0, 1, 8, 0, 6, 4] : List UInt8)
theorem newA1 (w : World) (x : Obj) (cs : Array Value) (t : TypeId) : ∀ o, ((w.alloc x).alloc (.cells cs t)).cell? ⟨w.heap.size + 1, o, none⟩ = cs[o]? := fun o => by simp
theorem impl_ReadArp_short (s : ByteArray) (w : World) (h28 : s.size < 28) :
    Calls Try.prog 67 #[.string s] w fun e w' => e = .returned (.tuple #[.agg #[.int .i64 0, .int .i64 0, .int .i64 0, .int .i64 0, .int .i64 0], .bool false]) ∧ Below w.heap.size w w' := by
  go_enter Try.func67, Try.ntmps67
  go_wp2_with fail
  simp [bodyPost, results, Try.results67, go_sem]
  exact (by repeat (first | with_reducible exact Below.refl _ _ | with_reducible assumption | with_reducible refine Below.al ?_ _ | with_reducible refine Below.drew ?_ | with_reducible refine Below.seq ?_ (by assumption) | (with_reducible refine Below.setCell ?_ ?_ _); rotate_left; focus (first | exact Nat.le_refl _ | (simp; done) | (simp; omega))))
theorem impl_ReadArp_head (s : ByteArray) (w : World) (hs : s.size ≤ 140737488355328) (h28 : 28 ≤ s.size) (hh : raHd s = false) :
    Calls Try.prog 67 #[.string s] w fun e w' => e = .returned (.tuple #[.agg #[.int .i64 0, .int .i64 0, .int .i64 0, .int .i64 0, .int .i64 0], .bool false]) ∧ Below w.heap.size w w' := by
  have Ht := hide hh
  have g1 : ((s.extract 0 6).toList == ([0, 1, 8, 0, 6, 4] : List UInt8)) = false := hh
  have g2 : ((s.extract 0 6).toList != ([0, 1, 8, 0, 6, 4] : List UInt8)) = true := by rw [bne, show ((s.extract 0 6).toList == ([0, 1, 8, 0, 6, 4] : List UInt8)) = false from hh]; rfl
  clear hh
  go_enter Try.func67, Try.ntmps67
  go_wp2_with fail
  simp [bodyPost, results, Try.results67, go_sem]
  exact (by repeat (first | with_reducible exact Below.refl _ _ | with_reducible assumption | with_reducible refine Below.al ?_ _ | with_reducible refine Below.drew ?_ | with_reducible refine Below.seq ?_ (by assumption) | (with_reducible refine Below.setCell ?_ ?_ _); rotate_left; focus (first | exact Nat.le_refl _ | (simp; done) | (simp; omega))))
theorem impl_ReadArp_yes (s : ByteArray) (w : World) (hs : s.size ≤ 140737488355328) (h28 : 28 ≤ s.size) (hh : raHd s = true) (h : raOk s = true) :
    Calls Try.prog 67 #[.string s] w fun e w' => e = .returned (.tuple #[.agg #[.int .i64 (getV s 6 2), .int .i64 (getV s 8 6), .int .i64 (getV s 14 4), .int .i64 (getV s 18 6), .int .i64 (getV s 24 4)], .bool true]) ∧ Below w.heap.size w w' := by
  have Ht := hide hh
  have g1 : ((s.extract 0 6).toList == ([0, 1, 8, 0, 6, 4] : List UInt8)) = true := hh
  have g2 : ((s.extract 0 6).toList != ([0, 1, 8, 0, 6, 4] : List UInt8)) = false := by rw [bne, show ((s.extract 0 6).toList == ([0, 1, 8, 0, 6, 4] : List UInt8)) = true from hh]; rfl
  clear hh
  have H := hide (show arpOk (getV s 6 2) (getV s 8 6) (getV s 14 4) (getV s 18 6) (getV s 24 4) = true from h)
  clear h
  go_enter Try.func67, Try.ntmps67
  go_wp2_with (first | (go_at_call 103; refine (impl_word _ _ _ _ hs).mono ?_; rintro e w1 ⟨rfl, rfl⟩) | fail)
  (go_wp2_with fail; refine (impl_ArpOk _ _ _ _ _ _).mono ?_; rintro e w1 ⟨rfl, hb1⟩; obtain ⟨hc1, hf1⟩ := bcell hb1; (try (have hz1_0 : w.heap.size < w1.heap.size := (by have := hb1.size; (try simp at this); omega))); (try (have hz1_x : w.heap.size + 1 < w1.heap.size := (by have := hb1.size; (try simp at this); omega))))
  rw [H.out]
  have hA : ∀ o, w1.cell? ⟨w.heap.size, o, none⟩ = [Value.int .i64 0, .int .i64 0, .int .i64 0, .int .i64 0, .int .i64 0].toArray[o]? := keepA hb1 (keepA (below_alloc _ _) (newA w _ _))
  have hB : ∀ o, w1.cell? ⟨w.heap.size + 1, o, none⟩ = [Value.int .i64 (getV s 6 2), .int .i64 (getV s 8 6), .int .i64 (getV s 14 4), .int .i64 (getV s 18 6), .int .i64 (getV s 24 4)].toArray[o]? := keepA hb1 (newA1 w _ _ _)
  clear hz1_0 hz1_x hc1
  go_wp2
  simp [bodyPost, results, Try.results67, go_sem, hA]
  all_goals exact (by repeat (first | with_reducible exact Below.refl _ _ | with_reducible assumption | with_reducible refine Below.al ?_ _ | with_reducible refine Below.drew ?_ | with_reducible refine Below.seq ?_ (by assumption) | (with_reducible refine Below.setCell ?_ ?_ _); rotate_left; focus (first | exact Nat.le_refl _ | (simp; done) | (simp; omega))))
theorem impl_ReadArp_no (s : ByteArray) (w : World) (hs : s.size ≤ 140737488355328) (h28 : 28 ≤ s.size) (hh : raHd s = true) (h : raOk s = false) :
    Calls Try.prog 67 #[.string s] w fun e w' => e = .returned (.tuple #[.agg #[.int .i64 0, .int .i64 0, .int .i64 0, .int .i64 0, .int .i64 0], .bool false]) ∧ Below w.heap.size w w' := by
  have Ht := hide hh
  have g1 : ((s.extract 0 6).toList == ([0, 1, 8, 0, 6, 4] : List UInt8)) = true := hh
  have g2 : ((s.extract 0 6).toList != ([0, 1, 8, 0, 6, 4] : List UInt8)) = false := by rw [bne, show ((s.extract 0 6).toList == ([0, 1, 8, 0, 6, 4] : List UInt8)) = true from hh]; rfl
  clear hh
  have H := hide (show arpOk (getV s 6 2) (getV s 8 6) (getV s 14 4) (getV s 18 6) (getV s 24 4) = false from h)
  clear h
  go_enter Try.func67, Try.ntmps67
  go_wp2_with (first | (go_at_call 103; refine (impl_word _ _ _ _ hs).mono ?_; rintro e w1 ⟨rfl, rfl⟩) | fail)
  (go_wp2_with fail; refine (impl_ArpOk _ _ _ _ _ _).mono ?_; rintro e w1 ⟨rfl, hb1⟩; obtain ⟨hc1, hf1⟩ := bcell hb1; (try (have hz1_0 : w.heap.size < w1.heap.size := (by have := hb1.size; (try simp at this); omega))); (try (have hz1_x : w.heap.size + 1 < w1.heap.size := (by have := hb1.size; (try simp at this); omega))))
  rw [H.out]
  have hA : ∀ o, w1.cell? ⟨w.heap.size, o, none⟩ = [Value.int .i64 0, .int .i64 0, .int .i64 0, .int .i64 0, .int .i64 0].toArray[o]? := keepA hb1 (keepA (below_alloc _ _) (newA w _ _))
  have hB : ∀ o, w1.cell? ⟨w.heap.size + 1, o, none⟩ = [Value.int .i64 (getV s 6 2), .int .i64 (getV s 8 6), .int .i64 (getV s 14 4), .int .i64 (getV s 18 6), .int .i64 (getV s 24 4)].toArray[o]? := keepA hb1 (newA1 w _ _ _)
  clear hz1_0 hz1_x hc1
  go_wp2
  simp [bodyPost, results, Try.results67, go_sem, hA]
  all_goals exact (by repeat (first | with_reducible exact Below.refl _ _ | with_reducible assumption | with_reducible refine Below.al ?_ _ | with_reducible refine Below.drew ?_ | with_reducible refine Below.seq ?_ (by assumption) | (with_reducible refine Below.setCell ?_ ?_ _); rotate_left; focus (first | exact Nat.le_refl _ | (simp; done) | (simp; omega))))
theorem arpText_rd (s : ByteArray) (h28 : 28 ≤ s.size) (h : raOk s = true) : arpText (getV s 6 2) (getV s 8 6) (getV s 14 4) (getV s 18 6) (getV s 24 4) = ⟨#[0, 1, 8, 0, 6, 4]⟩ ++ s.extract 6 28 := by
  have e : arpText (getV s 6 2) (getV s 8 6) (getV s 14 4) (getV s 18 6) (getV s 24 4) = ⟨#[0, 1, 8, 0, 6, 4]⟩ ++ putWord (getV s 6 2) 2 ++ putWord (getV s 8 6) 6 ++ putWord (getV s 14 4) 4 ++ putWord (getV s 18 6) 6 ++ putWord (getV s 24 4) 4 := by
    rw [arpText]; exact if_pos h
  rw [e, show getV s 6 2 = gw s 6 2 from getV_in s 6 2 (by omega) (by omega) (by omega), show getV s 8 6 = gw s 8 6 from getV_in s 8 6 (by omega) (by omega) (by omega), show getV s 14 4 = gw s 14 4 from getV_in s 14 4 (by omega) (by omega) (by omega), show getV s 18 6 = gw s 18 6 from getV_in s 18 6 (by omega) (by omega) (by omega), show getV s 24 4 = gw s 24 4 from getV_in s 24 4 (by omega) (by omega) (by omega), show putWord (gw s 6 2) 2 = s.extract 6 8 from putWord_gw s 6 2 (by omega) (by omega) (by omega), show putWord (gw s 8 6) 6 = s.extract 8 14 from putWord_gw s 8 6 (by omega) (by omega) (by omega), show putWord (gw s 14 4) 4 = s.extract 14 18 from putWord_gw s 14 4 (by omega) (by omega) (by omega), show putWord (gw s 18 6) 6 = s.extract 18 24 from putWord_gw s 18 6 (by omega) (by omega) (by omega), show putWord (gw s 24 4) 4 = s.extract 24 28 from putWord_gw s 24 4 (by omega) (by omega) (by omega)]
  simp only [ByteArray.append_assoc]
  rw [extract_app s 18 24 28 (by omega) (by omega) (by omega), extract_app s 14 18 28 (by omega) (by omega) (by omega), extract_app s 8 14 28 (by omega) (by omega) (by omega), extract_app s 6 8 28 (by omega) (by omega) (by omega)]
theorem head_of (s : ByteArray) (h : raHd s = true) : s.extract 0 6 = ⟨#[0, 1, 8, 0, 6, 4]⟩ := by
  apply ba_ext
  have e : (s.extract 0 6).toList = [0, 1, 8, 0, 6, 4] := by simpa [raHd] using h
  rw [ByteArray.toList_eq] at e
  exact e
theorem head_not (s : ByteArray) (h : raHd s = false) (t : ByteArray) (h28 : 28 ≤ s.size) (e : ⟨#[0, 1, 8, 0, 6, 4]⟩ ++ t = s.extract 0 28) : False := by
  have e1 := congrArg (fun b : ByteArray => b.data.toList.take 6) e
  simp only [app_data, Lib.extract_data, List.drop_zero, Nat.sub_zero, List.take_take] at e1
  have e2 : (s.extract 0 6).toList = [0, 1, 8, 0, 6, 4] := by
    rw [ByteArray.toList_eq, Lib.extract_data, List.drop_zero, Nat.sub_zero]
    exact e1.symm
  rw [raHd, e2] at h
  simp at h
theorem spec_ReadArp_short (s : ByteArray) (w : World) (h28 : s.size < 28) :
    Calls Try.prog 66 #[.string s] w fun e w' => e = .returned (.tuple #[.agg #[.int .i64 0, .int .i64 0, .int .i64 0, .int .i64 0, .int .i64 0], .bool false]) ∧ Below w.heap.size w w' := by
  go_enter Try.func66, Try.ntmps66
  go_wp2_with fail
  simp [bodyPost, results, Try.results66, go_sem]
  exact (by repeat (first | with_reducible exact Below.refl _ _ | with_reducible assumption | with_reducible refine Below.al ?_ _ | with_reducible refine Below.drew ?_ | with_reducible refine Below.seq ?_ (by assumption) | (with_reducible refine Below.setCell ?_ ?_ _); rotate_left; focus (first | exact Nat.le_refl _ | (simp; done) | (simp; omega))))
theorem spec_ReadArp_yes (s : ByteArray) (w : World) (hs : s.size ≤ 140737488355328) (h28 : 28 ≤ s.size) (hh : raHd s = true) (h : raOk s = true) :
    Calls Try.prog 66 #[.string s] w fun e w' => e = .returned (.tuple #[.agg #[.int .i64 (getV s 6 2), .int .i64 (getV s 8 6), .int .i64 (getV s 14 4), .int .i64 (getV s 18 6), .int .i64 (getV s 24 4)], .bool true]) ∧ Below w.heap.size w w' := by
  have H := hide (show arpText (getV s 6 2) (getV s 8 6) (getV s 14 4) (getV s 18 6) (getV s 24 4) = s.extract 0 28 by rw [arpText_rd s h28 h, ← head_of s hh, extract_app s 0 6 28 (by omega) (by omega) (by omega)])
  clear h hh
  go_enter Try.func66, Try.ntmps66
  go_wp2_with (first | (go_at_call 45; refine (spec_GetWord _ _ _ _ hs).mono ?_; rintro e w1 ⟨rfl, rfl⟩) | fail)
  go_region_held3 (fun w' => ∀ o, w'.cell? ⟨w.heap.size + 1, o, none⟩ = [Value.int .i64 (getV s 6 2), .int .i64 (getV s 8 6), .int .i64 (getV s 14 4), .int .i64 (getV s 18 6), .int .i64 (getV s 24 4)].toArray[o]?) (first | exact keepD (newA1 w _ _ _) | exact keepA (by assumption) (by assumption) | assumption)
    (first | (go_at_call 28; refine (spec_ArpText _ _ _ _ _ _).mono ?_; rintro e w1 ⟨rfl, hb1⟩; rw [H.out]))
  all_goals
    have hA : ∀ o, w1.cell? ⟨w.heap.size, o, none⟩ = [Value.int .i64 0, .int .i64 0, .int .i64 0, .int .i64 0, .int .i64 0].toArray[o]? := keepA hb1 (keepD (keepA (below_alloc _ _) (newA w _ _)))
    obtain ⟨hc1, hf1⟩ := bcell hb1
    go_wp2
    simp [bodyPost, results, Try.results66, go_sem, hA]
    all_goals exact (by repeat (first | with_reducible exact Below.refl _ _ | with_reducible assumption | with_reducible refine Below.al ?_ _ | with_reducible refine Below.drew ?_ | with_reducible refine Below.seq ?_ (by assumption) | (with_reducible refine Below.setCell ?_ ?_ _); rotate_left; focus (first | exact Nat.le_refl _ | (simp; done) | (simp; omega))))
theorem spec_ReadArp_no (s : ByteArray) (w : World) (hs : s.size ≤ 140737488355328) (h28 : 28 ≤ s.size) (h : (raHd s && raOk s) = false) :
    Calls Try.prog 66 #[.string s] w fun e w' => e = .returned (.tuple #[.agg #[.int .i64 0, .int .i64 0, .int .i64 0, .int .i64 0, .int .i64 0], .bool false]) ∧ Below w.heap.size w w' := by
  have hne : arpText (getV s 6 2) (getV s 8 6) (getV s 14 4) (getV s 18 6) (getV s 24 4) ≠ s.extract 0 28 := by
    intro e
    cases h1 : raOk s
    · have e0 : arpText (getV s 6 2) (getV s 8 6) (getV s 14 4) (getV s 18 6) (getV s 24 4) = ⟨#[]⟩ := by rw [arpText]; exact if_neg (by rw [show arpOk (getV s 6 2) (getV s 8 6) (getV s 14 4) (getV s 18 6) (getV s 24 4) = false from h1]; simp)
      rw [e0] at e
      have e2 : (s.extract 0 28).size = 0 := by rw [← e]; rfl
      rw [ByteArray.size_extract] at e2
      omega
    · rw [h1, Bool.and_true] at h
      rw [arpText_rd s h28 h1] at e
      exact head_not s h _ h28 e
  have Hn := hide hne
  clear h hne
  generalize hT : arpText (getV s 6 2) (getV s 8 6) (getV s 14 4) (getV s 18 6) (getV s 24 4) = T at Hn
  have HT := hide hT
  clear hT
  have hl : (T.toList == (s.extract 0 28).toList) = false := by
    have := Hn.out
    rw [beq_eq_false_iff_ne]
    intro e
    rw [ByteArray.toList_eq, ByteArray.toList_eq] at e
    exact this (ba_ext e)
  go_enter Try.func66, Try.ntmps66
  go_wp2_with (first | (go_at_call 45; refine (spec_GetWord _ _ _ _ hs).mono ?_; rintro e w1 ⟨rfl, rfl⟩) | fail)
  go_region_held3 (fun w' => ∀ o, w'.cell? ⟨w.heap.size + 1, o, none⟩ = [Value.int .i64 (getV s 6 2), .int .i64 (getV s 8 6), .int .i64 (getV s 14 4), .int .i64 (getV s 18 6), .int .i64 (getV s 24 4)].toArray[o]?) (first | exact keepD (newA1 w _ _ _) | exact keepA (by assumption) (by assumption) | assumption)
    (first | (go_at_call 28; refine (spec_ArpText _ _ _ _ _ _).mono ?_; rintro e w1 ⟨rfl, hb1⟩; rw [HT.out]))
  all_goals
    have hA : ∀ o, w1.cell? ⟨w.heap.size, o, none⟩ = [Value.int .i64 0, .int .i64 0, .int .i64 0, .int .i64 0, .int .i64 0].toArray[o]? := keepA hb1 (keepD (keepA (below_alloc _ _) (newA w _ _)))
    obtain ⟨hc1, hf1⟩ := bcell hb1
    go_wp2
    simp [bodyPost, results, Try.results66, go_sem, hA]
    all_goals exact (by repeat (first | with_reducible exact Below.refl _ _ | with_reducible assumption | with_reducible refine Below.al ?_ _ | with_reducible refine Below.drew ?_ | with_reducible refine Below.seq ?_ (by assumption) | (with_reducible refine Below.setCell ?_ ?_ _); rotate_left; focus (first | exact Nat.le_refl _ | (simp; done) | (simp; omega))))

def raB (s : ByteArray) : Bool := decide (28 ≤ s.size) && (raHd s && raOk s)
def raI (s : ByteArray) (x : Int) : Int := if raB s then x else 0
theorem impl_ReadArp (s : ByteArray) (w : World) (hs : s.size ≤ 140737488355328) :
    Calls Try.prog 67 #[.string s] w fun e w' => e = .returned (.tuple #[.agg #[.int .i64 (raI s (getV s 6 2)), .int .i64 (raI s (getV s 8 6)), .int .i64 (raI s (getV s 14 4)), .int .i64 (raI s (getV s 18 6)), .int .i64 (raI s (getV s 24 4))], .bool (raB s)]) ∧ Below w.heap.size w w' := by
  by_cases h28 : 28 ≤ s.size
  · skip
    cases hh : raHd s
    · have hb : raB s = false := by rw [raB, hh]; simp
      simp only [raI, hb]
      exact impl_ReadArp_head s w hs h28 hh
    · cases h : raOk s
      · have hb : raB s = false := by rw [raB, h]; simp
        simp only [raI, hb]
        exact impl_ReadArp_no s w hs h28 hh h
      · have hb : raB s = true := by rw [raB, h, hh]; simp [h28]
        simp only [raI, hb]
        exact impl_ReadArp_yes s w hs h28 hh h
  · have hb : raB s = false := by rw [raB]; simp [h28]
    simp only [raI, hb]
    exact impl_ReadArp_short s w (by omega)
theorem spec_ReadArp (s : ByteArray) (w : World) (hs : s.size ≤ 140737488355328) :
    Calls Try.prog 66 #[.string s] w fun e w' => e = .returned (.tuple #[.agg #[.int .i64 (raI s (getV s 6 2)), .int .i64 (raI s (getV s 8 6)), .int .i64 (raI s (getV s 14 4)), .int .i64 (raI s (getV s 18 6)), .int .i64 (raI s (getV s 24 4))], .bool (raB s)]) ∧ Below w.heap.size w w' := by
  by_cases h28 : 28 ≤ s.size
  · skip
    cases h : raHd s && raOk s
    · have hb : raB s = false := by rw [raB, h]; simp
      simp only [raI, hb]
      exact spec_ReadArp_no s w hs h28 h
    · have hb : raB s = true := by rw [raB, h]; simp [h28]
      simp only [raI, hb]
      rw [Bool.and_eq_true] at h
      exact spec_ReadArp_yes s w hs h28 h.1 h.2
  · have hb : raB s = false := by rw [raB]; simp [h28]
    simp only [raI, hb]
    exact spec_ReadArp_short s w (by omega)
theorem fnExactReadArp_walk (a0 : ByteArray) (w0 : a0.size ≤ maxLen) (w : World) :
    Calls Try.prog 15 #[.string a0] w fun e w' => e = .returned (.bool true) ∧ Below w.heap.size w w' := by
  clear w0
  by_cases h : 1048576 < a0.size
  · go_enter Try.func15, Try.ntmps15
    go_wp2
    go_ret
    exact ⟨rfl, Below.refl _ _⟩
  · have hs : a0.size ≤ 140737488355328 := by omega
    go_enter Try.func15, Try.ntmps15
    (go_wp2_with fail; refine (spec_ReadArp _ _ hs).mono ?_; rintro e w1 ⟨rfl, hb1⟩; obtain ⟨hc1, hf1⟩ := bcell hb1; (try (have hz1_0 : w.heap.size < w1.heap.size := (by have := hb1.size; (try simp at this); omega))); (try (have hz1_x : w.heap.size + 1 < w1.heap.size := (by have := hb1.size; (try simp at this); omega))))
    (go_wp2_with fail; refine (impl_ReadArp _ _ hs).mono ?_; rintro e w2 ⟨rfl, hb2⟩; obtain ⟨hc2, hf2⟩ := bcell hb2; (try (have hz2_1 : w1.heap.size < w2.heap.size := (by have := hb2.size; (try simp at this); omega))); (try (have hz2_0 : w.heap.size < w2.heap.size := (by have := hb2.size; (try simp at this); omega))); (try (have hz2_x : w.heap.size + 1 < w2.heap.size := (by have := hb2.size; (try simp at this); omega))))
    (go_wp2_with fail; refine (eqArp_same _ _ _ _ _ _).mono ?_; rintro e w3 ⟨rfl, hb3⟩; obtain ⟨hc3, hf3⟩ := bcell hb3; (try (have hz3_2 : w2.heap.size < w3.heap.size := (by have := hb3.size; (try simp at this); omega))); (try (have hz3_1 : w1.heap.size < w3.heap.size := (by have := hb3.size; (try simp at this); omega))); (try (have hz3_0 : w.heap.size < w3.heap.size := (by have := hb3.size; (try simp at this); omega))); (try (have hz3_x : w.heap.size + 1 < w3.heap.size := (by have := hb3.size; (try simp at this); omega))))
    go_wp2
    go_ret
    exact ⟨rfl, (by repeat (first | with_reducible exact Below.refl _ _ | with_reducible assumption | with_reducible refine Below.al ?_ _ | with_reducible refine Below.drew ?_ | with_reducible refine Below.seq ?_ (by assumption) | (with_reducible refine Below.setCell ?_ ?_ _); rotate_left; focus (first | exact Nat.le_refl _ | (simp; done) | (simp; omega))))⟩
end Go.Proofs.Ytcapkadknabfiaa
