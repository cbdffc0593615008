/-
  Addresses: what AddressText of the reference and Address return; the law of Address.
-/
import Derived.Test.YtahffinjglmhhaaDoorAdp
namespace Go.Proofs.YtahffinjglmhhaaDoor
open Go.RowKit
set_option linter.unusedVariables false
theorem str_ne_empty (s : ByteArray) (h : 0 < s.size) : (s.toList == []) = false ∧ s.toList.isEmpty = false ∧ ¬ s.toList = [] := by
  have h1 : s.toList ≠ [] := fun e => by rw [toList_nil_iff] at e; omega
  cases hs : s.toList with
  | nil => exact absurd hs h1
  | cons a b => exact ⟨rfl, rfl, by simp⟩
theorem row_belowV {w w' : World} {B size n : Nat} {e : TypeId} {v : Value} {xs : List Value} (h : w.ownsRow B e size v n xs) (hb : Below w.heap.size w w') : w'.ownsRow B e size v n xs := by
  refine ⟨h.1, ?_⟩
  rcases h.2 with ⟨h', h0⟩ | ⟨k, cap, cur, h', b0, hh, r⟩
  · exact .inl ⟨h', h0⟩
  · have hk : k < w.heap.size := by
      by_cases hlt : k < w.heap.size
      · exact hlt
      · rw [Array.getElem?_eq_none (by omega)] at hh; cases hh
    exact .inr ⟨k, cap, cur, h', b0, (hb.block k hk).trans hh, r⟩
theorem pt_sum (s : ByteArray) (b : Int) : ∀ k, k ≤ s.size → ((pt s b k).1.map (·.size)).sum ≤ (pt s b k).2 := by
  intro k
  induction k with
  | zero => intro _; simp [pt]
  | succ k ih =>
    intro hk
    have h1 := ih (by omega)
    have h2 := (pt_le s b k).1
    rw [pt]
    split
    · rw [List.map_append, List.sum_append]
      simp only [List.map_cons, List.map_nil, List.sum_cons, List.sum_nil, ByteArray.size_extract]
      omega
    · exact h1
theorem parts_sum (s : ByteArray) (b : Int) : ((parts s b).map (·.size)).sum ≤ s.size := by
  have h1 := pt_sum s b s.size (Nat.le_refl _)
  have h2 := (pt_le s b s.size).1
  rw [parts, List.map_append, List.sum_append]
  simp only [List.map_cons, List.map_nil, List.sum_cons, List.sum_nil, ByteArray.size_extract]
  omega
theorem mem_le_sum {L : List ByteArray} {p : ByteArray} (h : p ∈ L) : p.size ≤ (L.map (·.size)).sum := by
  induction L with
  | nil => cases h
  | cons x r ih =>
    rw [List.map_cons, List.sum_cons]
    rcases List.mem_cons.1 h with h | h
    · subst h; omega
    · have := ih h; omega
set_option maxHeartbeats 1000000 in
theorem spec_AddressText (n : Int) (w : World) :
    Calls Tryd.prog 29 #[.int .i64 n] w fun e w' => e = .returned (.string (addrText n)) ∧ Below w.heap.size w w' := by
  obtain ⟨i0, hi, hz0, hz1, hz2⟩ := info_parts info_str
  have HT : Hid (addrText n = joined (addrL n (putWord n 4).size) ⟨#[46]⟩) := hide rfl
  have hs6 := size_putWord_le n 4
  go_enter Tryd.func29, Tryd.ntmps29
  go_wp2_with fail
  refine (spec_PutWord _ _ _).mono ?_
  rintro e w1 ⟨rfl, hb1⟩
  have HW : Hid (∀ i, word4 n i = byt (putWord n 4) i) := hide (fun i => rfl)
  obtain ⟨S, HS⟩ : ∃ S, Hid (S = putWord n 4) := ⟨_, hide rfl⟩
  rw [← HS.out] at hs6 HT HW ⊢
  have hsz1 := hb1.size
  go_wp2_with fail
  go_loopw [4, 5] (fun v i wr => ∃ k : Nat, k ≤ S.size ∧ i = .int .i64 k ∧ wr.ownsRow w1.heap.size 9 1 v k ((addrL n k).map Value.string) ∧ Below w1.heap.size w1 wr) (fun _ i _ => S.size - (intOf i).toNat)
  case atStart => exact ⟨0, by omega, rfl, World.ownsRow_made w1 #[] 0 (Nat.le_refl _) (by decide) (by simp), (by repeat (first | with_reducible exact Below.refl _ _ | with_reducible assumption | with_reducible refine Below.al ?_ _ | with_reducible refine Below.drew ?_ | with_reducible refine Below.seq ?_ (by assumption) | (with_reducible refine Below.setCell ?_ ?_ _); rotate_left; focus (first | exact Nat.le_refl _ | (simp; done) | (simp; omega))))⟩
  case round =>
    obtain ⟨k, hk, rfl, hr, hb⟩ := hrel
    have hsz := hb.size
    by_cases hlt : k < S.size
    · have hd : (dec (word4 n k).toNat) = ⟨(Lib.decDigits S[k].toNat).toArray⟩ := by
        rw [dec, HW.out, ← byt_at S k hlt]; rfl
      have hL : addrL n (k + 1) = addrL n k ++ [dec (word4 n k).toNat] := by
        rw [addrL, List.range_succ, List.map_append]; rfl
      have HL := hide hL
      have HD := hide hd
      have hq : (S[k].toNat : Int) ≤ 255 := by rw [byt_at S k hlt]; exact (byt_bd S k).2
      have j1 : (k : Int) < (S.size : Int) := by omega
      clear hd hL
      go_wp2_with fail
      refine (spec_Digits_nn S[k].toNat _ (by omega)).mono ?_
      rintro e w2 ⟨rfl, hb2⟩
      rw [← HD.out]
      have hr2 := row_belowV hr hb2
      have hB2 := hb.trans (hb2.mono hsz)
      have hsz2 := hB2.size
      clear hr hb hb2
      go_wp2_with (at_builtin; refine wpList_append_own _ rfl _ _ 35 rfl w1.heap.size 9 i0 (.string ⟨#[]⟩) 1 16 Tryd.underlying35 hi hz0 hz1 hz2 rfl (by decide) _ _ _ rfl (hr2.alloc _) ⟨w2.heap.size, 0, none⟩ 1 1 [.string (dec (word4 n k).toNat)] rfl rfl (fun j u h => cell_one_lit _ _ _ j u h) (by intro u hu; simp at hu; subst hu; rfl) (by unfold maxLen; omega) (by omega) (by simp; omega) ?_)
      intro v' w3 hown3 hgr3 _
      have hb3 : Below w1.heap.size w1 w3 := (hB2.alloc (by omega) _).grown hgr3 (by simp; omega) (fun q hq => (hr2.lt q hq).1)
      have hown4 : w3.ownsRow w1.heap.size 9 1 v' (k + 1) ((addrL n (k + 1)).map Value.string) := by
        rw [HL.out]
        simpa using hown3
      clear hown3 hgr3 hr2 hB2
      go_wp2
      go_roundw
      case rel => exact ⟨k + 1, by omega, by go_num, hown4, hb3⟩
      case measure => simp [intOf]; omega
    · have e : k = S.size := by omega
      subst e
      have hl : (addrL n S.size).length = S.size := by simp [addrL]
      have hsum := addrL_sums n S.size
      have T := hide (Txts.of_row (B := w1.heap.size) (e := 9) (L := addrL n S.size) (by rw [hl]; exact hr))
      have hn1 : (addrL n S.size).length ≤ 1048576 := by omega
      have hs1 : sums (addrL n S.size) (addrL n S.size).length ≤ 1048576 := by omega
      clear hl hsum hr
      go_wp2_with fail
      refine (spec_Joined _ (addrL n S.size) _ _ T.out hn1 (by decide) hs1).mono ?_
      rintro e w4 ⟨rfl, hb4⟩
      rw [← HT.out]
      have hB := Below.seq hb1 (hb.trans (hb4.mono hsz))
      clear hb4 hb
      go_wp2_with fail
      go_ret
      exact ⟨rfl, hB⟩
set_option maxHeartbeats 1000000 in
theorem impl_Address (s : ByteArray) (w : World) (hs : s.size ≤ 1048576) :
    Calls Tryd.prog 13 #[.string s] w fun e w' => e = .returned (.tuple #[.int .i64 (if adOk (parts s 46) then na (parts s 46) 4 else 0), .bool (adOk (parts s 46))]) ∧ Below w.heap.size w w' := by
  obtain ⟨R, HR⟩ : ∃ R, Hid (R = adOk (parts s 46)) := ⟨_, hide rfl⟩
  rw [← HR.out]
  go_enter Tryd.func13, Tryd.ntmps13
  go_wp2_with fail
  refine (impl_Parts _ _ _ hs (by decide) (by decide)).mono ?_
  rintro e w1 ⟨⟨v1, rfl, r1⟩, hb1⟩
  obtain ⟨ps, HP⟩ : ∃ ps, Hid (ps = parts s 46) := ⟨_, hide rfl⟩
  rw [← HP.out] at r1
  have HRp : Hid (R = adOk ps) := hide (by rw [HP.out]; exact HR.out)
  obtain ⟨a, c, rfl, h1, h2, h3⟩ := Txts.of_row r1
  have hpl : 0 < ps.length := by rw [HP.out, parts]; simp
  have hpz : ∀ p ∈ ps, p.size ≤ 140737488355328 := fun p hp => by
    have h1 := mem_le_sum hp
    have h2 := parts_sum s 46
    rw [← HP.out] at h2
    omega
  obtain ⟨b, o, rfl, hx⟩ : ∃ b o, a = some ⟨b, o, none⟩ ∧ ∀ j x, ps[j]? = some x → w1.cell? ⟨b, o + j, none⟩ = some (.string x) := by
    rcases h3 with h | h
    · rw [h] at hpl; exact absurd hpl (Nat.not_lt_zero _)
    · exact h
  have HX := hide hx
  have HZ := hide hpz
  unfold maxLen at h2
  clear h3 hx hpz r1
  go_wp2_with fail
  go_loop [5, 14] (fun q i => ∃ k : Nat, k ≤ ps.length ∧ i = .int .i64 k ∧ q = .int .i64 (na ps k) ∧ Hid ((0 < k → ps.length = 4) ∧ ∀ j, j < k → numOk (ps.getD j ByteArray.empty) = true ∧ numV (ps.getD j ByteArray.empty) ≤ 255)) (fun _ i => ps.length - (intOf i).toNat)
  case atStart => exact ⟨0, by omega, rfl, rfl, hide ⟨fun h => by omega, fun j h => by omega⟩⟩
  case round =>
    obtain ⟨k, hk, rfl, rfl, hinv⟩ := hrel
    by_cases hlt : k < ps.length
    · obtain ⟨x, hxe⟩ : ∃ x, x = ps[k] := ⟨_, rfl⟩
      have hxk : ps[k]? = some x := by rw [hxe]; simp [hlt]
      have hxd : ps.getD k ByteArray.empty = x := by rw [List.getD_eq_getElem?_getD, hxk]; rfl
      have hxm : x ∈ ps := by rw [hxe]; exact List.getElem_mem _
      have hc := HX.out k x hxk
      have hxz := HZ.out x hxm
      have j1 : (k : Int) < (ps.length : Int) := by omega
      obtain ⟨v0, v1⟩ := numV_nn x
      have HD := hide hxd
      have HM := hide hxm
      clear hxe hxk hxd hxm
      go_wp2_with fail
      refine (impl_Number _ _ hxz).mono ?_
      rintro e wq ⟨rfl, rfl⟩
      cases hno : numOk x
      · have e1 : R = false := by rw [HRp.out]; exact ad_no (.inr ⟨x, HM.out, .inl hno⟩)
        subst e1
        have HN := hide hno
        clear hno hc
        go_wp2_with fail
        go_ret2
        exact ⟨rfl, hb1⟩
      by_cases hv : 255 < numV x
      · have e1 : R = false := by rw [HRp.out]; exact ad_no (.inr ⟨x, HM.out, .inr hv⟩)
        subst e1
        clear hno hc
        go_wp2_with fail
        go_ret2
        exact ⟨rfl, hb1⟩
      by_cases hl4 : ps.length = 4
      · have g4 : ((ps.length : Int) != 4) = false := by simp; omega
        obtain ⟨n0, n1⟩ := na_lt ps k (by omega)
        have hor := or_byte (na ps k) (numV x) n0 (by omega) v0 (by omega)
        have HNA := hide (show na ps (k + 1) = na ps k * 256 + numV x by rw [na, HD.out]; omega)
        have hinv2 : Hid ((0 < k + 1 → ps.length = 4) ∧ ∀ j, j < k + 1 → numOk (ps.getD j ByteArray.empty) = true ∧ numV (ps.getD j ByteArray.empty) ≤ 255) := hide ⟨fun _ => hl4, fun j hj => by
          by_cases e : j = k
          · subst e; rw [HD.out]; exact ⟨hno, by omega⟩
          · exact hinv.out.2 j (by omega)⟩
        obtain ⟨Q, hQ⟩ : ∃ Q, Q = na ps k := ⟨_, rfl⟩
        rw [← hQ] at n0 n1 hor HNA ⊢
        clear hno hc hQ hinv hl4
        go_wp2_with fail
        go_round
        case rel => exact ⟨k + 1, by omega, by go_num, by rw [HNA.out], hinv2⟩
        case measure => simp [intOf]; omega
      · have e1 : R = false := by rw [HRp.out]; exact ad_no (.inl hl4)
        subst e1
        have g4 : ((ps.length : Int) != 4) = true := by simp; omega
        clear hno hc hl4
        go_wp2_with fail
        go_ret2
        exact ⟨rfl, hb1⟩
    · have e : k = ps.length := by omega
      subst e
      obtain ⟨i1, i2⟩ := hinv.out
      have h4 := i1 hpl
      have e1 : R = true := by
        rw [HRp.out]
        refine ad_yes h4 (fun p hp => ?_)
        obtain ⟨j, hj, rfl⟩ := List.getElem_of_mem hp
        have := i2 j hj
        rw [List.getD_eq_getElem?_getD, List.getElem?_eq_getElem hj] at this
        exact this
      subst e1
      have HN := hide (show na ps ps.length = na ps 4 by rw [h4])
      clear hinv i1 i2 h4
      have HN2 := hide (show na ps 4 = na (parts s 46) 4 by rw [← HP.out])
      rw [HN.out, HN2.out]
      go_wp2_with fail
      go_ret2
      exact ⟨rfl, hb1⟩
set_option maxHeartbeats 2000000 in
theorem spec_Address (s : ByteArray) (w : World) (hs : s.size ≤ 1048576) :
    Calls Tryd.prog 15 #[.string s] w fun e w' => e = .returned (.tuple #[.int .i64 (if adOk (parts s 46) then na (parts s 46) 4 else 0), .bool (adOk (parts s 46))]) ∧ Below w.heap.size w w' := by
  obtain ⟨R, HR⟩ : ∃ R, Hid (R = adOk (parts s 46)) := ⟨_, hide rfl⟩
  rw [← HR.out]
  go_enter Tryd.func15, Tryd.ntmps15
  go_wp2_with fail
  refine (spec_Parts _ _ _ hs (by decide) (by decide)).mono ?_
  rintro e w1 ⟨⟨v1, rfl, r1⟩, hb1⟩
  obtain ⟨ps, HP⟩ : ∃ ps, Hid (ps = parts s 46) := ⟨_, hide rfl⟩
  rw [← HP.out] at r1
  have HRp : Hid (R = adOk ps) := hide (by rw [HP.out]; exact HR.out)
  obtain ⟨a, c, rfl, h1, h2, h3⟩ := Txts.of_row r1
  have hpl : 0 < ps.length := by rw [HP.out, parts]; simp
  have hpz : ∀ p ∈ ps, p.size ≤ 140737488355328 := fun p hp => by
    have h1 := mem_le_sum hp
    have h2 := parts_sum s 46
    rw [← HP.out] at h2
    omega
  obtain ⟨b, o, rfl, hx⟩ : ∃ b o, a = some ⟨b, o, none⟩ ∧ ∀ j x, ps[j]? = some x → w1.cell? ⟨b, o + j, none⟩ = some (.string x) := by
    rcases h3 with h | h
    · rw [h] at hpl; exact absurd hpl (Nat.not_lt_zero _)
    · exact h
  have HX := hide hx
  have HZ := hide hpz
  unfold maxLen at h2
  clear h3 hx hpz r1
  go_wp2_with fail
  go_loopw [5, 6] (fun q i wr => ∃ k : Nat, k ≤ ps.length ∧ k ≤ 4 ∧ i = .int .i64 k ∧ q = .int .i64 (na ps k) ∧ Below w1.heap.size w1 wr) (fun _ i _ => ps.length - (intOf i).toNat)
  case atStart => exact ⟨0, by omega, by omega, rfl, rfl, Below.refl _ _⟩
  case round =>
    obtain ⟨k, hk, hk4, rfl, rfl, hb⟩ := hrel
    have hsz := hb.size
    by_cases hlt : k < ps.length ∧ k < 4
    · obtain ⟨hlt, hl4⟩ := hlt
      obtain ⟨x, hxe⟩ : ∃ x, x = ps[k] := ⟨_, rfl⟩
      have hxk : ps[k]? = some x := by rw [hxe]; simp [hlt]
      have hxd : ps.getD k ByteArray.empty = x := by rw [List.getD_eq_getElem?_getD, hxk]; rfl
      have hxm : x ∈ ps := by rw [hxe]; exact List.getElem_mem _
      have hc0 := HX.out k x hxk
      have hc := (hb.cell (p := ⟨b, o + k, none⟩) (World.block_lt_of_cell? w1 ⟨b, o + k, none⟩ hc0)).trans hc0
      have hxz := HZ.out x hxm
      have j1 : (k : Int) < (ps.length : Int) := by omega
      have j4 : (k : Int) < 4 := by omega
      obtain ⟨v0, v1⟩ := numV_nn x
      obtain ⟨n0, n1⟩ := na_lt ps k hk4
      have HNA := hide (show na ps (k + 1) = 256 * na ps k + numV x % 256 by rw [na, hxd])
      obtain ⟨Q, hQ⟩ : ∃ Q, Q = na ps k := ⟨_, rfl⟩
      rw [← hQ] at n0 n1 HNA ⊢
      clear hxe hxk hxd hxm hc0 hQ
      go_wp2_with fail
      refine (spec_Number _ _ hxz).mono ?_
      rintro e w2 ⟨rfl, hb2⟩
      have hB2 := hb.trans (hb2.mono hsz)
      clear hc hb hb2
      go_wp2_with fail
      go_roundw
      case rel => exact ⟨k + 1, by omega, by omega, by go_num, by rw [HNA.out], hB2⟩
      case measure => simp [intOf]; omega
    · obtain ⟨n0, n1⟩ := na_lt ps k hk4
      have hB := Below.seq hb1 hb
      by_cases h0 : s.size = 0
      · have e1 : R = false := by rw [HR.out]; exact ad_empty s h0
        subst e1
        have hse : s = ⟨#[]⟩ := by
          apply ba_ext
          have : s.data.toList.length = 0 := h0
          exact List.eq_nil_of_length_eq_zero this
        clear n0 n1
        by_cases hlt1 : k < ps.length
        · have hk5 : k = 4 := by omega
          subst hk5
          have j1 : (4 : Int) < (ps.length : Int) := by omega
          subst hse
          go_wp2_with fail
          go_ret2
          exact ⟨rfl, hB⟩
        · have j1 : ¬ (k : Int) < (ps.length : Int) := by omega
          subst hse
          go_wp2_with fail
          go_ret2
          exact ⟨rfl, hB⟩
      · obtain ⟨z1, z2, z3⟩ := str_ne_empty s (by omega)
        cases hR : R
        · subst hR
          have hne : addrText (na ps k) ≠ s := fun e => by
            have := addr_only s _ n0 n1 e
            rw [← HR.out] at this
            cases this
          have hne2 := str_ne_list hne
          obtain ⟨T, HT⟩ : ∃ T, Hid (T = addrText (na ps k)) := ⟨_, hide rfl⟩
          rw [← HT.out] at hne2
          clear hne n0 n1 hb hb1
          by_cases hlt1 : k < ps.length
          · have hk5 : k = 4 := by omega
            subst hk5
            have j1 : (4 : Int) < (ps.length : Int) := by omega
            go_wp2_with fail
            refine (spec_AddressText _ _).mono ?_
            rintro e w3 ⟨rfl, hb3⟩
            rw [← HT.out]
            have hB3 := Below.seq hB hb3
            clear hb3 hB
            go_wp2_with fail
            go_ret2
            exact ⟨rfl, hB3⟩
          · have j1 : ¬ (k : Int) < (ps.length : Int) := by omega
            go_wp2_with fail
            refine (spec_AddressText _ _).mono ?_
            rintro e w3 ⟨rfl, hb3⟩
            rw [← HT.out]
            have hB3 := Below.seq hB hb3
            clear hb3 hB
            go_wp2_with fail
            go_ret2
            exact ⟨rfl, hB3⟩
        · subst hR
          have hok : adOk ps = true := HRp.out.symm
          have h4 := (all_mem hok).1
          have hk5 : k = 4 := by omega
          subst hk5
          have HT := hide (show addrText (na ps 4) = s by
            have := addr_back s (by rw [← HP.out]; exact hok)
            rw [← HP.out] at this
            exact this)
          have HN2 := hide (show na ps 4 = na (parts s 46) 4 by rw [← HP.out])
          have j1 : ¬ (4 : Int) < (ps.length : Int) := by omega
          clear n0 n1 hok hb hb1
          go_wp2_with fail
          refine (spec_AddressText _ _).mono ?_
          rintro e w3 ⟨rfl, hb3⟩
          rw [HT.out, HN2.out]
          have hB3 := Below.seq hB hb3
          clear hb3 hB
          go_wp2_with fail
          go_ret2
          exact ⟨rfl, hB3⟩
end Go.Proofs.YtahffinjglmhhaaDoor
