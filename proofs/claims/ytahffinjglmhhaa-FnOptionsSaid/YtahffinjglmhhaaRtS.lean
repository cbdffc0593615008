/-
  Segments: reading as a plain function; what was written is read back, by whom it was sent to, and by nobody else (plain).
-/
import Derived.Test.YtahffinjglmhhaaSText
import Derived.Test.YtahffinjglmhhaaRo
namespace Go.Proofs.Ytahffinjglmhhaa
open Go.RowKit
set_option linter.unusedVariables false
set_option linter.unusedSimpArgs false

/-- Where the options end. -/
def rsN (s : ByteArray) : Int := byt s 12 / 16 * 4
def rsB1 (s : ByteArray) (src dst : Int) : Bool := decide (20 ≤ s.size ∧ 20 ≤ rsN s ∧ rsN s ≤ (s.size : Int)) && headOk src dst s.size && (sumOf (pseudo src dst s.size ++ s) == 0)
def rsO (s : ByteArray) : Opt := (ro (s.extract 20 (rsN s).toNat) 0 noOpt).getD noOpt
def rsOk (s : ByteArray) : Bool := (ro (s.extract 20 (rsN s).toNat) 0 noOpt).isSome &&
  segOk (getV s 0 2) (getV s 2 2) (getV s 4 4) (getV s 8 4) (byt s 13 % 64) (getV s 14 2) (rsO s).m (rsO s).s (rsO s).st (rsO s).v (rsO s).y (s.extract (rsN s).toNat s.size)
/-- Is a segment read? -/
def rsB (s : ByteArray) (src dst : Int) : Bool := rsB1 s src dst && rsOk s
def rsI (s : ByteArray) (src dst x : Int) : Int := if rsB s src dst then x else 0
def rsL (s : ByteArray) (src dst : Int) (x : Bool) : Bool := if rsB s src dst then x else false
def rsS (s : ByteArray) (src dst : Int) (x : ByteArray) : ByteArray := if rsB s src dst then x else ⟨#[]⟩

theorem segOk_parts {f t q a l n m s : Int} {st : Bool} {v y : Int} {b : ByteArray} (h : segOk f t q a l n m s st v y b = true) :
    wordOk f 16 = true ∧ wordOk t 16 = true ∧ wordOk n 16 = true ∧ wordOk q 32 = true ∧ wordOk a 32 = true ∧ wordOk l 6 = true ∧ optOk m s st v y = true ∧ b.size ≤ 1420 := by
  simp only [segOk, Bool.and_eq_true, decide_eq_true_eq] at h
  obtain ⟨⟨⟨⟨⟨⟨⟨h1, h2⟩, h3⟩, h4⟩, h5⟩, h6⟩, h7⟩, h8⟩ := h
  exact ⟨h1, h2, h3, h4, h5, h6, h7, by omega⟩
theorem optText_mod4 (m s : Int) (k st : Bool) (v y : Int) : (optText m s k st v y).size % 4 = 0 := by
  unfold optText
  split
  · unfold padd; rw [size_ones]; omega
  · rfl
theorem headOk_parts {s d l : Int} (h : headOk s d l = true) : wordOk s 32 = true ∧ wordOk d 32 = true ∧ wordOk l 16 = true := by
  rw [headOk, Bool.and_eq_true, Bool.and_eq_true] at h
  exact ⟨h.1.1, h.1.2, h.2⟩
theorem word_bd {n b : Int} (h : wordOk n b = true) : 0 ≤ n ∧ n ≤ 2 ^ b.toNat - 1 := by
  rw [wordOk, Bool.and_eq_true] at h
  exact rng_true.1 h.2
theorem sgF_size {f t q a l n m s : Int} {st : Bool} {v y : Int} {b : ByteArray} (h : segOk f t q a l n m s st v y b = true) (o : Nat) (ho : o ≤ 36) : (sgF f t q a l n o).size = 16 := by
  obtain ⟨h1, h2, h3, h4, h5, h6, _, _⟩ := segOk_parts h
  obtain ⟨l0, l1⟩ := word_bd h6
  have l1' : l ≤ 63 := l1
  have hw : wordOk ((20 + (o : Int)) / 4 * 16) 8 = true := wordOk_small (by decide) (by omega) (show _ ≤ (2 : Int) ^ 8 - 1 by omega)
  have hl : wordOk l 8 = true := wordOk_small (by decide) l0 (show _ ≤ (2 : Int) ^ 8 - 1 by omega)
  have e1 : (putWord f 2).size = 2 := size_word (k := 2) (by decide) (by decide) h1
  have e2 : (putWord t 2).size = 2 := size_word (k := 2) (by decide) (by decide) h2
  have e3 : (putWord q 4).size = 4 := size_word (k := 4) (by decide) (by decide) h4
  have e4 : (putWord a 4).size = 4 := size_word (k := 4) (by decide) (by decide) h5
  have e5 : (putWord ((20 + (o : Int)) / 4 * 16) 1).size = 1 := size_word (k := 1) (by decide) (by decide) hw
  have e6 : (putWord l 1).size = 1 := size_word (k := 1) (by decide) (by decide) hl
  have e7 : (putWord n 2).size = 2 := size_word (k := 2) (by decide) (by decide) h3
  unfold sgF
  simp only [ByteArray.size_append, e1, e2, e3, e4, e5, e6, e7]
theorem segText_some {f t q a l n m s : Int} {k st : Bool} {v y : Int} {b : ByteArray} {src dst : Int} (h : segOk f t q a l n m s st v y b = true) (hh : headOk src dst (20 + ((optText m s k st v y).size : Int) + (b.size : Int)) = true) :
    segText f t q a l n m s k st v y b src dst = sgBody f t q a l n (pseudo src dst (20 + ((optText m s k st v y).size : Int) + (b.size : Int))) (optText m s k st v y) b := by
  rw [segText, h, hh]; rfl
/-- The parts of a segment's text. -/
theorem rt_seg {f t q a l n m s : Int} {k st : Bool} {v y : Int} {b : ByteArray} {src dst : Int} (h : segOk f t q a l n m s st v y b = true) (hh : headOk src dst (20 + ((optText m s k st v y).size : Int) + (b.size : Int)) = true)
    (S : ByteArray) (hS : S = segText f t q a l n m s k st v y b src dst) :
    S.size = 20 + (optText m s k st v y).size + b.size ∧ rsN S = 20 + ((optText m s k st v y).size : Int) ∧ sumOf (pseudo src dst S.size ++ S) = 0 ∧ S.extract 20 (20 + (optText m s k st v y).size) = optText m s k st v y ∧
    S.extract (20 + (optText m s k st v y).size) S.size = b ∧ getV S 0 2 = f ∧ getV S 2 2 = t ∧ getV S 4 4 = q ∧ getV S 8 4 = a ∧ byt S 13 % 64 = l ∧ getV S 14 2 = n := by
  rw [segText_some h hh] at hS
  obtain ⟨h1, h2, h3, h4, h5, h6, h7, h8⟩ := segOk_parts h
  have ps := pseudo_size hh
  have o36 := size_optText m s k st v y
  have o4 := optText_mod4 m s k st v y
  have zF := sgF_size h _ o36
  obtain ⟨o, ho⟩ : ∃ o, o = optText m s k st v y := ⟨_, rfl⟩
  rw [← ho] at hS hh ps o36 o4 zF ⊢
  obtain ⟨P, hP⟩ : ∃ P, P = pseudo src dst (20 + (o.size : Int) + (b.size : Int)) := ⟨_, rfl⟩
  rw [← hP] at hS ps
  obtain ⟨l0, l1⟩ := word_bd h6
  have l1' : l ≤ 63 := l1
  have hw : wordOk ((20 + (o.size : Int)) / 4 * 16) 8 = true := wordOk_small (by decide) (by omega) (show _ ≤ (2 : Int) ^ 8 - 1 by omega)
  have hl : wordOk l 8 = true := wordOk_small (by decide) l0 (show _ ≤ (2 : Int) ^ 8 - 1 by omega)
  have e1 : (putWord f 2).size = 2 := size_word (k := 2) (by decide) (by decide) h1
  have e2 : (putWord t 2).size = 2 := size_word (k := 2) (by decide) (by decide) h2
  have e3 : (putWord q 4).size = 4 := size_word (k := 4) (by decide) (by decide) h4
  have e4 : (putWord a 4).size = 4 := size_word (k := 4) (by decide) (by decide) h5
  have e5 : (putWord ((20 + (o.size : Int)) / 4 * 16) 1).size = 1 := size_word (k := 1) (by decide) (by decide) hw
  have e6 : (putWord l 1).size = 1 := size_word (k := 1) (by decide) (by decide) hl
  have e7 : (putWord n 2).size = 2 := size_word (k := 2) (by decide) (by decide) h3
  have k2 : (⟨#[0, 0]⟩ : ByteArray).size = 2 := rfl
  obtain ⟨F, hF⟩ : ∃ F, F = sgF f t q a l n o.size := ⟨_, rfl⟩
  obtain ⟨x, hx⟩ : ∃ x, x = wordSum (P ++ F) + wordSum (sgB o b) := ⟨_, rfl⟩
  have hsum : sumOf (P ++ F ++ ⟨#[0, 0]⟩ ++ sgB o b) = 65535 - fold (wordSum (P ++ F) + wordSum (sgB o b)) := by
    rw [sumOf, wordSum_app _ _ (by simp only [ByteArray.size_append, ps, hF, zF, k2]), wordSum_app _ _ (by simp only [ByteArray.size_append, ps, hF, zF]), wordSum_zero2, Int.add_zero]
  have hS' : S = F ++ putWord (65535 - fold (wordSum (P ++ F) + wordSum (sgB o b))) 2 ++ sgB o b := by
    rw [hS, sgBody, ← hF, hsum]
  have fb := fold_bd (wordSum (P ++ F) + wordSum (sgB o b))
  have hv : wordOk (65535 - fold (wordSum (P ++ F) + wordSum (sgB o b))) 16 = true := wordOk_small (by decide) (by omega) (show _ ≤ (2 : Int) ^ 16 - 1 by omega)
  have zv : (putWord (65535 - fold (wordSum (P ++ F) + wordSum (sgB o b))) 2).size = 2 := size_word (k := 2) (by decide) (by decide) hv
  have sz : S.size = 20 + o.size + b.size := by
    rw [hS']; simp only [ByteArray.size_append, zv]; rw [sgB, hF]; simp only [ByteArray.size_append, zF, k2]; omega
  obtain ⟨V, hV⟩ : ∃ V, V = putWord (65535 - fold (wordSum (P ++ F) + wordSum (sgB o b))) 2 := ⟨_, rfl⟩
  have sumR : sumOf (P ++ S) = 0 := by
    rw [hS', ← ByteArray.append_assoc, ← ByteArray.append_assoc]
    exact sum_up _ _ (by simp only [ByteArray.size_append, ps, hF, zF])
  rw [← hV] at hS' zv
  have eo : S = (F ++ V ++ ⟨#[0, 0]⟩) ++ (o ++ b) := by rw [hS', sgB]; simp only [ByteArray.append_assoc]
  have eb : S = (F ++ V ++ ⟨#[0, 0]⟩ ++ o) ++ b := by rw [hS', sgB]; simp only [ByteArray.append_assoc]
  have e : S = putWord f 2 ++ (putWord t 2 ++ (putWord q 4 ++ (putWord a 4 ++ (putWord ((20 + (o.size : Int)) / 4 * 16) 1 ++ (putWord l 1 ++ (putWord n 2 ++ (V ++ sgB o b))))))) := by
    rw [hS', hF, sgF]; simp only [ByteArray.append_assoc]
  have b12 : byt S 12 = (20 + (o.size : Int)) / 4 * 16 := by
    rw [← byt_gw]
    exact gw_mid (x := putWord f 2 ++ putWord t 2 ++ putWord q 4 ++ putWord a 4) (k := 1) (a := 12) (y := putWord l 1 ++ (putWord n 2 ++ (V ++ sgB o b))) (by rw [e]; simp only [ByteArray.append_assoc]; rfl) (by simp only [ByteArray.size_append, e1, e2, e3, e4]) (by decide) (by decide) hw
  have b13 : byt S 13 = l := by
    rw [← byt_gw]
    exact gw_mid (x := putWord f 2 ++ putWord t 2 ++ putWord q 4 ++ putWord a 4 ++ putWord ((20 + (o.size : Int)) / 4 * 16) 1) (k := 1) (a := 13) (y := putWord n 2 ++ (V ++ sgB o b)) (by rw [e]; simp only [ByteArray.append_assoc]; rfl) (by simp only [ByteArray.size_append, e1, e2, e3, e4, e5]) (by decide) (by decide) hl
  have hSz : (S.size : Int) = 20 + (o.size : Int) + (b.size : Int) := by rw [sz]; omega
  refine ⟨sz, ?_, ?_, ?_, ?_, ?_, ?_, ?_, ?_, ?_, ?_⟩
  · rw [rsN, b12]; omega
  · rw [hSz, ← hP]; exact sumR
  · exact mid_of eo (by simp only [ByteArray.size_append, hF, zF, zv, k2]) (by simp only [ByteArray.size_append, hF, zF, zv, k2])
  · exact tail_of eb (by simp only [ByteArray.size_append, hF, zF, zv, k2])
  · exact getV_mid (x := ⟨#[]⟩) (k := 2) (a := 0) (e.trans ByteArray.empty_append.symm) rfl (by decide) (by decide) h1
  · exact getV_mid (x := putWord f 2) (k := 2) (a := 2) e e1 (by decide) (by decide) h2
  · exact getV_mid (x := putWord f 2 ++ putWord t 2) (k := 4) (a := 4) (y := putWord a 4 ++ (putWord ((20 + (o.size : Int)) / 4 * 16) 1 ++ (putWord l 1 ++ (putWord n 2 ++ (V ++ sgB o b))))) (by rw [e]; simp only [ByteArray.append_assoc]; rfl) (by simp only [ByteArray.size_append, e1, e2]) (by decide) (by decide) h4
  · exact getV_mid (x := putWord f 2 ++ putWord t 2 ++ putWord q 4) (k := 4) (a := 8) (y := putWord ((20 + (o.size : Int)) / 4 * 16) 1 ++ (putWord l 1 ++ (putWord n 2 ++ (V ++ sgB o b)))) (by rw [e]; simp only [ByteArray.append_assoc]; rfl) (by simp only [ByteArray.size_append, e1, e2, e3]) (by decide) (by decide) h5
  · rw [b13]; omega
  · exact getV_mid (x := putWord f 2 ++ putWord t 2 ++ putWord q 4 ++ putWord a 4 ++ putWord ((20 + (o.size : Int)) / 4 * 16) 1 ++ putWord l 1) (k := 2) (a := 14) (y := V ++ sgB o b) (by rw [e]; simp only [ByteArray.append_assoc]; rfl) (by simp only [ByteArray.size_append, e1, e2, e3, e4, e5, e6]) (by decide) (by decide) h3
/-- A segment is read as it was sent. -/
theorem rt_seg_read {f t q a l n m s : Int} {k st : Bool} {v y : Int} {b : ByteArray} {src dst : Int} (h : segOk f t q a l n m s st v y b = true) (hh : headOk src dst (20 + ((optText m s k st v y).size : Int) + (b.size : Int)) = true)
    (S : ByteArray) (hS : S = segText f t q a l n m s k st v y b src dst) : rsB S src dst = true ∧ rsO S = ⟨m, s, k, st, v, y⟩ := by
  obtain ⟨a1, a2, a3, a4, a5, a6, a7, a8, a9, a10, a11⟩ := rt_seg h hh S hS
  obtain ⟨h1, h2, h3, h4, h5, h6, h7, h8⟩ := segOk_parts h
  have eN : (rsN S).toNat = 20 + (optText m s k st v y).size := by rw [a2]; omega
  have hr := ro_text (k := k) h7
  have hO : rsO S = ⟨m, s, k, st, v, y⟩ := by rw [rsO, eN, a4, hr]; rfl
  refine ⟨?_, hO⟩
  have e1 : rsB1 S src dst = true := by
    have hSz : (S.size : Int) = 20 + ((optText m s k st v y).size : Int) + (b.size : Int) := by rw [a1]; omega
    rw [rsB1, a3, hSz, hh]
    simp only [Bool.and_true, decide_eq_true_eq, beq_self_eq_true]
    omega
  have e2 : rsOk S = true := by
    rw [rsOk, hO, eN, a4, a5, a6, a7, a8, a9, a10, a11, hr]
    exact h
  rw [rsB, e1, e2]
  rfl
theorem headOk_len {src dst l : Int} {dst' : Int} (h : headOk src dst l = true) (h' : wordOk dst' 32 = true) : headOk src dst' l = true := by
  obtain ⟨a, b, c⟩ := headOk_parts h
  rw [headOk, a, h', c]; rfl
theorem wordSum_put4 (n : Int) (h0 : 0 ≤ n) (h1 : n ≤ 4294967295) : wordSum (putWord n 4) = n / 65536 + n % 65536 := by
  have hok : wordOk n (8 * ((4 : Nat) : Int)) = true := wordOk_small (by decide) h0 (show n ≤ (2 : Int) ^ 32 - 1 by omega)
  have e : (putWord n 4).size = 4 := size_word (n := n) (k := 4) (by decide) (by decide) hok
  have ep : putWord n 4 = strOfNums (beL 4 n) := putWord_str (k := 4) (by decide) (by decide) hok
  have c0 := byt_put 4 n 0 (by decide)
  have c1 := byt_put 4 n 1 (by decide)
  have c2 := byt_put 4 n 2 (by decide)
  have c3 := byt_put 4 n 3 (by decide)
  rw [← ep] at c0 c1 c2 c3
  simp only [Nat.sub_zero, Nat.reduceSub, Int.reducePow, Int.pow_zero, Int.ediv_one, Int.pow_one] at c0 c1 c2 c3
  rw [wordSum, e, ws, ws, ws, ws, ws]
  simp only [Nat.reduceMod, if_true, c0, c1, c2, c3]
  simp
  omega
theorem wordSum_pseudo {src dst l : Int} (h : headOk src dst l = true) : wordSum (pseudo src dst l) = src / 65536 + src % 65536 + (dst / 65536 + dst % 65536) + 6 + l := by
  obtain ⟨a, b, c⟩ := headOk_parts h
  obtain ⟨a0, a1⟩ := word_bd a
  obtain ⟨b0, b1⟩ := word_bd b
  obtain ⟨c0, c1⟩ := word_bd c
  have a1' : src ≤ 4294967295 := a1
  have b1' : dst ≤ 4294967295 := b1
  have c1' : l ≤ 65535 := c1
  have e1 : (putWord src 4).size = 4 := size_word (k := 4) (by decide) (by decide) a
  have e2 : (putWord dst 4).size = 4 := size_word (k := 4) (by decide) (by decide) b
  have w6 : wordSum ⟨#[0, 6]⟩ = 6 := by decide
  have k2 : (⟨#[0, 6]⟩ : ByteArray).size = 2 := rfl
  rw [pseudo, if_pos h, wordSum_app _ _ (by simp only [ByteArray.size_append, e1, e2, k2]), wordSum_app _ _ (by simp only [ByteArray.size_append, e1, e2]), wordSum_app _ _ (by rw [e1]),
    wordSum_put4 src a0 a1', wordSum_put4 dst b0 b1', w6, wordSum_put2 l c0 c1']
theorem xor_i64 (x y : Int) (h0 : 0 ≤ x) (h1 : x ≤ 4294967295) (h2 : 1 ≤ y) (h3 : y ≤ 255) : 0 ≤ bits .xor .i64 x y ∧ bits .xor .i64 x y ≤ 4294967295 ∧ bits .xor .i64 x y / 256 = x / 256 ∧ bits .xor .i64 x y % 256 ≠ x % 256 := by
  have e : bits .xor .i64 x y = ((x.toNat ^^^ y.toNat : Nat) : Int) := by
    show IntKind.i64.wrap ((BitVec.ofInt 64 x ^^^ BitVec.ofInt 64 y).toNat : Int) = _
    have q := Nat.xor_lt_two_pow (n := 32) (x := x.toNat) (y := y.toNat) (by omega) (by omega)
    rw [BitVec.toNat_xor, ofInt64, ofInt64, show (x % 18446744073709551616).toNat = x.toNat by omega, show (y % 18446744073709551616).toNat = y.toNat by omega]
    exact IntWalk.i64_in _ ⟨by omega, by omega⟩
  have q := Nat.xor_lt_two_pow (n := 32) (x := x.toNat) (y := y.toNat) (by omega) (by omega)
  have d : (x.toNat ^^^ y.toNat) / 2 ^ 8 = x.toNat / 2 ^ 8 := by
    rw [Nat.xor_div_two_pow, show y.toNat / 2 ^ 8 = 0 by omega, Nat.xor_zero]
  have m := nat_xor_ne x.toNat y.toNat (by omega)
  rw [e]
  omega
/-- It is read by nobody else. -/
theorem rt_seg_other {f t q a l n m s : Int} {k st : Bool} {v y : Int} {b : ByteArray} {src dst dst' : Int} (h : segOk f t q a l n m s st v y b = true) (hh : headOk src dst (20 + ((optText m s k st v y).size : Int) + (b.size : Int)) = true)
    (S : ByteArray) (hS : S = segText f t q a l n m s k st v y b src dst) (g0 : 0 ≤ dst') (g1 : dst' ≤ 4294967295) (g2 : dst' / 256 = dst / 256) (g3 : dst' % 256 ≠ dst % 256) : rsB S src dst' = false := by
  obtain ⟨a1, _, a3, _⟩ := rt_seg h hh S hS
  have hSz : (S.size : Int) = 20 + ((optText m s k st v y).size : Int) + (b.size : Int) := by rw [a1]; omega
  rw [← hSz] at hh
  have hw : wordOk dst' 32 = true := wordOk_small (by decide) g0 (show dst' ≤ (2 : Int) ^ 32 - 1 by omega)
  have hh' := headOk_len hh hw
  have w1 := wordSum_pseudo hh
  have w2 := wordSum_pseudo hh'
  have z1 := pseudo_size hh
  have z2 := pseudo_size hh'
  have hne : sumOf (pseudo src dst' S.size ++ S) ≠ 0 := by
    intro e
    rw [sumOf_zero, wordSum_app _ _ (by rw [z2])] at e
    rw [sumOf_zero, wordSum_app _ _ (by rw [z1])] at a3
    obtain ⟨_, e⟩ := e
    obtain ⟨_, a3⟩ := a3
    rw [w2] at e
    rw [w1] at a3
    omega
  have hf : (sumOf (pseudo src dst' S.size ++ S) == 0) = false := by simpa using hne
  rw [rsB, rsB1, hf]
  simp
end Go.Proofs.Ytahffinjglmhhaa
