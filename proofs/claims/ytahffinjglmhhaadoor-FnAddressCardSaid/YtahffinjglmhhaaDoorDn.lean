/-
  What the laws on numbers and addresses draw; their plain laws: a numeral is read as its number, an address as its text.
-/
import Derived.Test.YtahffinjglmhhaaDoorDa
import Derived.Test.YtahffinjglmhhaaDoorDz
import Derived.Test.YtahffinjglmhhaaDoorAdi
namespace Go.Proofs.YtahffinjglmhhaaDoor
open Go.RowKit
set_option linter.unusedVariables false
theorem addrText_size (n : Int) : (addrText n).size ≤ 100 := by
  have hs6 := size_putWord_le n 4
  have h1 := addrL_sums n (putWord n 4).size
  have hl : (addrL n (putWord n 4).size).length = (putWord n 4).size := by simp [addrL]
  have h2 := jl_len (addrL n (putWord n 4).size) ⟨#[46]⟩ _ (Nat.le_refl _)
  have h3 : (addrText n).size = (jl (addrL n (putWord n 4).size) ⟨#[46]⟩ (addrL n (putWord n 4).size).length).length := by
    rw [addrText, ← jl_all]; exact List.size_toArray
  have k1 : (⟨#[46]⟩ : ByteArray).size = 1 := rfl
  rw [k1] at h2
  omega
theorem itoa_size (n : Int) (h : I64 n) : (⟨(Lib.itoa n).toArray⟩ : ByteArray).size ≤ 40 := by
  show (Lib.itoa n).toArray.size ≤ 40
  rw [List.size_toArray, Lib.itoa]
  have h' := h.1
  have h'' := h.2
  split
  · rw [List.length_cons]
    have := dec_len n.natAbs (by omega)
    omega
  · have := dec_len n.toNat (by omega)
    omega
theorem drawDigits_any (v : Value) (n : Nat) (w : World) (hn : n ≤ 1048576) (hb : Bytes w v n) :
    Calls Tryd.prog 6 #[v] w fun e w' => IntP I64 e ∧ Below w.heap.size w w' := by
  have HB := hide hb
  clear hb
  go_enter Tryd.func6, Tryd.ntmps6
  go_wp2_with fail
  refine (l1New_any v n _ hn HB.out).mono ?_
  rintro e w1 ⟨⟨g, rfl, hg, hc⟩, hb1⟩
  go_wp2_with fail
  refine (l1Whole_any g w1 _ (St.refl hc)).mono ?_
  rintro e w2 ⟨⟨x, rfl, hx⟩, hst⟩
  have Hx := hide hx
  clear hx
  go_wp2_with fail
  go_ret
  exact ⟨⟨_, rfl, Hx.out⟩, hst.out hb1 hg⟩
theorem drawNumber_any (v : Value) (n : Nat) (w : World) (hn : n ≤ 1048576) (hb : Bytes w v n) :
    Calls Tryd.prog 9 #[v] w fun e w' => StrP 40 e ∧ Below w.heap.size w w' := by
  have HB := hide hb
  clear hb
  go_enter Tryd.func9, Tryd.ntmps9
  go_wp2_with fail
  refine (l1New_any v n _ hn HB.out).mono ?_
  rintro e w1 ⟨⟨g, rfl, hg, hc⟩, hb1⟩
  go_wp2_with fail
  refine (l1Once_any g w1 _ 2 (by omega) (St.refl hc)).mono ?_
  rintro e w2 ⟨⟨x, rfl⟩, hst⟩
  cases x
  · have hl := hst.2.lt
    go_wp2_with fail
    refine (l1Pick_any g _ 12 _ 40 w1 _ (hst.alloc _) (by omega) (by simp) (by omega) (by omega) (strLit _ _ 40 [⟨#[]⟩, ⟨#[48, 48]⟩, ⟨#[48, 49]⟩, ⟨#[45, 49]⟩, ⟨#[43, 49]⟩, ⟨#[120]⟩, ⟨#[57, 57, 57, 57, 57, 57, 57, 57, 57, 57, 57, 57]⟩, ⟨#[49, 48, 48, 48, 48, 48, 48, 48, 48, 48, 48, 48, 48]⟩, ⟨#[45, 48]⟩, ⟨#[45]⟩, ⟨#[32, 49]⟩, ⟨#[49, 32]⟩] (by decide))).mono ?_
    rintro e w3 ⟨⟨y, rfl, hy⟩, hst2⟩
    have Hy := hide hy
    clear hy
    go_wp2_with fail
    go_ret
    exact ⟨⟨_, rfl, Hy.out⟩, hst2.out hb1 hg⟩
  · go_wp2_with fail
    refine (l1Whole_any g w1 _ hst).mono ?_
    rintro e w3 ⟨⟨y, rfl, hy⟩, hst2⟩
    have Hy := hide hy
    clear hy
    go_wp2_with fail
    refine (spec_Digits_any y _ Hy.out).mono ?_
    rintro e w4 ⟨rfl, hb4⟩
    have hz := itoa_size y Hy.out
    have hst3 := hst2.seqB hb4
    go_wp2_with fail
    go_ret
    exact ⟨⟨_, rfl, hz⟩, hst3.out hb1 hg⟩
theorem drawAddressText_any (v : Value) (n : Nat) (w : World) (hn : n ≤ 1048576) (hb : Bytes w v n) :
    Calls Tryd.prog 11 #[v] w fun e w' => IntP I64 e ∧ Below w.heap.size w w' := by
  have HB := hide hb
  clear hb
  go_enter Tryd.func11, Tryd.ntmps11
  go_wp2_with fail
  refine (l1New_any v n _ hn HB.out).mono ?_
  rintro e w1 ⟨⟨g, rfl, hg, hc⟩, hb1⟩
  go_wp2_with fail
  refine (l1Once_any g w1 _ 2 (by omega) (St.refl hc)).mono ?_
  rintro e w2 ⟨⟨x, rfl⟩, hst⟩
  cases x
  · go_wp2_with fail
    refine (l2Word_any g w1 _ hst).mono ?_
    rintro e w3 ⟨⟨y, rfl, hy⟩, hst2⟩
    have Hy := hide hy
    clear hy
    go_wp2_with fail
    go_ret
    exact ⟨⟨_, rfl, Hy.out⟩, hst2.out hb1 hg⟩
  · go_wp2_with fail
    refine (l2Deep_any g w1 _ hst).mono ?_
    rintro e w3 ⟨⟨y, rfl, hy⟩, hst2⟩
    have Hy := hide hy
    clear hy
    go_wp2_with fail
    go_ret
    exact ⟨⟨_, rfl, by have := Hy.out; unfold I64; omega⟩, hst2.out hb1 hg⟩
theorem drawAddress_any (v : Value) (n : Nat) (w : World) (hn : n ≤ 1048576) (hb : Bytes w v n) :
    Calls Tryd.prog 14 #[v] w fun e w' => StrP 120 e ∧ Below w.heap.size w w' := by
  have HB := hide hb
  clear hb
  go_enter Tryd.func14, Tryd.ntmps14
  go_wp2_with fail
  refine (l1New_any v n _ hn HB.out).mono ?_
  rintro e w1 ⟨⟨g, rfl, hg, hc⟩, hb1⟩
  go_wp2_with fail
  refine (l2Deep_any g w1 _ (St.refl hc)).mono ?_
  rintro e w2 ⟨⟨x, rfl, hx⟩, hst⟩
  have hT := addrText_size x
  go_wp2_with fail
  refine (spec_AddressText x _).mono ?_
  rintro e w3 ⟨rfl, hb3⟩
  have hst3 := hst.seqB hb3
  have hl := hst3.2.lt
  generalize addrText x = T at hT ⊢
  go_wp2_with fail
  refine (l1Turned_any g _ 6 _ _ 100 w1 _ (hst3.alloc _) hT (by omega) (by omega) (by simp) (by omega) (by omega) (strLit _ _ 20 [⟨#[46]⟩, ⟨#[48]⟩, ⟨#[49]⟩, ⟨#[50, 53, 54]⟩, ⟨#[32]⟩, ⟨#[45]⟩] (by decide))).mono ?_
  rintro e w4 ⟨⟨y, rfl, hy⟩, hst4⟩
  have Hy := hide hy
  clear hy
  go_wp2_with fail
  go_ret
  exact ⟨⟨_, rfl, Hy.out⟩, hst4.out hb1 hg⟩
end Go.Proofs.YtahffinjglmhhaaDoor
