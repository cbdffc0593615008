/-
  A packet's fragment word, looked at by bytes.
-/
import Derived.Test.YtahffinjglmhhaaPText
namespace Go.Proofs.Ytahffinjglmhhaa
open Go.RowKit
theorem frag_fin : ∀ x y : Fin 256, (bits .andNot .i64 (((x.val * 256 + y.val : Nat)) : Int) 16384 != 0) = ((bits .and .u8 ((x.val : Nat) : Int) 191 != 0) || (((y.val : Nat) : Int) != 0)) := by decide +kernel
theorem frag (x y : Int) (a : 0 ≤ x) (b : x ≤ 255) (c : 0 ≤ y) (d : y ≤ 255) : (bits .andNot .i64 (x * 256 + y) 16384 != 0) = ((bits .and .u8 x 191 != 0) || (y != 0)) := by
  obtain ⟨x, rfl⟩ := Int.eq_ofNat_of_zero_le a
  obtain ⟨y, rfl⟩ := Int.eq_ofNat_of_zero_le c
  have h := frag_fin ⟨x, by omega⟩ ⟨y, by omega⟩
  simpa using h
end Go.Proofs.Ytahffinjglmhhaa
