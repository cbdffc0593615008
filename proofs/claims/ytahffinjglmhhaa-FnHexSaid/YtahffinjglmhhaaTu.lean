/-
  A text taken as bytes, one byte turned, and taken as a text again: the runs of the two conversions.
-/
import Derived.Test.YtahffinjglmhhaaApp
import Derived.Laws.IdiomStrings
import Derived.Laws.OwnMore
namespace Go.Proofs.Ytahffinjglmhhaa
open Go.RowKit
set_option linter.unusedVariables false

theorem conv_bytes {P : Program} (w : World) (src dst e : TypeId) (s : ByteArray) (hs : P.underlying src = some .string) (hd : P.underlying dst = some (.slice e)) (he : P.underlying e = some (.int .u8)) :
    ∃ (cap : Nat) (w' : World), (convert src dst (.string s)).run P w = .ok (.slice (some ⟨w.heap.size, 0, none⟩) s.size cap) w' ∧ s.size ≤ cap ∧ w'.heap.size = w.heap.size + 1 ∧ Below w.heap.size w w' ∧
      (∀ j, j < s.size → w'.cell? ⟨w.heap.size, j, none⟩ = some (.int .u8 (byt s j))) ∧ (∀ j, j < s.size → w'.frozen? ⟨w.heap.size, j, none⟩ = false) := by
  have hcap := grownCap_ge w s.size 0 e
  have hl : s.data.size = s.size := rfl
  obtain ⟨c, hc⟩ : ∃ c, c = grownCap w s.size 0 e := ⟨_, rfl⟩
  have hrow : (bytesRow s c).size = c := by
    rw [← hc] at hcap
    simp [bytesRow]
    omega
  have hnew := heap_alloc_new w.drew (.cells (bytesRow s c) e ((bytesRow s c).size, (bytesRow s c).size + 1))
  have hnew' : (w.drew.alloc (.cells (bytesRow s c) e ((bytesRow s c).size, (bytesRow s c).size + 1))).heap[w.heap.size]? = some (.cells (bytesRow s c) e ((bytesRow s c).size, (bytesRow s c).size + 1)) := hnew
  have hr := run_bytes_of_string w src dst e s hs hd he
  rw [← hc] at hr hcap
  refine ⟨c, _, hr, hcap, by simp, (Below.refl _ _).drew.alloc (Nat.le_refl _) _, fun j hj => ?_, fun j hj => ?_⟩
  · rw [cell_of_row _ _ j _ _ _ hnew']
    unfold bytesRow byt
    have hj' : j < s.data.toList.length := by simpa using hj
    rw [Array.getElem?_append_left (by simpa using hj)]
    rw [List.getD_eq_getElem?_getD, List.getElem?_eq_getElem hj']
    simp
    exact ⟨_, Array.getElem?_eq_getElem (by simpa using hj), rfl⟩
  · unfold World.frozen?
    simp only [hnew']
    simp
    omega
theorem conv_back {P : Program} (w : World) (src dst e : TypeId) (T : ByteArray) (g k cap : Nat) (v : Int) (hs : P.underlying src = some (.slice e)) (he : P.underlying e = some (.int .u8)) (hd : P.underlying dst = some .string)
    (hk : k < T.size) (hc : ∀ j, j < T.size → w.cell? ⟨g, j, none⟩ = some (.int .u8 (byt T j))) :
    (convert src dst (.slice (some ⟨g, 0, none⟩) T.size cap)).run P (w.setCell ⟨g, k, none⟩ (.int .u8 v)) = .ok (.string (setB T k v)) (w.setCell ⟨g, k, none⟩ (.int .u8 v)) := by
  refine run_convert_bytes_arg _ src e hs he g 0 T.size cap ((nums T).set k v) (by rw [List.length_set, nums_len]) (fun i hi => ?_) dst hd
  rw [Nat.zero_add]
  by_cases hik : i = k
  · subst hik
    rw [List.getD_eq_getElem?_getD, List.getElem?_set_self (by rw [nums_len]; exact hk), Option.getD_some]
    exact World.cell?_setCell_same _ _ _ (hc i hi)
  · rw [List.getD_eq_getElem?_getD, List.getElem?_set_ne (by omega), nums_get T i hi, Option.getD_some]
    rw [← hc i hi]
    exact World.cell?_setCell_other _ _ _ _ (fun e => hik (congrArg Addr.off e).symm)
end Go.Proofs.Ytahffinjglmhhaa
