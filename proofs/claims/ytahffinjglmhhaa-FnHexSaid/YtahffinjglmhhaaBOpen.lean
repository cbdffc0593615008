/-
  A slice of bytes that came in, opened.
-/
import Derived.Test.YtahffinjglmhhaaCur
import Derived.OpenShut
import Derived.ChangeOld
namespace Go.Proofs.Ytahffinjglmhhaa
open Go.RowKit
set_option linter.unusedVariables false
theorem bytes_of_cells {w : World} {x : Addr} {l c : Nat} {zs : List Int} (hl : l ≤ c) (hm : c ≤ maxLen) (hz : l ≤ zs.length) (hc : ∀ i, i < zs.length → w.cell? (x.add i) = some (.int .u8 (zs.getD i 0))) (hw : ∀ n ∈ zs, (Lit.int .u8 n).wf = true) : Bytes w (.slice (some x) l c) l := by
  rcases Nat.eq_zero_or_pos l with h0 | h0
  · subst h0; exact .inl ⟨rfl, _, _, rfl, hm⟩
  · obtain ⟨b, o, sp⟩ := x
    have hsp : sp = none := by
      have h := hc 0 (by omega)
      have e : (⟨b, o, sp⟩ : Addr).add 0 = ⟨b, o, sp⟩ := rfl
      rw [e] at h
      cases sp with
      | none => rfl
      | some q =>
        unfold World.cell? at h
        simp at h
        split at h <;> cases h
    subst hsp
    refine .inr ⟨h0, b, o, c, rfl, hl, hm, fun j hj => ?_⟩
    have h := hc j (by omega)
    have e : (⟨b, o, none⟩ : Addr).add j = ⟨b, o + j, none⟩ := by unfold Addr.add; split <;> simp_all
    rw [e] at h
    have hmem : zs.getD j 0 ∈ zs := by
      rw [List.getD_eq_getElem?_getD, List.getElem?_eq_getElem (by omega), Option.getD_some]
      exact List.getElem_mem _
    have hwf := hw _ hmem
    generalize zs.getD j 0 = q at hwf h
    simp [Lit.wf, IntKind.min, IntKind.max, IntKind.signed, IntKind.bits] at hwf
    exact ⟨_, by omega, by omega, h⟩
end Go.Proofs.Ytahffinjglmhhaa
