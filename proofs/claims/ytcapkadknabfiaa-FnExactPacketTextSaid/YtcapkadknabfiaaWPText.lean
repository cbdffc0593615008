/-
  The walks of the laws over the texts of packets: each law returns true; what was in memory stays.
-/
import Derived.Test.YtcapkadknabfiaaPText
import Derived.Test.YtcapkadknabfiaaOpen
namespace Go.Proofs.Ytcapkadknabfiaa
open Go.RowKit
set_option linter.unusedVariables false


theorem fnExactPacketText_walk (a0 : Value) (w0 : IsPacket a0) (w : World) :
    Calls Try.prog 19 #[a0] w fun e w' => e = .returned (.bool true) ∧ Below w.heap.size w w' := by
  obtain ⟨s, d, t, p, i, b, rfl, _, _, _, _, _, hb⟩ := w0
  by_cases h : sz1 1048576 b.size < 0
  · go_enter Try.func19, Try.ntmps19
    go_wp2_with (go_at_call 81; refine (szPacket_any _ _ _ _ _ _ _ _ (by decide) (by decide) hb).mono ?_; rintro e w1 ⟨rfl, hb1⟩; obtain ⟨hc, hf⟩ := bcell hb1; have hz0 : w.heap.size < w1.heap.size := (by have := hb1.size; (try simp at this); omega))
    go_ret
    exact ⟨rfl, (by repeat (first | with_reducible exact Below.refl _ _ | with_reducible assumption | with_reducible refine Below.al ?_ _ | with_reducible refine Below.drew ?_ | with_reducible refine Below.seq ?_ (by assumption) | (with_reducible refine Below.setCell ?_ ?_ _); rotate_left; focus (first | exact Nat.le_refl _ | (simp; done) | (simp; omega))))⟩
  · have hb2 := sz1_bd _ h
    have hb3 : b.size ≤ 140737488355328 := by omega
    go_enter Try.func19, Try.ntmps19
    go_wp2_with (first
      | (go_at_call 81; refine (szPacket_any _ _ _ _ _ _ _ _ (by decide) (by decide) hb).mono ?_; rintro e w1 ⟨rfl, hb1⟩; obtain ⟨hc, hf⟩ := bcell hb1; have hz0 : w.heap.size < w1.heap.size := (by have := hb1.size; (try simp at this); omega))
      | (go_at_call 83; refine (toPacket_any _ _ _ _ _ _ _).mono ?_; rintro e w1 ⟨rfl, hb1⟩; obtain ⟨hc, hf⟩ := bcell hb1; have hz0 : w.heap.size < w1.heap.size := (by have := hb1.size; (try simp at this); omega))
      | (go_at_call 82; refine (spec_PacketText _ _ _ _ _ _ _).mono ?_; rintro e w1 ⟨rfl, hb1⟩; obtain ⟨hc, hf⟩ := bcell hb1; have hz0 : w.heap.size < w1.heap.size := (by have := hb1.size; (try simp at this); omega))
      | (go_at_call 84; refine (impl_PacketText _ _ _ _ _ _ _).mono ?_; rintro e w1 ⟨rfl, hb1⟩; obtain ⟨hc, hf⟩ := bcell hb1; have hz0 : w.heap.size < w1.heap.size := (by have := hb1.size; (try simp at this); omega)))
    go_ret
    exact ⟨rfl, (by repeat (first | with_reducible exact Below.refl _ _ | with_reducible assumption | with_reducible refine Below.al ?_ _ | with_reducible refine Below.drew ?_ | with_reducible refine Below.seq ?_ (by assumption) | (with_reducible refine Below.setCell ?_ ?_ _); rotate_left; focus (first | exact Nat.le_refl _ | (simp; done) | (simp; omega))))⟩
end Go.Proofs.Ytcapkadknabfiaa
