/-
  No cell of these rows narrows 'for every input' (looked for: loops, veiled, ifaces, maps, wideKeys, modest, calm, conditions, laid).
  DERIVED. THE GIVEN ROWS OF THIS SEAT. 12 by the template 'for every input the law returns true; each argument reads behind the call as it read before'; 0 by the template 'total and deterministic' (their statements: YtckcfhcgkicldaaTotals.lean).
  GIVEN WITH THE SEED: the statements are not yours to turn. If you find one false, say at which input.
  Laid BY PROGRAM, IN A SANDBOX (cutbox-rows.mjs): the forced cells as the released guide's own fill.sh prints them over the translation 2ccb3aa49bca3705… (all of the seat's roots in one cut). By AI agents, Wed Nov 11 2026. No macro, syntax, notation, axiom, sorry.
-/
import Derived.Test.YtckcfhcgkicldaaChecked
import GoSem.Claim
import GoSem.ClaimJoined
import GoSem.ClaimMapViews
import Derived.JoinedTies
import Derived.KernelRfl
namespace Go.Proofs.Ytckcfhcgkicldaa
/- THE CELL 'sum', in the pinned program and in every row, IS THE sha256 OF THE DUMP (.gsa) THAT YtckcfhcgkicldaaProg.lean LOADS. Nothing in Lean hashes anything: it is a label: what it is worth is what the hold of that sum in a sandbox is worth. -/
noncomputable def Try.pinned : Pinned := { name := "ytckcfhcgkicldaa", sum := "2ccb3aa49bca370566bb70550c7657c50fb4fb3830f9d894e7bab2343211e155", checked := Try.checked }
namespace Rows
def none {H : Type} : Left H := { results := [], args := [] }

/-- 'laws.FnExactConstants': WHATEVER THE INPUT: true; the input reads as it did. -/
def fnExactConstantsSpec : ChangeSpec := { name := "fnExactConstants", fn := fun _ => fun
  | [] => { results := [.lit (.bool true)], args := [] }
  | _ => none }
def fnExactConstantsRow : OpenClaim := { program := "ytckcfhcgkicldaa", sum := "2ccb3aa49bca370566bb70550c7657c50fb4fb3830f9d894e7bab2343211e155", func := "loop.example/g00504/laws.FnExactConstants", spec := "fnExactConstants", apart := false }
def FnExactConstantsSaid : Prop := fnExactConstantsRow.holds Try.pinned (OpenSpec.ofChange fnExactConstantsSpec)

/-- ITS FALSE NEIGHBOUR: 'it returns false'. Refute it at one input. -/
def fnExactConstantsWrong : ChangeSpec := { name := "fnExactConstants", fn := fun _ => fun
  | [] => { results := [.lit (.bool false)], args := [] }
  | _ => none }
def FnExactConstantsWrongFalsely : Prop := fnExactConstantsRow.holds Try.pinned (OpenSpec.ofChange fnExactConstantsWrong)

/-- 'laws.FnExactWordOk': WHATEVER THE INPUT: true; the input reads as it did. -/
def fnExactWordOkSpec : ChangeSpec := { name := "fnExactWordOk", fn := fun _ => fun
  | [d1, d2] => { results := [.lit (.bool true)], args := [d1, d2] }
  | _ => none }
def fnExactWordOkRow : OpenClaim := { program := "ytckcfhcgkicldaa", sum := "2ccb3aa49bca370566bb70550c7657c50fb4fb3830f9d894e7bab2343211e155", func := "loop.example/g00504/laws.FnExactWordOk", spec := "fnExactWordOk", apart := false }
def FnExactWordOkSaid : Prop := fnExactWordOkRow.holds Try.pinned (OpenSpec.ofChange fnExactWordOkSpec)

/-- ITS FALSE NEIGHBOUR: 'it returns false'. Refute it at one input. -/
def fnExactWordOkWrong : ChangeSpec := { name := "fnExactWordOk", fn := fun _ => fun
  | [d1, d2] => { results := [.lit (.bool false)], args := [d1, d2] }
  | _ => none }
def FnExactWordOkWrongFalsely : Prop := fnExactWordOkRow.holds Try.pinned (OpenSpec.ofChange fnExactWordOkWrong)

/-- 'laws.FnExactSeqAdd': WHATEVER THE INPUT: true; the input reads as it did. -/
def fnExactSeqAddSpec : ChangeSpec := { name := "fnExactSeqAdd", fn := fun _ => fun
  | [d1, d2] => { results := [.lit (.bool true)], args := [d1, d2] }
  | _ => none }
def fnExactSeqAddRow : OpenClaim := { program := "ytckcfhcgkicldaa", sum := "2ccb3aa49bca370566bb70550c7657c50fb4fb3830f9d894e7bab2343211e155", func := "loop.example/g00504/laws.FnExactSeqAdd", spec := "fnExactSeqAdd", apart := false }
def FnExactSeqAddSaid : Prop := fnExactSeqAddRow.holds Try.pinned (OpenSpec.ofChange fnExactSeqAddSpec)

/-- ITS FALSE NEIGHBOUR: 'it returns false'. Refute it at one input. -/
def fnExactSeqAddWrong : ChangeSpec := { name := "fnExactSeqAdd", fn := fun _ => fun
  | [d1, d2] => { results := [.lit (.bool false)], args := [d1, d2] }
  | _ => none }
def FnExactSeqAddWrongFalsely : Prop := fnExactSeqAddRow.holds Try.pinned (OpenSpec.ofChange fnExactSeqAddWrong)

/-- 'laws.FnExactInWindow': WHATEVER THE INPUT: true; the input reads as it did. -/
def fnExactInWindowSpec : ChangeSpec := { name := "fnExactInWindow", fn := fun _ => fun
  | [d1, d2, d3] => { results := [.lit (.bool true)], args := [d1, d2, d3] }
  | _ => none }
def fnExactInWindowRow : OpenClaim := { program := "ytckcfhcgkicldaa", sum := "2ccb3aa49bca370566bb70550c7657c50fb4fb3830f9d894e7bab2343211e155", func := "loop.example/g00504/laws.FnExactInWindow", spec := "fnExactInWindow", apart := false }
def FnExactInWindowSaid : Prop := fnExactInWindowRow.holds Try.pinned (OpenSpec.ofChange fnExactInWindowSpec)

/-- ITS FALSE NEIGHBOUR: 'it returns false'. Refute it at one input. -/
def fnExactInWindowWrong : ChangeSpec := { name := "fnExactInWindow", fn := fun _ => fun
  | [d1, d2, d3] => { results := [.lit (.bool false)], args := [d1, d2, d3] }
  | _ => none }
def FnExactInWindowWrongFalsely : Prop := fnExactInWindowRow.holds Try.pinned (OpenSpec.ofChange fnExactInWindowWrong)

/-- 'laws.FnExactSeqDiff': WHATEVER THE INPUT: true; the input reads as it did. -/
def fnExactSeqDiffSpec : ChangeSpec := { name := "fnExactSeqDiff", fn := fun _ => fun
  | [d1, d2] => { results := [.lit (.bool true)], args := [d1, d2] }
  | _ => none }
def fnExactSeqDiffRow : OpenClaim := { program := "ytckcfhcgkicldaa", sum := "2ccb3aa49bca370566bb70550c7657c50fb4fb3830f9d894e7bab2343211e155", func := "loop.example/g00504/laws.FnExactSeqDiff", spec := "fnExactSeqDiff", apart := false }
def FnExactSeqDiffSaid : Prop := fnExactSeqDiffRow.holds Try.pinned (OpenSpec.ofChange fnExactSeqDiffSpec)

/-- ITS FALSE NEIGHBOUR: 'it returns false'. Refute it at one input. -/
def fnExactSeqDiffWrong : ChangeSpec := { name := "fnExactSeqDiff", fn := fun _ => fun
  | [d1, d2] => { results := [.lit (.bool false)], args := [d1, d2] }
  | _ => none }
def FnExactSeqDiffWrongFalsely : Prop := fnExactSeqDiffRow.holds Try.pinned (OpenSpec.ofChange fnExactSeqDiffWrong)

/-- 'laws.FnExactWhyWord': WHATEVER THE INPUT: true; the input reads as it did. -/
def fnExactWhyWordSpec : ChangeSpec := { name := "fnExactWhyWord", fn := fun _ => fun
  | [d] => { results := [.lit (.bool true)], args := [d] }
  | _ => none }
def fnExactWhyWordRow : OpenClaim := { program := "ytckcfhcgkicldaa", sum := "2ccb3aa49bca370566bb70550c7657c50fb4fb3830f9d894e7bab2343211e155", func := "loop.example/g00504/laws.FnExactWhyWord", spec := "fnExactWhyWord", apart := false }
def FnExactWhyWordSaid : Prop := fnExactWhyWordRow.holds Try.pinned (OpenSpec.ofChange fnExactWhyWordSpec)

/-- ITS FALSE NEIGHBOUR: 'it returns false'. Refute it at one input. -/
def fnExactWhyWordWrong : ChangeSpec := { name := "fnExactWhyWord", fn := fun _ => fun
  | [d] => { results := [.lit (.bool false)], args := [d] }
  | _ => none }
def FnExactWhyWordWrongFalsely : Prop := fnExactWhyWordRow.holds Try.pinned (OpenSpec.ofChange fnExactWhyWordWrong)

/-- 'laws.FnExactForMe': WHATEVER THE INPUT: true; the input reads as it did. -/
def fnExactForMeSpec : ChangeSpec := { name := "fnExactForMe", fn := fun _ => fun
  | [d1, d2] => { results := [.lit (.bool true)], args := [d1, d2] }
  | _ => none }
def fnExactForMeRow : OpenClaim := { program := "ytckcfhcgkicldaa", sum := "2ccb3aa49bca370566bb70550c7657c50fb4fb3830f9d894e7bab2343211e155", func := "loop.example/g00504/laws.FnExactForMe", spec := "fnExactForMe", apart := false }
def FnExactForMeSaid : Prop := fnExactForMeRow.holds Try.pinned (OpenSpec.ofChange fnExactForMeSpec)

/-- ITS FALSE NEIGHBOUR: 'it returns false'. Refute it at one input. -/
def fnExactForMeWrong : ChangeSpec := { name := "fnExactForMe", fn := fun _ => fun
  | [d1, d2] => { results := [.lit (.bool false)], args := [d1, d2] }
  | _ => none }
def FnExactForMeWrongFalsely : Prop := fnExactForMeRow.holds Try.pinned (OpenSpec.ofChange fnExactForMeWrong)

/-- 'laws.FnSegment': WHATEVER THE INPUT: true; the input reads as it did. -/
def fnSegmentSpec : ChangeSpec := { name := "fnSegment", fn := fun _ => fun
  | [d] => { results := [.lit (.bool true)], args := [d] }
  | _ => none }
def fnSegmentRow : OpenClaim := { program := "ytckcfhcgkicldaa", sum := "2ccb3aa49bca370566bb70550c7657c50fb4fb3830f9d894e7bab2343211e155", func := "loop.example/g00504/laws.FnSegment", spec := "fnSegment", apart := false }
def FnSegmentSaid : Prop := fnSegmentRow.holds Try.pinned (OpenSpec.ofChange fnSegmentSpec)

/-- ITS FALSE NEIGHBOUR: 'it returns false'. Refute it at one input. -/
def fnSegmentWrong : ChangeSpec := { name := "fnSegment", fn := fun _ => fun
  | [d] => { results := [.lit (.bool false)], args := [d] }
  | _ => none }
def FnSegmentWrongFalsely : Prop := fnSegmentRow.holds Try.pinned (OpenSpec.ofChange fnSegmentWrong)

/-- 'laws.FnExactSeqBelow': WHATEVER THE INPUT: true; the input reads as it did. -/
def fnExactSeqBelowSpec : ChangeSpec := { name := "fnExactSeqBelow", fn := fun _ => fun
  | [d1, d2] => { results := [.lit (.bool true)], args := [d1, d2] }
  | _ => none }
def fnExactSeqBelowRow : OpenClaim := { program := "ytckcfhcgkicldaa", sum := "2ccb3aa49bca370566bb70550c7657c50fb4fb3830f9d894e7bab2343211e155", func := "loop.example/g00504/laws.FnExactSeqBelow", spec := "fnExactSeqBelow", apart := false }
def FnExactSeqBelowSaid : Prop := fnExactSeqBelowRow.holds Try.pinned (OpenSpec.ofChange fnExactSeqBelowSpec)

/-- ITS FALSE NEIGHBOUR: 'it returns false'. Refute it at one input. -/
def fnExactSeqBelowWrong : ChangeSpec := { name := "fnExactSeqBelow", fn := fun _ => fun
  | [d1, d2] => { results := [.lit (.bool false)], args := [d1, d2] }
  | _ => none }
def FnExactSeqBelowWrongFalsely : Prop := fnExactSeqBelowRow.holds Try.pinned (OpenSpec.ofChange fnExactSeqBelowWrong)

/-- 'laws.FnExactSeqUpTo': WHATEVER THE INPUT: true; the input reads as it did. -/
def fnExactSeqUpToSpec : ChangeSpec := { name := "fnExactSeqUpTo", fn := fun _ => fun
  | [d1, d2] => { results := [.lit (.bool true)], args := [d1, d2] }
  | _ => none }
def fnExactSeqUpToRow : OpenClaim := { program := "ytckcfhcgkicldaa", sum := "2ccb3aa49bca370566bb70550c7657c50fb4fb3830f9d894e7bab2343211e155", func := "loop.example/g00504/laws.FnExactSeqUpTo", spec := "fnExactSeqUpTo", apart := false }
def FnExactSeqUpToSaid : Prop := fnExactSeqUpToRow.holds Try.pinned (OpenSpec.ofChange fnExactSeqUpToSpec)

/-- ITS FALSE NEIGHBOUR: 'it returns false'. Refute it at one input. -/
def fnExactSeqUpToWrong : ChangeSpec := { name := "fnExactSeqUpTo", fn := fun _ => fun
  | [d1, d2] => { results := [.lit (.bool false)], args := [d1, d2] }
  | _ => none }
def FnExactSeqUpToWrongFalsely : Prop := fnExactSeqUpToRow.holds Try.pinned (OpenSpec.ofChange fnExactSeqUpToWrong)

/-- 'laws.FnExactFolded': WHATEVER THE INPUT: true; the input reads as it did. -/
def fnExactFoldedSpec : ChangeSpec := { name := "fnExactFolded", fn := fun _ => fun
  | [d] => { results := [.lit (.bool true)], args := [d] }
  | _ => none }
def fnExactFoldedRow : OpenClaim := { program := "ytckcfhcgkicldaa", sum := "2ccb3aa49bca370566bb70550c7657c50fb4fb3830f9d894e7bab2343211e155", func := "loop.example/g00504/laws.FnExactFolded", spec := "fnExactFolded", apart := false }
def FnExactFoldedSaid : Prop := fnExactFoldedRow.holds Try.pinned (OpenSpec.ofChange fnExactFoldedSpec)

/-- ITS FALSE NEIGHBOUR: 'it returns false'. Refute it at one input. -/
def fnExactFoldedWrong : ChangeSpec := { name := "fnExactFolded", fn := fun _ => fun
  | [d] => { results := [.lit (.bool false)], args := [d] }
  | _ => none }
def FnExactFoldedWrongFalsely : Prop := fnExactFoldedRow.holds Try.pinned (OpenSpec.ofChange fnExactFoldedWrong)

/-- 'laws.FnExactHex': WHATEVER THE INPUT: true; the input reads as it did. -/
def fnExactHexSpec : ChangeSpec := { name := "fnExactHex", fn := fun _ => fun
  | [d] => { results := [.lit (.bool true)], args := [d] }
  | _ => none }
def fnExactHexRow : OpenClaim := { program := "ytckcfhcgkicldaa", sum := "2ccb3aa49bca370566bb70550c7657c50fb4fb3830f9d894e7bab2343211e155", func := "loop.example/g00504/laws.FnExactHex", spec := "fnExactHex", apart := false }
def FnExactHexSaid : Prop := fnExactHexRow.holds Try.pinned (OpenSpec.ofChange fnExactHexSpec)

/-- ITS FALSE NEIGHBOUR: 'it returns false'. Refute it at one input. -/
def fnExactHexWrong : ChangeSpec := { name := "fnExactHex", fn := fun _ => fun
  | [d] => { results := [.lit (.bool false)], args := [d] }
  | _ => none }
def FnExactHexWrongFalsely : Prop := fnExactHexRow.holds Try.pinned (OpenSpec.ofChange fnExactHexWrong)

/- THE SECOND FORM. 'bulk': how many values and letters a reading holds, each counted each time it is reached (what is shared counts as often as it is met; a slice's spare places count too). A statement '..UptoSaid' is the law's where the arguments, and the package variables that the reading takes, are together of bulk at most 1048576: NARROWER than '..Said'. Prove '..Said' where nothing that the law and all that it calls make is longer than what came in: it says more and counts as full. Else prove '..UptoSaid'. A law counts once. -/
mutual
def uptoBulk {H : Type} : DataW H → Nat
  | .lit (.string bytes) => bytes.length + 1
  | .lit _ => 1
  | .nil => 1
  | .ptr d => uptoBulk d + 1
  | .slice elems spare => uptoBulkAll elems + uptoBulkAll spare + 1
  | .agg parts => uptoBulkAll parts + 1
  | .iface _ d => uptoBulk d + 1
  | .map entries => uptoBulkEntries entries + 1
  | .held _ => 1
def uptoBulkAll {H : Type} : List (DataW H) → Nat
  | [] => 0
  | d :: r => uptoBulk d + uptoBulkAll r
def uptoBulkEntries {H : Type} : List (Lit × DataW H) → Nat
  | [] => 0
  | x :: r => uptoBulkEntry x + uptoBulkEntries r
def uptoBulkEntry {H : Type} : Lit × DataW H → Nat
  | (.string bytes, d) => bytes.length + uptoBulk d + 1
  | (_, d) => uptoBulk d + 1
 end
def uptoSmall : (H : Type) → List (DataW H) → Bool := fun _ ds => decide (uptoBulkAll ds ≤ 1048576)
def OpenSpec.upto (s : _root_.Go.ChangeSpec) : _root_.Go.OpenSpec := { _root_.Go.OpenSpec.ofChange s with cond := some uptoSmall }

/-- 'laws.FnExactConstants', WHERE WHAT IT READS IS OF BULK AT MOST 1048576: true; the input reads as it did. -/
def fnExactConstantsUptoRow : OpenClaim := { program := "ytckcfhcgkicldaa", sum := "2ccb3aa49bca370566bb70550c7657c50fb4fb3830f9d894e7bab2343211e155", func := "loop.example/g00504/laws.FnExactConstants", spec := "fnExactConstants", apart := false, narrowed := true }
def FnExactConstantsUptoSaid : Prop := fnExactConstantsUptoRow.holds Try.pinned (OpenSpec.upto fnExactConstantsSpec)

/-- 'laws.FnExactWordOk', WHERE WHAT IT READS IS OF BULK AT MOST 1048576: true; the input reads as it did. -/
def fnExactWordOkUptoRow : OpenClaim := { program := "ytckcfhcgkicldaa", sum := "2ccb3aa49bca370566bb70550c7657c50fb4fb3830f9d894e7bab2343211e155", func := "loop.example/g00504/laws.FnExactWordOk", spec := "fnExactWordOk", apart := false, narrowed := true }
def FnExactWordOkUptoSaid : Prop := fnExactWordOkUptoRow.holds Try.pinned (OpenSpec.upto fnExactWordOkSpec)

/-- 'laws.FnExactSeqAdd', WHERE WHAT IT READS IS OF BULK AT MOST 1048576: true; the input reads as it did. -/
def fnExactSeqAddUptoRow : OpenClaim := { program := "ytckcfhcgkicldaa", sum := "2ccb3aa49bca370566bb70550c7657c50fb4fb3830f9d894e7bab2343211e155", func := "loop.example/g00504/laws.FnExactSeqAdd", spec := "fnExactSeqAdd", apart := false, narrowed := true }
def FnExactSeqAddUptoSaid : Prop := fnExactSeqAddUptoRow.holds Try.pinned (OpenSpec.upto fnExactSeqAddSpec)

/-- 'laws.FnExactInWindow', WHERE WHAT IT READS IS OF BULK AT MOST 1048576: true; the input reads as it did. -/
def fnExactInWindowUptoRow : OpenClaim := { program := "ytckcfhcgkicldaa", sum := "2ccb3aa49bca370566bb70550c7657c50fb4fb3830f9d894e7bab2343211e155", func := "loop.example/g00504/laws.FnExactInWindow", spec := "fnExactInWindow", apart := false, narrowed := true }
def FnExactInWindowUptoSaid : Prop := fnExactInWindowUptoRow.holds Try.pinned (OpenSpec.upto fnExactInWindowSpec)

/-- 'laws.FnExactSeqDiff', WHERE WHAT IT READS IS OF BULK AT MOST 1048576: true; the input reads as it did. -/
def fnExactSeqDiffUptoRow : OpenClaim := { program := "ytckcfhcgkicldaa", sum := "2ccb3aa49bca370566bb70550c7657c50fb4fb3830f9d894e7bab2343211e155", func := "loop.example/g00504/laws.FnExactSeqDiff", spec := "fnExactSeqDiff", apart := false, narrowed := true }
def FnExactSeqDiffUptoSaid : Prop := fnExactSeqDiffUptoRow.holds Try.pinned (OpenSpec.upto fnExactSeqDiffSpec)

/-- 'laws.FnExactWhyWord', WHERE WHAT IT READS IS OF BULK AT MOST 1048576: true; the input reads as it did. -/
def fnExactWhyWordUptoRow : OpenClaim := { program := "ytckcfhcgkicldaa", sum := "2ccb3aa49bca370566bb70550c7657c50fb4fb3830f9d894e7bab2343211e155", func := "loop.example/g00504/laws.FnExactWhyWord", spec := "fnExactWhyWord", apart := false, narrowed := true }
def FnExactWhyWordUptoSaid : Prop := fnExactWhyWordUptoRow.holds Try.pinned (OpenSpec.upto fnExactWhyWordSpec)

/-- 'laws.FnExactForMe', WHERE WHAT IT READS IS OF BULK AT MOST 1048576: true; the input reads as it did. -/
def fnExactForMeUptoRow : OpenClaim := { program := "ytckcfhcgkicldaa", sum := "2ccb3aa49bca370566bb70550c7657c50fb4fb3830f9d894e7bab2343211e155", func := "loop.example/g00504/laws.FnExactForMe", spec := "fnExactForMe", apart := false, narrowed := true }
def FnExactForMeUptoSaid : Prop := fnExactForMeUptoRow.holds Try.pinned (OpenSpec.upto fnExactForMeSpec)

/-- 'laws.FnSegment', WHERE WHAT IT READS IS OF BULK AT MOST 1048576: true; the input reads as it did. -/
def fnSegmentUptoRow : OpenClaim := { program := "ytckcfhcgkicldaa", sum := "2ccb3aa49bca370566bb70550c7657c50fb4fb3830f9d894e7bab2343211e155", func := "loop.example/g00504/laws.FnSegment", spec := "fnSegment", apart := false, narrowed := true }
def FnSegmentUptoSaid : Prop := fnSegmentUptoRow.holds Try.pinned (OpenSpec.upto fnSegmentSpec)

/-- 'laws.FnExactSeqBelow', WHERE WHAT IT READS IS OF BULK AT MOST 1048576: true; the input reads as it did. -/
def fnExactSeqBelowUptoRow : OpenClaim := { program := "ytckcfhcgkicldaa", sum := "2ccb3aa49bca370566bb70550c7657c50fb4fb3830f9d894e7bab2343211e155", func := "loop.example/g00504/laws.FnExactSeqBelow", spec := "fnExactSeqBelow", apart := false, narrowed := true }
def FnExactSeqBelowUptoSaid : Prop := fnExactSeqBelowUptoRow.holds Try.pinned (OpenSpec.upto fnExactSeqBelowSpec)

/-- 'laws.FnExactSeqUpTo', WHERE WHAT IT READS IS OF BULK AT MOST 1048576: true; the input reads as it did. -/
def fnExactSeqUpToUptoRow : OpenClaim := { program := "ytckcfhcgkicldaa", sum := "2ccb3aa49bca370566bb70550c7657c50fb4fb3830f9d894e7bab2343211e155", func := "loop.example/g00504/laws.FnExactSeqUpTo", spec := "fnExactSeqUpTo", apart := false, narrowed := true }
def FnExactSeqUpToUptoSaid : Prop := fnExactSeqUpToUptoRow.holds Try.pinned (OpenSpec.upto fnExactSeqUpToSpec)

/-- 'laws.FnExactFolded', WHERE WHAT IT READS IS OF BULK AT MOST 1048576: true; the input reads as it did. -/
def fnExactFoldedUptoRow : OpenClaim := { program := "ytckcfhcgkicldaa", sum := "2ccb3aa49bca370566bb70550c7657c50fb4fb3830f9d894e7bab2343211e155", func := "loop.example/g00504/laws.FnExactFolded", spec := "fnExactFolded", apart := false, narrowed := true }
def FnExactFoldedUptoSaid : Prop := fnExactFoldedUptoRow.holds Try.pinned (OpenSpec.upto fnExactFoldedSpec)

/-- 'laws.FnExactHex', WHERE WHAT IT READS IS OF BULK AT MOST 1048576: true; the input reads as it did. -/
def fnExactHexUptoRow : OpenClaim := { program := "ytckcfhcgkicldaa", sum := "2ccb3aa49bca370566bb70550c7657c50fb4fb3830f9d894e7bab2343211e155", func := "loop.example/g00504/laws.FnExactHex", spec := "fnExactHex", apart := false, narrowed := true }
def FnExactHexUptoSaid : Prop := fnExactHexUptoRow.holds Try.pinned (OpenSpec.upto fnExactHexSpec)

end Rows
end Go.Proofs.Ytckcfhcgkicldaa
