/-
  No cell of these rows narrows 'for every input' (looked for: loops, veiled, ifaces, maps, wideKeys, modest, calm, conditions, laid).
  DERIVED. THE GIVEN ROWS OF THIS SEAT. 17 by the template 'for every input the law returns true; each argument reads behind the call as it read before'; 0 by the template 'total and deterministic' (their statements: YtcapkadknabfiaaTotals.lean).
  GIVEN WITH THE SEED: the statements are not yours to turn. If you find one false, say at which input.
  Laid BY PROGRAM, IN A SANDBOX (cutbox-rows.mjs): the forced cells as the released guide's own fill.sh prints them over the translation 2d3d1eecec26317d… (all of the seat's roots in one cut). By AI agents, Wed Nov 11 2026. No macro, syntax, notation, axiom, sorry.
-/
import Derived.Test.YtcapkadknabfiaaChecked
import GoSem.Claim
import GoSem.ClaimJoined
import GoSem.ClaimMapViews
import Derived.JoinedTies
import Derived.KernelRfl
namespace Go.Proofs.Ytcapkadknabfiaa
/- THE CELL 'sum', in the pinned program and in every row, IS THE sha256 OF THE DUMP (.gsa) THAT YtcapkadknabfiaaProg.lean LOADS. Nothing in Lean hashes anything: it is a label: what it is worth is what the hold of that sum in a sandbox is worth. -/
noncomputable def Try.pinned : Pinned := { name := "ytcapkadknabfiaa", sum := "2d3d1eecec26317de9e34630c9834c336f7f7961feda74a4b8ffbac491b362d1", checked := Try.checked }
namespace Rows
def none {H : Type} : Left H := { results := [], args := [] }

/-- 'laws.FnExactArpReply': WHATEVER THE INPUT: true; the input reads as it did. -/
def fnExactArpReplySpec : ChangeSpec := { name := "fnExactArpReply", fn := fun _ => fun
  | [d1, d2, d3] => { results := [.lit (.bool true)], args := [d1, d2, d3] }
  | _ => none }
def fnExactArpReplyRow : OpenClaim := { program := "ytcapkadknabfiaa", sum := "2d3d1eecec26317de9e34630c9834c336f7f7961feda74a4b8ffbac491b362d1", func := "loop.example/g00504/laws.FnExactArpReply", spec := "fnExactArpReply", apart := false }
def FnExactArpReplySaid : Prop := fnExactArpReplyRow.holds Try.pinned (OpenSpec.ofChange fnExactArpReplySpec)

/-- ITS FALSE NEIGHBOUR: 'it returns false'. Refute it at one input. -/
def fnExactArpReplyWrong : ChangeSpec := { name := "fnExactArpReply", fn := fun _ => fun
  | [d1, d2, d3] => { results := [.lit (.bool false)], args := [d1, d2, d3] }
  | _ => none }
def FnExactArpReplyWrongFalsely : Prop := fnExactArpReplyRow.holds Try.pinned (OpenSpec.ofChange fnExactArpReplyWrong)

/-- 'laws.FnExactSegmentOk': WHATEVER THE INPUT: true; the input reads as it did. -/
def fnExactSegmentOkSpec : ChangeSpec := { name := "fnExactSegmentOk", fn := fun _ => fun
  | [d] => { results := [.lit (.bool true)], args := [d] }
  | _ => none }
def fnExactSegmentOkRow : OpenClaim := { program := "ytcapkadknabfiaa", sum := "2d3d1eecec26317de9e34630c9834c336f7f7961feda74a4b8ffbac491b362d1", func := "loop.example/g00504/laws.FnExactSegmentOk", spec := "fnExactSegmentOk", apart := false }
def FnExactSegmentOkSaid : Prop := fnExactSegmentOkRow.holds Try.pinned (OpenSpec.ofChange fnExactSegmentOkSpec)

/-- ITS FALSE NEIGHBOUR: 'it returns false'. Refute it at one input. -/
def fnExactSegmentOkWrong : ChangeSpec := { name := "fnExactSegmentOk", fn := fun _ => fun
  | [d] => { results := [.lit (.bool false)], args := [d] }
  | _ => none }
def FnExactSegmentOkWrongFalsely : Prop := fnExactSegmentOkRow.holds Try.pinned (OpenSpec.ofChange fnExactSegmentOkWrong)

/-- 'laws.FnExactArpText': WHATEVER THE INPUT: true; the input reads as it did. -/
def fnExactArpTextSpec : ChangeSpec := { name := "fnExactArpText", fn := fun _ => fun
  | [d] => { results := [.lit (.bool true)], args := [d] }
  | _ => none }
def fnExactArpTextRow : OpenClaim := { program := "ytcapkadknabfiaa", sum := "2d3d1eecec26317de9e34630c9834c336f7f7961feda74a4b8ffbac491b362d1", func := "loop.example/g00504/laws.FnExactArpText", spec := "fnExactArpText", apart := false }
def FnExactArpTextSaid : Prop := fnExactArpTextRow.holds Try.pinned (OpenSpec.ofChange fnExactArpTextSpec)

/-- ITS FALSE NEIGHBOUR: 'it returns false'. Refute it at one input. -/
def fnExactArpTextWrong : ChangeSpec := { name := "fnExactArpText", fn := fun _ => fun
  | [d] => { results := [.lit (.bool false)], args := [d] }
  | _ => none }
def FnExactArpTextWrongFalsely : Prop := fnExactArpTextRow.holds Try.pinned (OpenSpec.ofChange fnExactArpTextWrong)

/-- 'laws.FnExactParts': WHATEVER THE INPUT: true; the input reads as it did. -/
def fnExactPartsSpec : ChangeSpec := { name := "fnExactParts", fn := fun _ => fun
  | [d1, d2] => { results := [.lit (.bool true)], args := [d1, d2] }
  | _ => none }
def fnExactPartsRow : OpenClaim := { program := "ytcapkadknabfiaa", sum := "2d3d1eecec26317de9e34630c9834c336f7f7961feda74a4b8ffbac491b362d1", func := "loop.example/g00504/laws.FnExactParts", spec := "fnExactParts", apart := false }
def FnExactPartsSaid : Prop := fnExactPartsRow.holds Try.pinned (OpenSpec.ofChange fnExactPartsSpec)

/-- ITS FALSE NEIGHBOUR: 'it returns false'. Refute it at one input. -/
def fnExactPartsWrong : ChangeSpec := { name := "fnExactParts", fn := fun _ => fun
  | [d1, d2] => { results := [.lit (.bool false)], args := [d1, d2] }
  | _ => none }
def FnExactPartsWrongFalsely : Prop := fnExactPartsRow.holds Try.pinned (OpenSpec.ofChange fnExactPartsWrong)

/-- 'laws.FnExactFrameText': WHATEVER THE INPUT: true; the input reads as it did. -/
def fnExactFrameTextSpec : ChangeSpec := { name := "fnExactFrameText", fn := fun _ => fun
  | [d] => { results := [.lit (.bool true)], args := [d] }
  | _ => none }
def fnExactFrameTextRow : OpenClaim := { program := "ytcapkadknabfiaa", sum := "2d3d1eecec26317de9e34630c9834c336f7f7961feda74a4b8ffbac491b362d1", func := "loop.example/g00504/laws.FnExactFrameText", spec := "fnExactFrameText", apart := false }
def FnExactFrameTextSaid : Prop := fnExactFrameTextRow.holds Try.pinned (OpenSpec.ofChange fnExactFrameTextSpec)

/-- ITS FALSE NEIGHBOUR: 'it returns false'. Refute it at one input. -/
def fnExactFrameTextWrong : ChangeSpec := { name := "fnExactFrameText", fn := fun _ => fun
  | [d] => { results := [.lit (.bool false)], args := [d] }
  | _ => none }
def FnExactFrameTextWrongFalsely : Prop := fnExactFrameTextRow.holds Try.pinned (OpenSpec.ofChange fnExactFrameTextWrong)

/-- 'laws.FnFolded': WHATEVER THE INPUT: true; the input reads as it did. -/
def fnFoldedSpec : ChangeSpec := { name := "fnFolded", fn := fun _ => fun
  | [d] => { results := [.lit (.bool true)], args := [d] }
  | _ => none }
def fnFoldedRow : OpenClaim := { program := "ytcapkadknabfiaa", sum := "2d3d1eecec26317de9e34630c9834c336f7f7961feda74a4b8ffbac491b362d1", func := "loop.example/g00504/laws.FnFolded", spec := "fnFolded", apart := false }
def FnFoldedSaid : Prop := fnFoldedRow.holds Try.pinned (OpenSpec.ofChange fnFoldedSpec)

/-- ITS FALSE NEIGHBOUR: 'it returns false'. Refute it at one input. -/
def fnFoldedWrong : ChangeSpec := { name := "fnFolded", fn := fun _ => fun
  | [d] => { results := [.lit (.bool false)], args := [d] }
  | _ => none }
def FnFoldedWrongFalsely : Prop := fnFoldedRow.holds Try.pinned (OpenSpec.ofChange fnFoldedWrong)

/-- 'laws.FnWordRead': WHATEVER THE INPUT: true; the input reads as it did. -/
def fnWordReadSpec : ChangeSpec := { name := "fnWordRead", fn := fun _ => fun
  | [d] => { results := [.lit (.bool true)], args := [d] }
  | _ => none }
def fnWordReadRow : OpenClaim := { program := "ytcapkadknabfiaa", sum := "2d3d1eecec26317de9e34630c9834c336f7f7961feda74a4b8ffbac491b362d1", func := "loop.example/g00504/laws.FnWordRead", spec := "fnWordRead", apart := false }
def FnWordReadSaid : Prop := fnWordReadRow.holds Try.pinned (OpenSpec.ofChange fnWordReadSpec)

/-- ITS FALSE NEIGHBOUR: 'it returns false'. Refute it at one input. -/
def fnWordReadWrong : ChangeSpec := { name := "fnWordRead", fn := fun _ => fun
  | [d] => { results := [.lit (.bool false)], args := [d] }
  | _ => none }
def FnWordReadWrongFalsely : Prop := fnWordReadRow.holds Try.pinned (OpenSpec.ofChange fnWordReadWrong)

/-- 'laws.FnSumParts': WHATEVER THE INPUT: true; the input reads as it did. -/
def fnSumPartsSpec : ChangeSpec := { name := "fnSumParts", fn := fun _ => fun
  | [d] => { results := [.lit (.bool true)], args := [d] }
  | _ => none }
def fnSumPartsRow : OpenClaim := { program := "ytcapkadknabfiaa", sum := "2d3d1eecec26317de9e34630c9834c336f7f7961feda74a4b8ffbac491b362d1", func := "loop.example/g00504/laws.FnSumParts", spec := "fnSumParts", apart := false }
def FnSumPartsSaid : Prop := fnSumPartsRow.holds Try.pinned (OpenSpec.ofChange fnSumPartsSpec)

/-- ITS FALSE NEIGHBOUR: 'it returns false'. Refute it at one input. -/
def fnSumPartsWrong : ChangeSpec := { name := "fnSumParts", fn := fun _ => fun
  | [d] => { results := [.lit (.bool false)], args := [d] }
  | _ => none }
def FnSumPartsWrongFalsely : Prop := fnSumPartsRow.holds Try.pinned (OpenSpec.ofChange fnSumPartsWrong)

/-- 'laws.FnSeq': WHATEVER THE INPUT: true; the input reads as it did. -/
def fnSeqSpec : ChangeSpec := { name := "fnSeq", fn := fun _ => fun
  | [d] => { results := [.lit (.bool true)], args := [d] }
  | _ => none }
def fnSeqRow : OpenClaim := { program := "ytcapkadknabfiaa", sum := "2d3d1eecec26317de9e34630c9834c336f7f7961feda74a4b8ffbac491b362d1", func := "loop.example/g00504/laws.FnSeq", spec := "fnSeq", apart := false }
def FnSeqSaid : Prop := fnSeqRow.holds Try.pinned (OpenSpec.ofChange fnSeqSpec)

/-- ITS FALSE NEIGHBOUR: 'it returns false'. Refute it at one input. -/
def fnSeqWrong : ChangeSpec := { name := "fnSeq", fn := fun _ => fun
  | [d] => { results := [.lit (.bool false)], args := [d] }
  | _ => none }
def FnSeqWrongFalsely : Prop := fnSeqRow.holds Try.pinned (OpenSpec.ofChange fnSeqWrong)

/-- 'laws.FnExactReadFrame': WHATEVER THE INPUT: true; the input reads as it did. -/
def fnExactReadFrameSpec : ChangeSpec := { name := "fnExactReadFrame", fn := fun _ => fun
  | [d] => { results := [.lit (.bool true)], args := [d] }
  | _ => none }
def fnExactReadFrameRow : OpenClaim := { program := "ytcapkadknabfiaa", sum := "2d3d1eecec26317de9e34630c9834c336f7f7961feda74a4b8ffbac491b362d1", func := "loop.example/g00504/laws.FnExactReadFrame", spec := "fnExactReadFrame", apart := false }
def FnExactReadFrameSaid : Prop := fnExactReadFrameRow.holds Try.pinned (OpenSpec.ofChange fnExactReadFrameSpec)

/-- ITS FALSE NEIGHBOUR: 'it returns false'. Refute it at one input. -/
def fnExactReadFrameWrong : ChangeSpec := { name := "fnExactReadFrame", fn := fun _ => fun
  | [d] => { results := [.lit (.bool false)], args := [d] }
  | _ => none }
def FnExactReadFrameWrongFalsely : Prop := fnExactReadFrameRow.holds Try.pinned (OpenSpec.ofChange fnExactReadFrameWrong)

/-- 'laws.FnWord': WHATEVER THE INPUT: true; the input reads as it did. -/
def fnWordSpec : ChangeSpec := { name := "fnWord", fn := fun _ => fun
  | [d] => { results := [.lit (.bool true)], args := [d] }
  | _ => none }
def fnWordRow : OpenClaim := { program := "ytcapkadknabfiaa", sum := "2d3d1eecec26317de9e34630c9834c336f7f7961feda74a4b8ffbac491b362d1", func := "loop.example/g00504/laws.FnWord", spec := "fnWord", apart := false }
def FnWordSaid : Prop := fnWordRow.holds Try.pinned (OpenSpec.ofChange fnWordSpec)

/-- ITS FALSE NEIGHBOUR: 'it returns false'. Refute it at one input. -/
def fnWordWrong : ChangeSpec := { name := "fnWord", fn := fun _ => fun
  | [d] => { results := [.lit (.bool false)], args := [d] }
  | _ => none }
def FnWordWrongFalsely : Prop := fnWordRow.holds Try.pinned (OpenSpec.ofChange fnWordWrong)

/-- 'laws.FnExactOptionsText': WHATEVER THE INPUT: true; the input reads as it did. -/
def fnExactOptionsTextSpec : ChangeSpec := { name := "fnExactOptionsText", fn := fun _ => fun
  | [d] => { results := [.lit (.bool true)], args := [d] }
  | _ => none }
def fnExactOptionsTextRow : OpenClaim := { program := "ytcapkadknabfiaa", sum := "2d3d1eecec26317de9e34630c9834c336f7f7961feda74a4b8ffbac491b362d1", func := "loop.example/g00504/laws.FnExactOptionsText", spec := "fnExactOptionsText", apart := false }
def FnExactOptionsTextSaid : Prop := fnExactOptionsTextRow.holds Try.pinned (OpenSpec.ofChange fnExactOptionsTextSpec)

/-- ITS FALSE NEIGHBOUR: 'it returns false'. Refute it at one input. -/
def fnExactOptionsTextWrong : ChangeSpec := { name := "fnExactOptionsText", fn := fun _ => fun
  | [d] => { results := [.lit (.bool false)], args := [d] }
  | _ => none }
def FnExactOptionsTextWrongFalsely : Prop := fnExactOptionsTextRow.holds Try.pinned (OpenSpec.ofChange fnExactOptionsTextWrong)

/-- 'laws.FnExactReadArp': WHATEVER THE INPUT: true; the input reads as it did. -/
def fnExactReadArpSpec : ChangeSpec := { name := "fnExactReadArp", fn := fun _ => fun
  | [d] => { results := [.lit (.bool true)], args := [d] }
  | _ => none }
def fnExactReadArpRow : OpenClaim := { program := "ytcapkadknabfiaa", sum := "2d3d1eecec26317de9e34630c9834c336f7f7961feda74a4b8ffbac491b362d1", func := "loop.example/g00504/laws.FnExactReadArp", spec := "fnExactReadArp", apart := false }
def FnExactReadArpSaid : Prop := fnExactReadArpRow.holds Try.pinned (OpenSpec.ofChange fnExactReadArpSpec)

/-- ITS FALSE NEIGHBOUR: 'it returns false'. Refute it at one input. -/
def fnExactReadArpWrong : ChangeSpec := { name := "fnExactReadArp", fn := fun _ => fun
  | [d] => { results := [.lit (.bool false)], args := [d] }
  | _ => none }
def FnExactReadArpWrongFalsely : Prop := fnExactReadArpRow.holds Try.pinned (OpenSpec.ofChange fnExactReadArpWrong)

/-- 'laws.FnSum': WHATEVER THE INPUT: true; the input reads as it did. -/
def fnSumSpec : ChangeSpec := { name := "fnSum", fn := fun _ => fun
  | [d] => { results := [.lit (.bool true)], args := [d] }
  | _ => none }
def fnSumRow : OpenClaim := { program := "ytcapkadknabfiaa", sum := "2d3d1eecec26317de9e34630c9834c336f7f7961feda74a4b8ffbac491b362d1", func := "loop.example/g00504/laws.FnSum", spec := "fnSum", apart := false }
def FnSumSaid : Prop := fnSumRow.holds Try.pinned (OpenSpec.ofChange fnSumSpec)

/-- ITS FALSE NEIGHBOUR: 'it returns false'. Refute it at one input. -/
def fnSumWrong : ChangeSpec := { name := "fnSum", fn := fun _ => fun
  | [d] => { results := [.lit (.bool false)], args := [d] }
  | _ => none }
def FnSumWrongFalsely : Prop := fnSumRow.holds Try.pinned (OpenSpec.ofChange fnSumWrong)

/-- 'laws.FnWindow': WHATEVER THE INPUT: true; the input reads as it did. -/
def fnWindowSpec : ChangeSpec := { name := "fnWindow", fn := fun _ => fun
  | [d] => { results := [.lit (.bool true)], args := [d] }
  | _ => none }
def fnWindowRow : OpenClaim := { program := "ytcapkadknabfiaa", sum := "2d3d1eecec26317de9e34630c9834c336f7f7961feda74a4b8ffbac491b362d1", func := "loop.example/g00504/laws.FnWindow", spec := "fnWindow", apart := false }
def FnWindowSaid : Prop := fnWindowRow.holds Try.pinned (OpenSpec.ofChange fnWindowSpec)

/-- ITS FALSE NEIGHBOUR: 'it returns false'. Refute it at one input. -/
def fnWindowWrong : ChangeSpec := { name := "fnWindow", fn := fun _ => fun
  | [d] => { results := [.lit (.bool false)], args := [d] }
  | _ => none }
def FnWindowWrongFalsely : Prop := fnWindowRow.holds Try.pinned (OpenSpec.ofChange fnWindowWrong)

/-- 'laws.FnSeqOrder': WHATEVER THE INPUT: true; the input reads as it did. -/
def fnSeqOrderSpec : ChangeSpec := { name := "fnSeqOrder", fn := fun _ => fun
  | [d] => { results := [.lit (.bool true)], args := [d] }
  | _ => none }
def fnSeqOrderRow : OpenClaim := { program := "ytcapkadknabfiaa", sum := "2d3d1eecec26317de9e34630c9834c336f7f7961feda74a4b8ffbac491b362d1", func := "loop.example/g00504/laws.FnSeqOrder", spec := "fnSeqOrder", apart := false }
def FnSeqOrderSaid : Prop := fnSeqOrderRow.holds Try.pinned (OpenSpec.ofChange fnSeqOrderSpec)

/-- ITS FALSE NEIGHBOUR: 'it returns false'. Refute it at one input. -/
def fnSeqOrderWrong : ChangeSpec := { name := "fnSeqOrder", fn := fun _ => fun
  | [d] => { results := [.lit (.bool false)], args := [d] }
  | _ => none }
def FnSeqOrderWrongFalsely : Prop := fnSeqOrderRow.holds Try.pinned (OpenSpec.ofChange fnSeqOrderWrong)

/-- 'laws.FnExactPacketText': WHATEVER THE INPUT: true; the input reads as it did. -/
def fnExactPacketTextSpec : ChangeSpec := { name := "fnExactPacketText", fn := fun _ => fun
  | [d] => { results := [.lit (.bool true)], args := [d] }
  | _ => none }
def fnExactPacketTextRow : OpenClaim := { program := "ytcapkadknabfiaa", sum := "2d3d1eecec26317de9e34630c9834c336f7f7961feda74a4b8ffbac491b362d1", func := "loop.example/g00504/laws.FnExactPacketText", spec := "fnExactPacketText", apart := false }
def FnExactPacketTextSaid : Prop := fnExactPacketTextRow.holds Try.pinned (OpenSpec.ofChange fnExactPacketTextSpec)

/-- ITS FALSE NEIGHBOUR: 'it returns false'. Refute it at one input. -/
def fnExactPacketTextWrong : ChangeSpec := { name := "fnExactPacketText", fn := fun _ => fun
  | [d] => { results := [.lit (.bool false)], args := [d] }
  | _ => none }
def FnExactPacketTextWrongFalsely : Prop := fnExactPacketTextRow.holds Try.pinned (OpenSpec.ofChange fnExactPacketTextWrong)

/- THE SECOND FORM. 'bulk': how many values and letters a reading holds, each counted each time it is reached (what is shared counts as often as it is met; a slice's spare places count too). A statement '..UptoSaid' is the law's where the arguments, and the package variables that the reading takes, are together of bulk at most 1048576: NARROWER than '..Said'. Prove '..Said' where nothing that the law and all that it calls make is longer than what came in: it says more and counts as full. Else prove '..UptoSaid'. A law counts once. -/
mutual
def uptoBulk {H : Type} : DataW H → Nat
  | .lit (.string bytes) => bytes.length + 1
  | .lit _ => 1
  | .nil => 1
  | .ptr d => uptoBulk d + 1
  | .slice elems spare => uptoBulkAll elems + uptoBulkAll spare + 1
  | .agg parts => uptoBulkAll parts + 1
  | .iface _ d => uptoBulk d + 1
  | .map entries => uptoBulkEntries entries + 1
  | .held _ => 1
def uptoBulkAll {H : Type} : List (DataW H) → Nat
  | [] => 0
  | d :: r => uptoBulk d + uptoBulkAll r
def uptoBulkEntries {H : Type} : List (Lit × DataW H) → Nat
  | [] => 0
  | x :: r => uptoBulkEntry x + uptoBulkEntries r
def uptoBulkEntry {H : Type} : Lit × DataW H → Nat
  | (.string bytes, d) => bytes.length + uptoBulk d + 1
  | (_, d) => uptoBulk d + 1
 end
def uptoSmall : (H : Type) → List (DataW H) → Bool := fun _ ds => decide (uptoBulkAll ds ≤ 1048576)
def OpenSpec.upto (s : _root_.Go.ChangeSpec) : _root_.Go.OpenSpec := { _root_.Go.OpenSpec.ofChange s with cond := some uptoSmall }

/-- 'laws.FnExactArpReply', WHERE WHAT IT READS IS OF BULK AT MOST 1048576: true; the input reads as it did. -/
def fnExactArpReplyUptoRow : OpenClaim := { program := "ytcapkadknabfiaa", sum := "2d3d1eecec26317de9e34630c9834c336f7f7961feda74a4b8ffbac491b362d1", func := "loop.example/g00504/laws.FnExactArpReply", spec := "fnExactArpReply", apart := false, narrowed := true }
def FnExactArpReplyUptoSaid : Prop := fnExactArpReplyUptoRow.holds Try.pinned (OpenSpec.upto fnExactArpReplySpec)

/-- 'laws.FnExactSegmentOk', WHERE WHAT IT READS IS OF BULK AT MOST 1048576: true; the input reads as it did. -/
def fnExactSegmentOkUptoRow : OpenClaim := { program := "ytcapkadknabfiaa", sum := "2d3d1eecec26317de9e34630c9834c336f7f7961feda74a4b8ffbac491b362d1", func := "loop.example/g00504/laws.FnExactSegmentOk", spec := "fnExactSegmentOk", apart := false, narrowed := true }
def FnExactSegmentOkUptoSaid : Prop := fnExactSegmentOkUptoRow.holds Try.pinned (OpenSpec.upto fnExactSegmentOkSpec)

/-- 'laws.FnExactArpText', WHERE WHAT IT READS IS OF BULK AT MOST 1048576: true; the input reads as it did. -/
def fnExactArpTextUptoRow : OpenClaim := { program := "ytcapkadknabfiaa", sum := "2d3d1eecec26317de9e34630c9834c336f7f7961feda74a4b8ffbac491b362d1", func := "loop.example/g00504/laws.FnExactArpText", spec := "fnExactArpText", apart := false, narrowed := true }
def FnExactArpTextUptoSaid : Prop := fnExactArpTextUptoRow.holds Try.pinned (OpenSpec.upto fnExactArpTextSpec)

/-- 'laws.FnExactParts', WHERE WHAT IT READS IS OF BULK AT MOST 1048576: true; the input reads as it did. -/
def fnExactPartsUptoRow : OpenClaim := { program := "ytcapkadknabfiaa", sum := "2d3d1eecec26317de9e34630c9834c336f7f7961feda74a4b8ffbac491b362d1", func := "loop.example/g00504/laws.FnExactParts", spec := "fnExactParts", apart := false, narrowed := true }
def FnExactPartsUptoSaid : Prop := fnExactPartsUptoRow.holds Try.pinned (OpenSpec.upto fnExactPartsSpec)

/-- 'laws.FnExactFrameText', WHERE WHAT IT READS IS OF BULK AT MOST 1048576: true; the input reads as it did. -/
def fnExactFrameTextUptoRow : OpenClaim := { program := "ytcapkadknabfiaa", sum := "2d3d1eecec26317de9e34630c9834c336f7f7961feda74a4b8ffbac491b362d1", func := "loop.example/g00504/laws.FnExactFrameText", spec := "fnExactFrameText", apart := false, narrowed := true }
def FnExactFrameTextUptoSaid : Prop := fnExactFrameTextUptoRow.holds Try.pinned (OpenSpec.upto fnExactFrameTextSpec)

/-- 'laws.FnFolded', WHERE WHAT IT READS IS OF BULK AT MOST 1048576: true; the input reads as it did. -/
def fnFoldedUptoRow : OpenClaim := { program := "ytcapkadknabfiaa", sum := "2d3d1eecec26317de9e34630c9834c336f7f7961feda74a4b8ffbac491b362d1", func := "loop.example/g00504/laws.FnFolded", spec := "fnFolded", apart := false, narrowed := true }
def FnFoldedUptoSaid : Prop := fnFoldedUptoRow.holds Try.pinned (OpenSpec.upto fnFoldedSpec)

/-- 'laws.FnWordRead', WHERE WHAT IT READS IS OF BULK AT MOST 1048576: true; the input reads as it did. -/
def fnWordReadUptoRow : OpenClaim := { program := "ytcapkadknabfiaa", sum := "2d3d1eecec26317de9e34630c9834c336f7f7961feda74a4b8ffbac491b362d1", func := "loop.example/g00504/laws.FnWordRead", spec := "fnWordRead", apart := false, narrowed := true }
def FnWordReadUptoSaid : Prop := fnWordReadUptoRow.holds Try.pinned (OpenSpec.upto fnWordReadSpec)

/-- 'laws.FnSumParts', WHERE WHAT IT READS IS OF BULK AT MOST 1048576: true; the input reads as it did. -/
def fnSumPartsUptoRow : OpenClaim := { program := "ytcapkadknabfiaa", sum := "2d3d1eecec26317de9e34630c9834c336f7f7961feda74a4b8ffbac491b362d1", func := "loop.example/g00504/laws.FnSumParts", spec := "fnSumParts", apart := false, narrowed := true }
def FnSumPartsUptoSaid : Prop := fnSumPartsUptoRow.holds Try.pinned (OpenSpec.upto fnSumPartsSpec)

/-- 'laws.FnSeq', WHERE WHAT IT READS IS OF BULK AT MOST 1048576: true; the input reads as it did. -/
def fnSeqUptoRow : OpenClaim := { program := "ytcapkadknabfiaa", sum := "2d3d1eecec26317de9e34630c9834c336f7f7961feda74a4b8ffbac491b362d1", func := "loop.example/g00504/laws.FnSeq", spec := "fnSeq", apart := false, narrowed := true }
def FnSeqUptoSaid : Prop := fnSeqUptoRow.holds Try.pinned (OpenSpec.upto fnSeqSpec)

/-- 'laws.FnExactReadFrame', WHERE WHAT IT READS IS OF BULK AT MOST 1048576: true; the input reads as it did. -/
def fnExactReadFrameUptoRow : OpenClaim := { program := "ytcapkadknabfiaa", sum := "2d3d1eecec26317de9e34630c9834c336f7f7961feda74a4b8ffbac491b362d1", func := "loop.example/g00504/laws.FnExactReadFrame", spec := "fnExactReadFrame", apart := false, narrowed := true }
def FnExactReadFrameUptoSaid : Prop := fnExactReadFrameUptoRow.holds Try.pinned (OpenSpec.upto fnExactReadFrameSpec)

/-- 'laws.FnWord', WHERE WHAT IT READS IS OF BULK AT MOST 1048576: true; the input reads as it did. -/
def fnWordUptoRow : OpenClaim := { program := "ytcapkadknabfiaa", sum := "2d3d1eecec26317de9e34630c9834c336f7f7961feda74a4b8ffbac491b362d1", func := "loop.example/g00504/laws.FnWord", spec := "fnWord", apart := false, narrowed := true }
def FnWordUptoSaid : Prop := fnWordUptoRow.holds Try.pinned (OpenSpec.upto fnWordSpec)

/-- 'laws.FnExactOptionsText', WHERE WHAT IT READS IS OF BULK AT MOST 1048576: true; the input reads as it did. -/
def fnExactOptionsTextUptoRow : OpenClaim := { program := "ytcapkadknabfiaa", sum := "2d3d1eecec26317de9e34630c9834c336f7f7961feda74a4b8ffbac491b362d1", func := "loop.example/g00504/laws.FnExactOptionsText", spec := "fnExactOptionsText", apart := false, narrowed := true }
def FnExactOptionsTextUptoSaid : Prop := fnExactOptionsTextUptoRow.holds Try.pinned (OpenSpec.upto fnExactOptionsTextSpec)

/-- 'laws.FnExactReadArp', WHERE WHAT IT READS IS OF BULK AT MOST 1048576: true; the input reads as it did. -/
def fnExactReadArpUptoRow : OpenClaim := { program := "ytcapkadknabfiaa", sum := "2d3d1eecec26317de9e34630c9834c336f7f7961feda74a4b8ffbac491b362d1", func := "loop.example/g00504/laws.FnExactReadArp", spec := "fnExactReadArp", apart := false, narrowed := true }
def FnExactReadArpUptoSaid : Prop := fnExactReadArpUptoRow.holds Try.pinned (OpenSpec.upto fnExactReadArpSpec)

/-- 'laws.FnSum', WHERE WHAT IT READS IS OF BULK AT MOST 1048576: true; the input reads as it did. -/
def fnSumUptoRow : OpenClaim := { program := "ytcapkadknabfiaa", sum := "2d3d1eecec26317de9e34630c9834c336f7f7961feda74a4b8ffbac491b362d1", func := "loop.example/g00504/laws.FnSum", spec := "fnSum", apart := false, narrowed := true }
def FnSumUptoSaid : Prop := fnSumUptoRow.holds Try.pinned (OpenSpec.upto fnSumSpec)

/-- 'laws.FnWindow', WHERE WHAT IT READS IS OF BULK AT MOST 1048576: true; the input reads as it did. -/
def fnWindowUptoRow : OpenClaim := { program := "ytcapkadknabfiaa", sum := "2d3d1eecec26317de9e34630c9834c336f7f7961feda74a4b8ffbac491b362d1", func := "loop.example/g00504/laws.FnWindow", spec := "fnWindow", apart := false, narrowed := true }
def FnWindowUptoSaid : Prop := fnWindowUptoRow.holds Try.pinned (OpenSpec.upto fnWindowSpec)

/-- 'laws.FnSeqOrder', WHERE WHAT IT READS IS OF BULK AT MOST 1048576: true; the input reads as it did. -/
def fnSeqOrderUptoRow : OpenClaim := { program := "ytcapkadknabfiaa", sum := "2d3d1eecec26317de9e34630c9834c336f7f7961feda74a4b8ffbac491b362d1", func := "loop.example/g00504/laws.FnSeqOrder", spec := "fnSeqOrder", apart := false, narrowed := true }
def FnSeqOrderUptoSaid : Prop := fnSeqOrderUptoRow.holds Try.pinned (OpenSpec.upto fnSeqOrderSpec)

/-- 'laws.FnExactPacketText', WHERE WHAT IT READS IS OF BULK AT MOST 1048576: true; the input reads as it did. -/
def fnExactPacketTextUptoRow : OpenClaim := { program := "ytcapkadknabfiaa", sum := "2d3d1eecec26317de9e34630c9834c336f7f7961feda74a4b8ffbac491b362d1", func := "loop.example/g00504/laws.FnExactPacketText", spec := "fnExactPacketText", apart := false, narrowed := true }
def FnExactPacketTextUptoSaid : Prop := fnExactPacketTextUptoRow.holds Try.pinned (OpenSpec.upto fnExactPacketTextSpec)

end Rows
end Go.Proofs.Ytcapkadknabfiaa
