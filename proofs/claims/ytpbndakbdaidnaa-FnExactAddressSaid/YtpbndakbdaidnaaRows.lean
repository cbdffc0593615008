/-
  No cell of these rows narrows 'for every input' (looked for: loops, veiled, ifaces, maps, wideKeys, modest, calm, conditions, laid).
  DERIVED. THE GIVEN ROWS OF THIS SEAT. 6 by the template 'for every input the law returns true; each argument reads behind the call as it read before'; 0 by the template 'total and deterministic' (their statements: YtpbndakbdaidnaaTotals.lean).
  GIVEN WITH THE SEED: the statements are not yours to turn. If you find one false, say at which input.
  Laid BY PROGRAM, IN A SANDBOX (cutbox-rows.mjs): the forced cells as the released guide's own fill.sh prints them over the translation d8ec613210dde524… (all of the seat's roots in one cut). By AI agents, Wed Nov 11 2026. No macro, syntax, notation, axiom, sorry.
-/
import Derived.Test.YtpbndakbdaidnaaChecked
import GoSem.Claim
import GoSem.ClaimJoined
import GoSem.ClaimMapViews
import Derived.JoinedTies
import Derived.KernelRfl
namespace Go.Proofs.Ytpbndakbdaidnaa
/- THE CELL 'sum', in the pinned program and in every row, IS THE sha256 OF THE DUMP (.gsa) THAT YtpbndakbdaidnaaProg.lean LOADS. Nothing in Lean hashes anything: it is a label: what it is worth is what the hold of that sum in a sandbox is worth. -/
noncomputable def Try.pinned : Pinned := { name := "ytpbndakbdaidnaa", sum := "d8ec613210dde5240bd2dff72598d6cb4b23a25f871722d053b42536cd4b5658", checked := Try.checked }
namespace Rows
def none {H : Type} : Left H := { results := [], args := [] }

/-- 'laws.FnExactJoined': WHATEVER THE INPUT: true; the input reads as it did. -/
def fnExactJoinedSpec : ChangeSpec := { name := "fnExactJoined", fn := fun _ => fun
  | [d1, d2] => { results := [.lit (.bool true)], args := [d1, d2] }
  | _ => none }
def fnExactJoinedRow : OpenClaim := { program := "ytpbndakbdaidnaa", sum := "d8ec613210dde5240bd2dff72598d6cb4b23a25f871722d053b42536cd4b5658", func := "loop.example/g00504/laws.FnExactJoined", spec := "fnExactJoined", inPlace := ["internal/abi.NoEscape", "internal/bytealg.MakeNoZero"], apart := false }
def FnExactJoinedSaid : Prop := fnExactJoinedRow.holds Try.pinned (OpenSpec.ofChange fnExactJoinedSpec)

/-- ITS FALSE NEIGHBOUR: 'it returns false'. Refute it at one input. -/
def fnExactJoinedWrong : ChangeSpec := { name := "fnExactJoined", fn := fun _ => fun
  | [d1, d2] => { results := [.lit (.bool false)], args := [d1, d2] }
  | _ => none }
def FnExactJoinedWrongFalsely : Prop := fnExactJoinedRow.holds Try.pinned (OpenSpec.ofChange fnExactJoinedWrong)

/-- 'laws.FnExactReadOptions': WHATEVER THE INPUT: true; the input reads as it did. -/
def fnExactReadOptionsSpec : ChangeSpec := { name := "fnExactReadOptions", fn := fun _ => fun
  | [d] => { results := [.lit (.bool true)], args := [d] }
  | _ => none }
def fnExactReadOptionsRow : OpenClaim := { program := "ytpbndakbdaidnaa", sum := "d8ec613210dde5240bd2dff72598d6cb4b23a25f871722d053b42536cd4b5658", func := "loop.example/g00504/laws.FnExactReadOptions", spec := "fnExactReadOptions", apart := false }
def FnExactReadOptionsSaid : Prop := fnExactReadOptionsRow.holds Try.pinned (OpenSpec.ofChange fnExactReadOptionsSpec)

/-- ITS FALSE NEIGHBOUR: 'it returns false'. Refute it at one input. -/
def fnExactReadOptionsWrong : ChangeSpec := { name := "fnExactReadOptions", fn := fun _ => fun
  | [d] => { results := [.lit (.bool false)], args := [d] }
  | _ => none }
def FnExactReadOptionsWrongFalsely : Prop := fnExactReadOptionsRow.holds Try.pinned (OpenSpec.ofChange fnExactReadOptionsWrong)

/-- 'laws.FnExactAddress': WHATEVER THE INPUT: true; the input reads as it did. -/
def fnExactAddressSpec : ChangeSpec := { name := "fnExactAddress", fn := fun _ => fun
  | [d] => { results := [.lit (.bool true)], args := [d] }
  | _ => none }
def fnExactAddressRow : OpenClaim := { program := "ytpbndakbdaidnaa", sum := "d8ec613210dde5240bd2dff72598d6cb4b23a25f871722d053b42536cd4b5658", func := "loop.example/g00504/laws.FnExactAddress", spec := "fnExactAddress", apart := false }
def FnExactAddressSaid : Prop := fnExactAddressRow.holds Try.pinned (OpenSpec.ofChange fnExactAddressSpec)

/-- ITS FALSE NEIGHBOUR: 'it returns false'. Refute it at one input. -/
def fnExactAddressWrong : ChangeSpec := { name := "fnExactAddress", fn := fun _ => fun
  | [d] => { results := [.lit (.bool false)], args := [d] }
  | _ => none }
def FnExactAddressWrongFalsely : Prop := fnExactAddressRow.holds Try.pinned (OpenSpec.ofChange fnExactAddressWrong)

/-- 'laws.FnExactReadPacket': WHATEVER THE INPUT: true; the input reads as it did. -/
def fnExactReadPacketSpec : ChangeSpec := { name := "fnExactReadPacket", fn := fun _ => fun
  | [d] => { results := [.lit (.bool true)], args := [d] }
  | _ => none }
def fnExactReadPacketRow : OpenClaim := { program := "ytpbndakbdaidnaa", sum := "d8ec613210dde5240bd2dff72598d6cb4b23a25f871722d053b42536cd4b5658", func := "loop.example/g00504/laws.FnExactReadPacket", spec := "fnExactReadPacket", apart := false }
def FnExactReadPacketSaid : Prop := fnExactReadPacketRow.holds Try.pinned (OpenSpec.ofChange fnExactReadPacketSpec)

/-- ITS FALSE NEIGHBOUR: 'it returns false'. Refute it at one input. -/
def fnExactReadPacketWrong : ChangeSpec := { name := "fnExactReadPacket", fn := fun _ => fun
  | [d] => { results := [.lit (.bool false)], args := [d] }
  | _ => none }
def FnExactReadPacketWrongFalsely : Prop := fnExactReadPacketRow.holds Try.pinned (OpenSpec.ofChange fnExactReadPacketWrong)

/-- 'laws.FnExactSegmentText': WHATEVER THE INPUT: true; the input reads as it did. -/
def fnExactSegmentTextSpec : ChangeSpec := { name := "fnExactSegmentText", fn := fun _ => fun
  | [d1, d2, d3] => { results := [.lit (.bool true)], args := [d1, d2, d3] }
  | _ => none }
def fnExactSegmentTextRow : OpenClaim := { program := "ytpbndakbdaidnaa", sum := "d8ec613210dde5240bd2dff72598d6cb4b23a25f871722d053b42536cd4b5658", func := "loop.example/g00504/laws.FnExactSegmentText", spec := "fnExactSegmentText", apart := false }
def FnExactSegmentTextSaid : Prop := fnExactSegmentTextRow.holds Try.pinned (OpenSpec.ofChange fnExactSegmentTextSpec)

/-- ITS FALSE NEIGHBOUR: 'it returns false'. Refute it at one input. -/
def fnExactSegmentTextWrong : ChangeSpec := { name := "fnExactSegmentText", fn := fun _ => fun
  | [d1, d2, d3] => { results := [.lit (.bool false)], args := [d1, d2, d3] }
  | _ => none }
def FnExactSegmentTextWrongFalsely : Prop := fnExactSegmentTextRow.holds Try.pinned (OpenSpec.ofChange fnExactSegmentTextWrong)

/-- 'laws.FnExactReadSegment': WHATEVER THE INPUT: true; the input reads as it did. -/
def fnExactReadSegmentSpec : ChangeSpec := { name := "fnExactReadSegment", fn := fun _ => fun
  | [d1, d2, d3] => { results := [.lit (.bool true)], args := [d1, d2, d3] }
  | _ => none }
def fnExactReadSegmentRow : OpenClaim := { program := "ytpbndakbdaidnaa", sum := "d8ec613210dde5240bd2dff72598d6cb4b23a25f871722d053b42536cd4b5658", func := "loop.example/g00504/laws.FnExactReadSegment", spec := "fnExactReadSegment", apart := false }
def FnExactReadSegmentSaid : Prop := fnExactReadSegmentRow.holds Try.pinned (OpenSpec.ofChange fnExactReadSegmentSpec)

/-- ITS FALSE NEIGHBOUR: 'it returns false'. Refute it at one input. -/
def fnExactReadSegmentWrong : ChangeSpec := { name := "fnExactReadSegment", fn := fun _ => fun
  | [d1, d2, d3] => { results := [.lit (.bool false)], args := [d1, d2, d3] }
  | _ => none }
def FnExactReadSegmentWrongFalsely : Prop := fnExactReadSegmentRow.holds Try.pinned (OpenSpec.ofChange fnExactReadSegmentWrong)

/- THE SECOND FORM. 'bulk': how many values and letters a reading holds, each counted each time it is reached (what is shared counts as often as it is met; a slice's spare places count too). A statement '..UptoSaid' is the law's where the arguments, and the package variables that the reading takes, are together of bulk at most 1048576: NARROWER than '..Said'. Prove '..Said' where nothing that the law and all that it calls make is longer than what came in: it says more and counts as full. Else prove '..UptoSaid'. A law counts once. -/
mutual
def uptoBulk {H : Type} : DataW H → Nat
  | .lit (.string bytes) => bytes.length + 1
  | .lit _ => 1
  | .nil => 1
  | .ptr d => uptoBulk d + 1
  | .slice elems spare => uptoBulkAll elems + uptoBulkAll spare + 1
  | .agg parts => uptoBulkAll parts + 1
  | .iface _ d => uptoBulk d + 1
  | .map entries => uptoBulkEntries entries + 1
  | .held _ => 1
def uptoBulkAll {H : Type} : List (DataW H) → Nat
  | [] => 0
  | d :: r => uptoBulk d + uptoBulkAll r
def uptoBulkEntries {H : Type} : List (Lit × DataW H) → Nat
  | [] => 0
  | x :: r => uptoBulkEntry x + uptoBulkEntries r
def uptoBulkEntry {H : Type} : Lit × DataW H → Nat
  | (.string bytes, d) => bytes.length + uptoBulk d + 1
  | (_, d) => uptoBulk d + 1
 end
def uptoSmall : (H : Type) → List (DataW H) → Bool := fun _ ds => decide (uptoBulkAll ds ≤ 1048576)
def OpenSpec.upto (s : _root_.Go.ChangeSpec) : _root_.Go.OpenSpec := { _root_.Go.OpenSpec.ofChange s with cond := some uptoSmall }

/-- 'laws.FnExactJoined', WHERE WHAT IT READS IS OF BULK AT MOST 1048576: true; the input reads as it did. -/
def fnExactJoinedUptoRow : OpenClaim := { program := "ytpbndakbdaidnaa", sum := "d8ec613210dde5240bd2dff72598d6cb4b23a25f871722d053b42536cd4b5658", func := "loop.example/g00504/laws.FnExactJoined", spec := "fnExactJoined", inPlace := ["internal/abi.NoEscape", "internal/bytealg.MakeNoZero"], apart := false, narrowed := true }
def FnExactJoinedUptoSaid : Prop := fnExactJoinedUptoRow.holds Try.pinned (OpenSpec.upto fnExactJoinedSpec)

/-- 'laws.FnExactReadOptions', WHERE WHAT IT READS IS OF BULK AT MOST 1048576: true; the input reads as it did. -/
def fnExactReadOptionsUptoRow : OpenClaim := { program := "ytpbndakbdaidnaa", sum := "d8ec613210dde5240bd2dff72598d6cb4b23a25f871722d053b42536cd4b5658", func := "loop.example/g00504/laws.FnExactReadOptions", spec := "fnExactReadOptions", apart := false, narrowed := true }
def FnExactReadOptionsUptoSaid : Prop := fnExactReadOptionsUptoRow.holds Try.pinned (OpenSpec.upto fnExactReadOptionsSpec)

/-- 'laws.FnExactAddress', WHERE WHAT IT READS IS OF BULK AT MOST 1048576: true; the input reads as it did. -/
def fnExactAddressUptoRow : OpenClaim := { program := "ytpbndakbdaidnaa", sum := "d8ec613210dde5240bd2dff72598d6cb4b23a25f871722d053b42536cd4b5658", func := "loop.example/g00504/laws.FnExactAddress", spec := "fnExactAddress", apart := false, narrowed := true }
def FnExactAddressUptoSaid : Prop := fnExactAddressUptoRow.holds Try.pinned (OpenSpec.upto fnExactAddressSpec)

/-- 'laws.FnExactReadPacket', WHERE WHAT IT READS IS OF BULK AT MOST 1048576: true; the input reads as it did. -/
def fnExactReadPacketUptoRow : OpenClaim := { program := "ytpbndakbdaidnaa", sum := "d8ec613210dde5240bd2dff72598d6cb4b23a25f871722d053b42536cd4b5658", func := "loop.example/g00504/laws.FnExactReadPacket", spec := "fnExactReadPacket", apart := false, narrowed := true }
def FnExactReadPacketUptoSaid : Prop := fnExactReadPacketUptoRow.holds Try.pinned (OpenSpec.upto fnExactReadPacketSpec)

/-- 'laws.FnExactSegmentText', WHERE WHAT IT READS IS OF BULK AT MOST 1048576: true; the input reads as it did. -/
def fnExactSegmentTextUptoRow : OpenClaim := { program := "ytpbndakbdaidnaa", sum := "d8ec613210dde5240bd2dff72598d6cb4b23a25f871722d053b42536cd4b5658", func := "loop.example/g00504/laws.FnExactSegmentText", spec := "fnExactSegmentText", apart := false, narrowed := true }
def FnExactSegmentTextUptoSaid : Prop := fnExactSegmentTextUptoRow.holds Try.pinned (OpenSpec.upto fnExactSegmentTextSpec)

/-- 'laws.FnExactReadSegment', WHERE WHAT IT READS IS OF BULK AT MOST 1048576: true; the input reads as it did. -/
def fnExactReadSegmentUptoRow : OpenClaim := { program := "ytpbndakbdaidnaa", sum := "d8ec613210dde5240bd2dff72598d6cb4b23a25f871722d053b42536cd4b5658", func := "loop.example/g00504/laws.FnExactReadSegment", spec := "fnExactReadSegment", apart := false, narrowed := true }
def FnExactReadSegmentUptoSaid : Prop := fnExactReadSegmentUptoRow.holds Try.pinned (OpenSpec.upto fnExactReadSegmentSpec)

end Rows
end Go.Proofs.Ytpbndakbdaidnaa
