/-
  No cell of these rows narrows 'for every input' (looked for: loops, veiled, ifaces, maps, wideKeys, modest, calm, conditions, laid).
  DERIVED. THE GIVEN ROWS OF THIS SEAT. 7 by the template 'for every input the law returns true; each argument reads behind the call as it read before'; 0 by the template 'total and deterministic' (their statements: YtahffinjglmhhaaTotals.lean).
  GIVEN WITH THE SEED: the statements are not yours to turn. If you find one false, say at which input.
  Laid BY PROGRAM, IN A SANDBOX (cutbox-rows.mjs): the forced cells as the released guide's own fill.sh prints them over the translation d6e75b4d3e342631… (all of the seat's roots in one cut). By AI agents, Wed Nov 11 2026. No macro, syntax, notation, axiom, sorry.
-/
import Derived.Test.YtahffinjglmhhaaChecked
import GoSem.Claim
import GoSem.ClaimJoined
import GoSem.ClaimMapViews
import Derived.JoinedTies
import Derived.KernelRfl
namespace Go.Proofs.Ytahffinjglmhhaa
/- THE CELL 'sum', in the pinned program and in every row, IS THE sha256 OF THE DUMP (.gsa) THAT YtahffinjglmhhaaProg.lean LOADS. Nothing in Lean hashes anything: it is a label: what it is worth is what the hold of that sum in a sandbox is worth. -/
noncomputable def Try.pinned : Pinned := { name := "ytahffinjglmhhaa", sum := "d6e75b4d3e34263156102619e6609775c59813be7946f84a16c6a6f1fea64c04", checked := Try.checked }
namespace Rows
def none {H : Type} : Left H := { results := [], args := [] }

/-- 'laws.FnArp': WHATEVER THE INPUT: true; the input reads as it did. -/
def fnArpSpec : ChangeSpec := { name := "fnArp", fn := fun _ => fun
  | [d] => { results := [.lit (.bool true)], args := [d] }
  | _ => none }
def fnArpRow : OpenClaim := { program := "ytahffinjglmhhaa", sum := "d6e75b4d3e34263156102619e6609775c59813be7946f84a16c6a6f1fea64c04", func := "loop.example/g00504/laws.FnArp", spec := "fnArp", apart := false }
def FnArpSaid : Prop := fnArpRow.holds Try.pinned (OpenSpec.ofChange fnArpSpec)

/-- ITS FALSE NEIGHBOUR: 'it returns false'. Refute it at one input. -/
def fnArpWrong : ChangeSpec := { name := "fnArp", fn := fun _ => fun
  | [d] => { results := [.lit (.bool false)], args := [d] }
  | _ => none }
def FnArpWrongFalsely : Prop := fnArpRow.holds Try.pinned (OpenSpec.ofChange fnArpWrong)

/-- 'laws.FnHex': WHATEVER THE INPUT: true; the input reads as it did. -/
def fnHexSpec : ChangeSpec := { name := "fnHex", fn := fun _ => fun
  | [d] => { results := [.lit (.bool true)], args := [d] }
  | _ => none }
def fnHexRow : OpenClaim := { program := "ytahffinjglmhhaa", sum := "d6e75b4d3e34263156102619e6609775c59813be7946f84a16c6a6f1fea64c04", func := "loop.example/g00504/laws.FnHex", spec := "fnHex", inPlace := ["internal/bytealg.IndexByteString", "internal/abi.NoEscape", "internal/bytealg.MakeNoZero"], apart := false }
def FnHexSaid : Prop := fnHexRow.holds Try.pinned (OpenSpec.ofChange fnHexSpec)

/-- ITS FALSE NEIGHBOUR: 'it returns false'. Refute it at one input. -/
def fnHexWrong : ChangeSpec := { name := "fnHex", fn := fun _ => fun
  | [d] => { results := [.lit (.bool false)], args := [d] }
  | _ => none }
def FnHexWrongFalsely : Prop := fnHexRow.holds Try.pinned (OpenSpec.ofChange fnHexWrong)

/-- 'laws.FnFrame': WHATEVER THE INPUT: true; the input reads as it did. -/
def fnFrameSpec : ChangeSpec := { name := "fnFrame", fn := fun _ => fun
  | [d] => { results := [.lit (.bool true)], args := [d] }
  | _ => none }
def fnFrameRow : OpenClaim := { program := "ytahffinjglmhhaa", sum := "d6e75b4d3e34263156102619e6609775c59813be7946f84a16c6a6f1fea64c04", func := "loop.example/g00504/laws.FnFrame", spec := "fnFrame", apart := false }
def FnFrameSaid : Prop := fnFrameRow.holds Try.pinned (OpenSpec.ofChange fnFrameSpec)

/-- ITS FALSE NEIGHBOUR: 'it returns false'. Refute it at one input. -/
def fnFrameWrong : ChangeSpec := { name := "fnFrame", fn := fun _ => fun
  | [d] => { results := [.lit (.bool false)], args := [d] }
  | _ => none }
def FnFrameWrongFalsely : Prop := fnFrameRow.holds Try.pinned (OpenSpec.ofChange fnFrameWrong)

/-- 'laws.FnPacket': WHATEVER THE INPUT: true; the input reads as it did. -/
def fnPacketSpec : ChangeSpec := { name := "fnPacket", fn := fun _ => fun
  | [d] => { results := [.lit (.bool true)], args := [d] }
  | _ => none }
def fnPacketRow : OpenClaim := { program := "ytahffinjglmhhaa", sum := "d6e75b4d3e34263156102619e6609775c59813be7946f84a16c6a6f1fea64c04", func := "loop.example/g00504/laws.FnPacket", spec := "fnPacket", apart := false }
def FnPacketSaid : Prop := fnPacketRow.holds Try.pinned (OpenSpec.ofChange fnPacketSpec)

/-- ITS FALSE NEIGHBOUR: 'it returns false'. Refute it at one input. -/
def fnPacketWrong : ChangeSpec := { name := "fnPacket", fn := fun _ => fun
  | [d] => { results := [.lit (.bool false)], args := [d] }
  | _ => none }
def FnPacketWrongFalsely : Prop := fnPacketRow.holds Try.pinned (OpenSpec.ofChange fnPacketWrong)

/-- 'laws.FnPacketRead': WHATEVER THE INPUT: true; the input reads as it did. -/
def fnPacketReadSpec : ChangeSpec := { name := "fnPacketRead", fn := fun _ => fun
  | [d] => { results := [.lit (.bool true)], args := [d] }
  | _ => none }
def fnPacketReadRow : OpenClaim := { program := "ytahffinjglmhhaa", sum := "d6e75b4d3e34263156102619e6609775c59813be7946f84a16c6a6f1fea64c04", func := "loop.example/g00504/laws.FnPacketRead", spec := "fnPacketRead", apart := false }
def FnPacketReadSaid : Prop := fnPacketReadRow.holds Try.pinned (OpenSpec.ofChange fnPacketReadSpec)

/-- ITS FALSE NEIGHBOUR: 'it returns false'. Refute it at one input. -/
def fnPacketReadWrong : ChangeSpec := { name := "fnPacketRead", fn := fun _ => fun
  | [d] => { results := [.lit (.bool false)], args := [d] }
  | _ => none }
def FnPacketReadWrongFalsely : Prop := fnPacketReadRow.holds Try.pinned (OpenSpec.ofChange fnPacketReadWrong)

/-- 'laws.FnOptions': WHATEVER THE INPUT: true; the input reads as it did. -/
def fnOptionsSpec : ChangeSpec := { name := "fnOptions", fn := fun _ => fun
  | [d] => { results := [.lit (.bool true)], args := [d] }
  | _ => none }
def fnOptionsRow : OpenClaim := { program := "ytahffinjglmhhaa", sum := "d6e75b4d3e34263156102619e6609775c59813be7946f84a16c6a6f1fea64c04", func := "loop.example/g00504/laws.FnOptions", spec := "fnOptions", apart := false }
def FnOptionsSaid : Prop := fnOptionsRow.holds Try.pinned (OpenSpec.ofChange fnOptionsSpec)

/-- ITS FALSE NEIGHBOUR: 'it returns false'. Refute it at one input. -/
def fnOptionsWrong : ChangeSpec := { name := "fnOptions", fn := fun _ => fun
  | [d] => { results := [.lit (.bool false)], args := [d] }
  | _ => none }
def FnOptionsWrongFalsely : Prop := fnOptionsRow.holds Try.pinned (OpenSpec.ofChange fnOptionsWrong)

/-- 'laws.FnSegmentRead': WHATEVER THE INPUT: true; the input reads as it did. -/
def fnSegmentReadSpec : ChangeSpec := { name := "fnSegmentRead", fn := fun _ => fun
  | [d] => { results := [.lit (.bool true)], args := [d] }
  | _ => none }
def fnSegmentReadRow : OpenClaim := { program := "ytahffinjglmhhaa", sum := "d6e75b4d3e34263156102619e6609775c59813be7946f84a16c6a6f1fea64c04", func := "loop.example/g00504/laws.FnSegmentRead", spec := "fnSegmentRead", apart := false }
def FnSegmentReadSaid : Prop := fnSegmentReadRow.holds Try.pinned (OpenSpec.ofChange fnSegmentReadSpec)

/-- ITS FALSE NEIGHBOUR: 'it returns false'. Refute it at one input. -/
def fnSegmentReadWrong : ChangeSpec := { name := "fnSegmentRead", fn := fun _ => fun
  | [d] => { results := [.lit (.bool false)], args := [d] }
  | _ => none }
def FnSegmentReadWrongFalsely : Prop := fnSegmentReadRow.holds Try.pinned (OpenSpec.ofChange fnSegmentReadWrong)

/- THE SECOND FORM. 'bulk': how many values and letters a reading holds, each counted each time it is reached (what is shared counts as often as it is met; a slice's spare places count too). A statement '..UptoSaid' is the law's where the arguments, and the package variables that the reading takes, are together of bulk at most 1048576: NARROWER than '..Said'. Prove '..Said' where nothing that the law and all that it calls make is longer than what came in: it says more and counts as full. Else prove '..UptoSaid'. A law counts once. -/
mutual
def uptoBulk {H : Type} : DataW H → Nat
  | .lit (.string bytes) => bytes.length + 1
  | .lit _ => 1
  | .nil => 1
  | .ptr d => uptoBulk d + 1
  | .slice elems spare => uptoBulkAll elems + uptoBulkAll spare + 1
  | .agg parts => uptoBulkAll parts + 1
  | .iface _ d => uptoBulk d + 1
  | .map entries => uptoBulkEntries entries + 1
  | .held _ => 1
def uptoBulkAll {H : Type} : List (DataW H) → Nat
  | [] => 0
  | d :: r => uptoBulk d + uptoBulkAll r
def uptoBulkEntries {H : Type} : List (Lit × DataW H) → Nat
  | [] => 0
  | x :: r => uptoBulkEntry x + uptoBulkEntries r
def uptoBulkEntry {H : Type} : Lit × DataW H → Nat
  | (.string bytes, d) => bytes.length + uptoBulk d + 1
  | (_, d) => uptoBulk d + 1
 end
def uptoSmall : (H : Type) → List (DataW H) → Bool := fun _ ds => decide (uptoBulkAll ds ≤ 1048576)
def OpenSpec.upto (s : _root_.Go.ChangeSpec) : _root_.Go.OpenSpec := { _root_.Go.OpenSpec.ofChange s with cond := some uptoSmall }

/-- 'laws.FnArp', WHERE WHAT IT READS IS OF BULK AT MOST 1048576: true; the input reads as it did. -/
def fnArpUptoRow : OpenClaim := { program := "ytahffinjglmhhaa", sum := "d6e75b4d3e34263156102619e6609775c59813be7946f84a16c6a6f1fea64c04", func := "loop.example/g00504/laws.FnArp", spec := "fnArp", apart := false, narrowed := true }
def FnArpUptoSaid : Prop := fnArpUptoRow.holds Try.pinned (OpenSpec.upto fnArpSpec)

/-- 'laws.FnHex', WHERE WHAT IT READS IS OF BULK AT MOST 1048576: true; the input reads as it did. -/
def fnHexUptoRow : OpenClaim := { program := "ytahffinjglmhhaa", sum := "d6e75b4d3e34263156102619e6609775c59813be7946f84a16c6a6f1fea64c04", func := "loop.example/g00504/laws.FnHex", spec := "fnHex", inPlace := ["internal/bytealg.IndexByteString", "internal/abi.NoEscape", "internal/bytealg.MakeNoZero"], apart := false, narrowed := true }
def FnHexUptoSaid : Prop := fnHexUptoRow.holds Try.pinned (OpenSpec.upto fnHexSpec)

/-- 'laws.FnFrame', WHERE WHAT IT READS IS OF BULK AT MOST 1048576: true; the input reads as it did. -/
def fnFrameUptoRow : OpenClaim := { program := "ytahffinjglmhhaa", sum := "d6e75b4d3e34263156102619e6609775c59813be7946f84a16c6a6f1fea64c04", func := "loop.example/g00504/laws.FnFrame", spec := "fnFrame", apart := false, narrowed := true }
def FnFrameUptoSaid : Prop := fnFrameUptoRow.holds Try.pinned (OpenSpec.upto fnFrameSpec)

/-- 'laws.FnPacket', WHERE WHAT IT READS IS OF BULK AT MOST 1048576: true; the input reads as it did. -/
def fnPacketUptoRow : OpenClaim := { program := "ytahffinjglmhhaa", sum := "d6e75b4d3e34263156102619e6609775c59813be7946f84a16c6a6f1fea64c04", func := "loop.example/g00504/laws.FnPacket", spec := "fnPacket", apart := false, narrowed := true }
def FnPacketUptoSaid : Prop := fnPacketUptoRow.holds Try.pinned (OpenSpec.upto fnPacketSpec)

/-- 'laws.FnPacketRead', WHERE WHAT IT READS IS OF BULK AT MOST 1048576: true; the input reads as it did. -/
def fnPacketReadUptoRow : OpenClaim := { program := "ytahffinjglmhhaa", sum := "d6e75b4d3e34263156102619e6609775c59813be7946f84a16c6a6f1fea64c04", func := "loop.example/g00504/laws.FnPacketRead", spec := "fnPacketRead", apart := false, narrowed := true }
def FnPacketReadUptoSaid : Prop := fnPacketReadUptoRow.holds Try.pinned (OpenSpec.upto fnPacketReadSpec)

/-- 'laws.FnOptions', WHERE WHAT IT READS IS OF BULK AT MOST 1048576: true; the input reads as it did. -/
def fnOptionsUptoRow : OpenClaim := { program := "ytahffinjglmhhaa", sum := "d6e75b4d3e34263156102619e6609775c59813be7946f84a16c6a6f1fea64c04", func := "loop.example/g00504/laws.FnOptions", spec := "fnOptions", apart := false, narrowed := true }
def FnOptionsUptoSaid : Prop := fnOptionsUptoRow.holds Try.pinned (OpenSpec.upto fnOptionsSpec)

/-- 'laws.FnSegmentRead', WHERE WHAT IT READS IS OF BULK AT MOST 1048576: true; the input reads as it did. -/
def fnSegmentReadUptoRow : OpenClaim := { program := "ytahffinjglmhhaa", sum := "d6e75b4d3e34263156102619e6609775c59813be7946f84a16c6a6f1fea64c04", func := "loop.example/g00504/laws.FnSegmentRead", spec := "fnSegmentRead", apart := false, narrowed := true }
def FnSegmentReadUptoSaid : Prop := fnSegmentReadUptoRow.holds Try.pinned (OpenSpec.upto fnSegmentReadSpec)

end Rows
end Go.Proofs.Ytahffinjglmhhaa
