/-
  No cell of these rows narrows 'for every input' (looked for: loops, veiled, ifaces, maps, wideKeys, modest, calm, conditions, laid).
  DERIVED. THE GIVEN ROWS OF THIS SEAT. 17 by the template 'for every input the law returns true; each argument reads behind the call as it read before'; 0 by the template 'total and deterministic' (their statements: YtgiaihidbcfpdaaTotals.lean).
  GIVEN WITH THE SEED: the statements are not yours to turn. If you find one false, say at which input.
  Laid BY PROGRAM, IN A SANDBOX (cutbox-rows.mjs): the forced cells as the released guide's own fill.sh prints them over the translation b49843e9648b94a5… (all of the seat's roots in one cut). By AI agents, Wed Nov 11 2026. No macro, syntax, notation, axiom, sorry.
-/
import Derived.Test.YtgiaihidbcfpdaaChecked
import GoSem.Claim
import GoSem.ClaimJoined
import GoSem.ClaimMapViews
import Derived.JoinedTies
import Derived.KernelRfl
namespace Go.Proofs.Ytgiaihidbcfpdaa
/- THE CELL 'sum', in the pinned program and in every row, IS THE sha256 OF THE DUMP (.gsa) THAT YtgiaihidbcfpdaaProg.lean LOADS. Nothing in Lean hashes anything: it is a label: what it is worth is what the hold of that sum in a sandbox is worth. -/
noncomputable def Try.pinned : Pinned := { name := "ytgiaihidbcfpdaa", sum := "b49843e9648b94a5f2317836f7d8df55c72ebe6c7a61ad539c77e49b95f43214", checked := Try.checked }
namespace Rows
def none {H : Type} : Left H := { results := [], args := [] }

/-- 'laws.FnExactWordSum': WHATEVER THE INPUT: true; the input reads as it did. -/
def fnExactWordSumSpec : ChangeSpec := { name := "fnExactWordSum", fn := fun _ => fun
  | [d] => { results := [.lit (.bool true)], args := [d] }
  | _ => none }
def fnExactWordSumRow : OpenClaim := { program := "ytgiaihidbcfpdaa", sum := "b49843e9648b94a5f2317836f7d8df55c72ebe6c7a61ad539c77e49b95f43214", func := "loop.example/g00504/laws.FnExactWordSum", spec := "fnExactWordSum", apart := false }
def FnExactWordSumSaid : Prop := fnExactWordSumRow.holds Try.pinned (OpenSpec.ofChange fnExactWordSumSpec)

/-- ITS FALSE NEIGHBOUR: 'it returns false'. Refute it at one input. -/
def fnExactWordSumWrong : ChangeSpec := { name := "fnExactWordSum", fn := fun _ => fun
  | [d] => { results := [.lit (.bool false)], args := [d] }
  | _ => none }
def FnExactWordSumWrongFalsely : Prop := fnExactWordSumRow.holds Try.pinned (OpenSpec.ofChange fnExactWordSumWrong)

/-- 'laws.FnExactSipStart': WHATEVER THE INPUT: true; the input reads as it did. -/
def fnExactSipStartSpec : ChangeSpec := { name := "fnExactSipStart", fn := fun _ => fun
  | [d1, d2] => { results := [.lit (.bool true)], args := [d1, d2] }
  | _ => none }
def fnExactSipStartRow : OpenClaim := { program := "ytgiaihidbcfpdaa", sum := "b49843e9648b94a5f2317836f7d8df55c72ebe6c7a61ad539c77e49b95f43214", func := "loop.example/g00504/laws.FnExactSipStart", spec := "fnExactSipStart", apart := false }
def FnExactSipStartSaid : Prop := fnExactSipStartRow.holds Try.pinned (OpenSpec.ofChange fnExactSipStartSpec)

/-- ITS FALSE NEIGHBOUR: 'it returns false'. Refute it at one input. -/
def fnExactSipStartWrong : ChangeSpec := { name := "fnExactSipStart", fn := fun _ => fun
  | [d1, d2] => { results := [.lit (.bool false)], args := [d1, d2] }
  | _ => none }
def FnExactSipStartWrongFalsely : Prop := fnExactSipStartRow.holds Try.pinned (OpenSpec.ofChange fnExactSipStartWrong)

/-- 'laws.FnExactArpOk': WHATEVER THE INPUT: true; the input reads as it did. -/
def fnExactArpOkSpec : ChangeSpec := { name := "fnExactArpOk", fn := fun _ => fun
  | [d] => { results := [.lit (.bool true)], args := [d] }
  | _ => none }
def fnExactArpOkRow : OpenClaim := { program := "ytgiaihidbcfpdaa", sum := "b49843e9648b94a5f2317836f7d8df55c72ebe6c7a61ad539c77e49b95f43214", func := "loop.example/g00504/laws.FnExactArpOk", spec := "fnExactArpOk", apart := false }
def FnExactArpOkSaid : Prop := fnExactArpOkRow.holds Try.pinned (OpenSpec.ofChange fnExactArpOkSpec)

/-- ITS FALSE NEIGHBOUR: 'it returns false'. Refute it at one input. -/
def fnExactArpOkWrong : ChangeSpec := { name := "fnExactArpOk", fn := fun _ => fun
  | [d] => { results := [.lit (.bool false)], args := [d] }
  | _ => none }
def FnExactArpOkWrongFalsely : Prop := fnExactArpOkRow.holds Try.pinned (OpenSpec.ofChange fnExactArpOkWrong)

/-- 'laws.FnExactGetWord': WHATEVER THE INPUT: true; the input reads as it did. -/
def fnExactGetWordSpec : ChangeSpec := { name := "fnExactGetWord", fn := fun _ => fun
  | [d1, d2, d3] => { results := [.lit (.bool true)], args := [d1, d2, d3] }
  | _ => none }
def fnExactGetWordRow : OpenClaim := { program := "ytgiaihidbcfpdaa", sum := "b49843e9648b94a5f2317836f7d8df55c72ebe6c7a61ad539c77e49b95f43214", func := "loop.example/g00504/laws.FnExactGetWord", spec := "fnExactGetWord", apart := false }
def FnExactGetWordSaid : Prop := fnExactGetWordRow.holds Try.pinned (OpenSpec.ofChange fnExactGetWordSpec)

/-- ITS FALSE NEIGHBOUR: 'it returns false'. Refute it at one input. -/
def fnExactGetWordWrong : ChangeSpec := { name := "fnExactGetWord", fn := fun _ => fun
  | [d1, d2, d3] => { results := [.lit (.bool false)], args := [d1, d2, d3] }
  | _ => none }
def FnExactGetWordWrongFalsely : Prop := fnExactGetWordRow.holds Try.pinned (OpenSpec.ofChange fnExactGetWordWrong)

/-- 'laws.FnExactNoOptions': WHATEVER THE INPUT: true; the input reads as it did. -/
def fnExactNoOptionsSpec : ChangeSpec := { name := "fnExactNoOptions", fn := fun _ => fun
  | [] => { results := [.lit (.bool true)], args := [] }
  | _ => none }
def fnExactNoOptionsRow : OpenClaim := { program := "ytgiaihidbcfpdaa", sum := "b49843e9648b94a5f2317836f7d8df55c72ebe6c7a61ad539c77e49b95f43214", func := "loop.example/g00504/laws.FnExactNoOptions", spec := "fnExactNoOptions", apart := false }
def FnExactNoOptionsSaid : Prop := fnExactNoOptionsRow.holds Try.pinned (OpenSpec.ofChange fnExactNoOptionsSpec)

/-- ITS FALSE NEIGHBOUR: 'it returns false'. Refute it at one input. -/
def fnExactNoOptionsWrong : ChangeSpec := { name := "fnExactNoOptions", fn := fun _ => fun
  | [] => { results := [.lit (.bool false)], args := [] }
  | _ => none }
def FnExactNoOptionsWrongFalsely : Prop := fnExactNoOptionsRow.holds Try.pinned (OpenSpec.ofChange fnExactNoOptionsWrong)

/-- 'laws.FnExactFrameOk': WHATEVER THE INPUT: true; the input reads as it did. -/
def fnExactFrameOkSpec : ChangeSpec := { name := "fnExactFrameOk", fn := fun _ => fun
  | [d] => { results := [.lit (.bool true)], args := [d] }
  | _ => none }
def fnExactFrameOkRow : OpenClaim := { program := "ytgiaihidbcfpdaa", sum := "b49843e9648b94a5f2317836f7d8df55c72ebe6c7a61ad539c77e49b95f43214", func := "loop.example/g00504/laws.FnExactFrameOk", spec := "fnExactFrameOk", apart := false }
def FnExactFrameOkSaid : Prop := fnExactFrameOkRow.holds Try.pinned (OpenSpec.ofChange fnExactFrameOkSpec)

/-- ITS FALSE NEIGHBOUR: 'it returns false'. Refute it at one input. -/
def fnExactFrameOkWrong : ChangeSpec := { name := "fnExactFrameOk", fn := fun _ => fun
  | [d] => { results := [.lit (.bool false)], args := [d] }
  | _ => none }
def FnExactFrameOkWrongFalsely : Prop := fnExactFrameOkRow.holds Try.pinned (OpenSpec.ofChange fnExactFrameOkWrong)

/-- 'laws.FnExactPutWord': WHATEVER THE INPUT: true; the input reads as it did. -/
def fnExactPutWordSpec : ChangeSpec := { name := "fnExactPutWord", fn := fun _ => fun
  | [d1, d2] => { results := [.lit (.bool true)], args := [d1, d2] }
  | _ => none }
def fnExactPutWordRow : OpenClaim := { program := "ytgiaihidbcfpdaa", sum := "b49843e9648b94a5f2317836f7d8df55c72ebe6c7a61ad539c77e49b95f43214", func := "loop.example/g00504/laws.FnExactPutWord", spec := "fnExactPutWord", apart := false }
def FnExactPutWordSaid : Prop := fnExactPutWordRow.holds Try.pinned (OpenSpec.ofChange fnExactPutWordSpec)

/-- ITS FALSE NEIGHBOUR: 'it returns false'. Refute it at one input. -/
def fnExactPutWordWrong : ChangeSpec := { name := "fnExactPutWord", fn := fun _ => fun
  | [d1, d2] => { results := [.lit (.bool false)], args := [d1, d2] }
  | _ => none }
def FnExactPutWordWrongFalsely : Prop := fnExactPutWordRow.holds Try.pinned (OpenSpec.ofChange fnExactPutWordWrong)

/-- 'laws.FnExactOptionsOk': WHATEVER THE INPUT: true; the input reads as it did. -/
def fnExactOptionsOkSpec : ChangeSpec := { name := "fnExactOptionsOk", fn := fun _ => fun
  | [d] => { results := [.lit (.bool true)], args := [d] }
  | _ => none }
def fnExactOptionsOkRow : OpenClaim := { program := "ytgiaihidbcfpdaa", sum := "b49843e9648b94a5f2317836f7d8df55c72ebe6c7a61ad539c77e49b95f43214", func := "loop.example/g00504/laws.FnExactOptionsOk", spec := "fnExactOptionsOk", apart := false }
def FnExactOptionsOkSaid : Prop := fnExactOptionsOkRow.holds Try.pinned (OpenSpec.ofChange fnExactOptionsOkSpec)

/-- ITS FALSE NEIGHBOUR: 'it returns false'. Refute it at one input. -/
def fnExactOptionsOkWrong : ChangeSpec := { name := "fnExactOptionsOk", fn := fun _ => fun
  | [d] => { results := [.lit (.bool false)], args := [d] }
  | _ => none }
def FnExactOptionsOkWrongFalsely : Prop := fnExactOptionsOkRow.holds Try.pinned (OpenSpec.ofChange fnExactOptionsOkWrong)

/-- 'laws.FnExactPacketOk': WHATEVER THE INPUT: true; the input reads as it did. -/
def fnExactPacketOkSpec : ChangeSpec := { name := "fnExactPacketOk", fn := fun _ => fun
  | [d] => { results := [.lit (.bool true)], args := [d] }
  | _ => none }
def fnExactPacketOkRow : OpenClaim := { program := "ytgiaihidbcfpdaa", sum := "b49843e9648b94a5f2317836f7d8df55c72ebe6c7a61ad539c77e49b95f43214", func := "loop.example/g00504/laws.FnExactPacketOk", spec := "fnExactPacketOk", apart := false }
def FnExactPacketOkSaid : Prop := fnExactPacketOkRow.holds Try.pinned (OpenSpec.ofChange fnExactPacketOkSpec)

/-- ITS FALSE NEIGHBOUR: 'it returns false'. Refute it at one input. -/
def fnExactPacketOkWrong : ChangeSpec := { name := "fnExactPacketOk", fn := fun _ => fun
  | [d] => { results := [.lit (.bool false)], args := [d] }
  | _ => none }
def FnExactPacketOkWrongFalsely : Prop := fnExactPacketOkRow.holds Try.pinned (OpenSpec.ofChange fnExactPacketOkWrong)

/-- 'laws.FnExactOverlaps': WHATEVER THE INPUT: true; the input reads as it did. -/
def fnExactOverlapsSpec : ChangeSpec := { name := "fnExactOverlaps", fn := fun _ => fun
  | [d1, d2, d3, d4] => { results := [.lit (.bool true)], args := [d1, d2, d3, d4] }
  | _ => none }
def fnExactOverlapsRow : OpenClaim := { program := "ytgiaihidbcfpdaa", sum := "b49843e9648b94a5f2317836f7d8df55c72ebe6c7a61ad539c77e49b95f43214", func := "loop.example/g00504/laws.FnExactOverlaps", spec := "fnExactOverlaps", apart := false }
def FnExactOverlapsSaid : Prop := fnExactOverlapsRow.holds Try.pinned (OpenSpec.ofChange fnExactOverlapsSpec)

/-- ITS FALSE NEIGHBOUR: 'it returns false'. Refute it at one input. -/
def fnExactOverlapsWrong : ChangeSpec := { name := "fnExactOverlaps", fn := fun _ => fun
  | [d1, d2, d3, d4] => { results := [.lit (.bool false)], args := [d1, d2, d3, d4] }
  | _ => none }
def FnExactOverlapsWrongFalsely : Prop := fnExactOverlapsRow.holds Try.pinned (OpenSpec.ofChange fnExactOverlapsWrong)

/-- 'laws.FnExactHas': WHATEVER THE INPUT: true; the input reads as it did. -/
def fnExactHasSpec : ChangeSpec := { name := "fnExactHas", fn := fun _ => fun
  | [d1, d2] => { results := [.lit (.bool true)], args := [d1, d2] }
  | _ => none }
def fnExactHasRow : OpenClaim := { program := "ytgiaihidbcfpdaa", sum := "b49843e9648b94a5f2317836f7d8df55c72ebe6c7a61ad539c77e49b95f43214", func := "loop.example/g00504/laws.FnExactHas", spec := "fnExactHas", apart := false }
def FnExactHasSaid : Prop := fnExactHasRow.holds Try.pinned (OpenSpec.ofChange fnExactHasSpec)

/-- ITS FALSE NEIGHBOUR: 'it returns false'. Refute it at one input. -/
def fnExactHasWrong : ChangeSpec := { name := "fnExactHas", fn := fun _ => fun
  | [d1, d2] => { results := [.lit (.bool false)], args := [d1, d2] }
  | _ => none }
def FnExactHasWrongFalsely : Prop := fnExactHasRow.holds Try.pinned (OpenSpec.ofChange fnExactHasWrong)

/-- 'laws.FnExactSumOf': WHATEVER THE INPUT: true; the input reads as it did. -/
def fnExactSumOfSpec : ChangeSpec := { name := "fnExactSumOf", fn := fun _ => fun
  | [d] => { results := [.lit (.bool true)], args := [d] }
  | _ => none }
def fnExactSumOfRow : OpenClaim := { program := "ytgiaihidbcfpdaa", sum := "b49843e9648b94a5f2317836f7d8df55c72ebe6c7a61ad539c77e49b95f43214", func := "loop.example/g00504/laws.FnExactSumOf", spec := "fnExactSumOf", apart := false }
def FnExactSumOfSaid : Prop := fnExactSumOfRow.holds Try.pinned (OpenSpec.ofChange fnExactSumOfSpec)

/-- ITS FALSE NEIGHBOUR: 'it returns false'. Refute it at one input. -/
def fnExactSumOfWrong : ChangeSpec := { name := "fnExactSumOf", fn := fun _ => fun
  | [d] => { results := [.lit (.bool false)], args := [d] }
  | _ => none }
def FnExactSumOfWrongFalsely : Prop := fnExactSumOfRow.holds Try.pinned (OpenSpec.ofChange fnExactSumOfWrong)

/-- 'laws.FnExactPseudoHead': WHATEVER THE INPUT: true; the input reads as it did. -/
def fnExactPseudoHeadSpec : ChangeSpec := { name := "fnExactPseudoHead", fn := fun _ => fun
  | [d1, d2, d3] => { results := [.lit (.bool true)], args := [d1, d2, d3] }
  | _ => none }
def fnExactPseudoHeadRow : OpenClaim := { program := "ytgiaihidbcfpdaa", sum := "b49843e9648b94a5f2317836f7d8df55c72ebe6c7a61ad539c77e49b95f43214", func := "loop.example/g00504/laws.FnExactPseudoHead", spec := "fnExactPseudoHead", apart := false }
def FnExactPseudoHeadSaid : Prop := fnExactPseudoHeadRow.holds Try.pinned (OpenSpec.ofChange fnExactPseudoHeadSpec)

/-- ITS FALSE NEIGHBOUR: 'it returns false'. Refute it at one input. -/
def fnExactPseudoHeadWrong : ChangeSpec := { name := "fnExactPseudoHead", fn := fun _ => fun
  | [d1, d2, d3] => { results := [.lit (.bool false)], args := [d1, d2, d3] }
  | _ => none }
def FnExactPseudoHeadWrongFalsely : Prop := fnExactPseudoHeadRow.holds Try.pinned (OpenSpec.ofChange fnExactPseudoHeadWrong)

/-- 'laws.FnExactSumRight': WHATEVER THE INPUT: true; the input reads as it did. -/
def fnExactSumRightSpec : ChangeSpec := { name := "fnExactSumRight", fn := fun _ => fun
  | [d] => { results := [.lit (.bool true)], args := [d] }
  | _ => none }
def fnExactSumRightRow : OpenClaim := { program := "ytgiaihidbcfpdaa", sum := "b49843e9648b94a5f2317836f7d8df55c72ebe6c7a61ad539c77e49b95f43214", func := "loop.example/g00504/laws.FnExactSumRight", spec := "fnExactSumRight", apart := false }
def FnExactSumRightSaid : Prop := fnExactSumRightRow.holds Try.pinned (OpenSpec.ofChange fnExactSumRightSpec)

/-- ITS FALSE NEIGHBOUR: 'it returns false'. Refute it at one input. -/
def fnExactSumRightWrong : ChangeSpec := { name := "fnExactSumRight", fn := fun _ => fun
  | [d] => { results := [.lit (.bool false)], args := [d] }
  | _ => none }
def FnExactSumRightWrongFalsely : Prop := fnExactSumRightRow.holds Try.pinned (OpenSpec.ofChange fnExactSumRightWrong)

/-- 'laws.FnExactUnhex': WHATEVER THE INPUT: true; the input reads as it did. -/
def fnExactUnhexSpec : ChangeSpec := { name := "fnExactUnhex", fn := fun _ => fun
  | [d] => { results := [.lit (.bool true)], args := [d] }
  | _ => none }
def fnExactUnhexRow : OpenClaim := { program := "ytgiaihidbcfpdaa", sum := "b49843e9648b94a5f2317836f7d8df55c72ebe6c7a61ad539c77e49b95f43214", func := "loop.example/g00504/laws.FnExactUnhex", spec := "fnExactUnhex", inPlace := ["internal/bytealg.IndexByteString"], apart := false }
def FnExactUnhexSaid : Prop := fnExactUnhexRow.holds Try.pinned (OpenSpec.ofChange fnExactUnhexSpec)

/-- ITS FALSE NEIGHBOUR: 'it returns false'. Refute it at one input. -/
def fnExactUnhexWrong : ChangeSpec := { name := "fnExactUnhex", fn := fun _ => fun
  | [d] => { results := [.lit (.bool false)], args := [d] }
  | _ => none }
def FnExactUnhexWrongFalsely : Prop := fnExactUnhexRow.holds Try.pinned (OpenSpec.ofChange fnExactUnhexWrong)

/-- 'laws.FnExactNumber': WHATEVER THE INPUT: true; the input reads as it did. -/
def fnExactNumberSpec : ChangeSpec := { name := "fnExactNumber", fn := fun _ => fun
  | [d] => { results := [.lit (.bool true)], args := [d] }
  | _ => none }
def fnExactNumberRow : OpenClaim := { program := "ytgiaihidbcfpdaa", sum := "b49843e9648b94a5f2317836f7d8df55c72ebe6c7a61ad539c77e49b95f43214", func := "loop.example/g00504/laws.FnExactNumber", spec := "fnExactNumber", apart := false }
def FnExactNumberSaid : Prop := fnExactNumberRow.holds Try.pinned (OpenSpec.ofChange fnExactNumberSpec)

/-- ITS FALSE NEIGHBOUR: 'it returns false'. Refute it at one input. -/
def fnExactNumberWrong : ChangeSpec := { name := "fnExactNumber", fn := fun _ => fun
  | [d] => { results := [.lit (.bool false)], args := [d] }
  | _ => none }
def FnExactNumberWrongFalsely : Prop := fnExactNumberRow.holds Try.pinned (OpenSpec.ofChange fnExactNumberWrong)

/-- 'laws.FnExactSegmentLen': WHATEVER THE INPUT: true; the input reads as it did. -/
def fnExactSegmentLenSpec : ChangeSpec := { name := "fnExactSegmentLen", fn := fun _ => fun
  | [d] => { results := [.lit (.bool true)], args := [d] }
  | _ => none }
def fnExactSegmentLenRow : OpenClaim := { program := "ytgiaihidbcfpdaa", sum := "b49843e9648b94a5f2317836f7d8df55c72ebe6c7a61ad539c77e49b95f43214", func := "loop.example/g00504/laws.FnExactSegmentLen", spec := "fnExactSegmentLen", apart := false }
def FnExactSegmentLenSaid : Prop := fnExactSegmentLenRow.holds Try.pinned (OpenSpec.ofChange fnExactSegmentLenSpec)

/-- ITS FALSE NEIGHBOUR: 'it returns false'. Refute it at one input. -/
def fnExactSegmentLenWrong : ChangeSpec := { name := "fnExactSegmentLen", fn := fun _ => fun
  | [d] => { results := [.lit (.bool false)], args := [d] }
  | _ => none }
def FnExactSegmentLenWrongFalsely : Prop := fnExactSegmentLenRow.holds Try.pinned (OpenSpec.ofChange fnExactSegmentLenWrong)

/- THE SECOND FORM. 'bulk': how many values and letters a reading holds, each counted each time it is reached (what is shared counts as often as it is met; a slice's spare places count too). A statement '..UptoSaid' is the law's where the arguments, and the package variables that the reading takes, are together of bulk at most 1048576: NARROWER than '..Said'. Prove '..Said' where nothing that the law and all that it calls make is longer than what came in: it says more and counts as full. Else prove '..UptoSaid'. A law counts once. -/
mutual
def uptoBulk {H : Type} : DataW H → Nat
  | .lit (.string bytes) => bytes.length + 1
  | .lit _ => 1
  | .nil => 1
  | .ptr d => uptoBulk d + 1
  | .slice elems spare => uptoBulkAll elems + uptoBulkAll spare + 1
  | .agg parts => uptoBulkAll parts + 1
  | .iface _ d => uptoBulk d + 1
  | .map entries => uptoBulkEntries entries + 1
  | .held _ => 1
def uptoBulkAll {H : Type} : List (DataW H) → Nat
  | [] => 0
  | d :: r => uptoBulk d + uptoBulkAll r
def uptoBulkEntries {H : Type} : List (Lit × DataW H) → Nat
  | [] => 0
  | x :: r => uptoBulkEntry x + uptoBulkEntries r
def uptoBulkEntry {H : Type} : Lit × DataW H → Nat
  | (.string bytes, d) => bytes.length + uptoBulk d + 1
  | (_, d) => uptoBulk d + 1
 end
def uptoSmall : (H : Type) → List (DataW H) → Bool := fun _ ds => decide (uptoBulkAll ds ≤ 1048576)
def OpenSpec.upto (s : _root_.Go.ChangeSpec) : _root_.Go.OpenSpec := { _root_.Go.OpenSpec.ofChange s with cond := some uptoSmall }

/-- 'laws.FnExactWordSum', WHERE WHAT IT READS IS OF BULK AT MOST 1048576: true; the input reads as it did. -/
def fnExactWordSumUptoRow : OpenClaim := { program := "ytgiaihidbcfpdaa", sum := "b49843e9648b94a5f2317836f7d8df55c72ebe6c7a61ad539c77e49b95f43214", func := "loop.example/g00504/laws.FnExactWordSum", spec := "fnExactWordSum", apart := false, narrowed := true }
def FnExactWordSumUptoSaid : Prop := fnExactWordSumUptoRow.holds Try.pinned (OpenSpec.upto fnExactWordSumSpec)

/-- 'laws.FnExactSipStart', WHERE WHAT IT READS IS OF BULK AT MOST 1048576: true; the input reads as it did. -/
def fnExactSipStartUptoRow : OpenClaim := { program := "ytgiaihidbcfpdaa", sum := "b49843e9648b94a5f2317836f7d8df55c72ebe6c7a61ad539c77e49b95f43214", func := "loop.example/g00504/laws.FnExactSipStart", spec := "fnExactSipStart", apart := false, narrowed := true }
def FnExactSipStartUptoSaid : Prop := fnExactSipStartUptoRow.holds Try.pinned (OpenSpec.upto fnExactSipStartSpec)

/-- 'laws.FnExactArpOk', WHERE WHAT IT READS IS OF BULK AT MOST 1048576: true; the input reads as it did. -/
def fnExactArpOkUptoRow : OpenClaim := { program := "ytgiaihidbcfpdaa", sum := "b49843e9648b94a5f2317836f7d8df55c72ebe6c7a61ad539c77e49b95f43214", func := "loop.example/g00504/laws.FnExactArpOk", spec := "fnExactArpOk", apart := false, narrowed := true }
def FnExactArpOkUptoSaid : Prop := fnExactArpOkUptoRow.holds Try.pinned (OpenSpec.upto fnExactArpOkSpec)

/-- 'laws.FnExactGetWord', WHERE WHAT IT READS IS OF BULK AT MOST 1048576: true; the input reads as it did. -/
def fnExactGetWordUptoRow : OpenClaim := { program := "ytgiaihidbcfpdaa", sum := "b49843e9648b94a5f2317836f7d8df55c72ebe6c7a61ad539c77e49b95f43214", func := "loop.example/g00504/laws.FnExactGetWord", spec := "fnExactGetWord", apart := false, narrowed := true }
def FnExactGetWordUptoSaid : Prop := fnExactGetWordUptoRow.holds Try.pinned (OpenSpec.upto fnExactGetWordSpec)

/-- 'laws.FnExactNoOptions', WHERE WHAT IT READS IS OF BULK AT MOST 1048576: true; the input reads as it did. -/
def fnExactNoOptionsUptoRow : OpenClaim := { program := "ytgiaihidbcfpdaa", sum := "b49843e9648b94a5f2317836f7d8df55c72ebe6c7a61ad539c77e49b95f43214", func := "loop.example/g00504/laws.FnExactNoOptions", spec := "fnExactNoOptions", apart := false, narrowed := true }
def FnExactNoOptionsUptoSaid : Prop := fnExactNoOptionsUptoRow.holds Try.pinned (OpenSpec.upto fnExactNoOptionsSpec)

/-- 'laws.FnExactFrameOk', WHERE WHAT IT READS IS OF BULK AT MOST 1048576: true; the input reads as it did. -/
def fnExactFrameOkUptoRow : OpenClaim := { program := "ytgiaihidbcfpdaa", sum := "b49843e9648b94a5f2317836f7d8df55c72ebe6c7a61ad539c77e49b95f43214", func := "loop.example/g00504/laws.FnExactFrameOk", spec := "fnExactFrameOk", apart := false, narrowed := true }
def FnExactFrameOkUptoSaid : Prop := fnExactFrameOkUptoRow.holds Try.pinned (OpenSpec.upto fnExactFrameOkSpec)

/-- 'laws.FnExactPutWord', WHERE WHAT IT READS IS OF BULK AT MOST 1048576: true; the input reads as it did. -/
def fnExactPutWordUptoRow : OpenClaim := { program := "ytgiaihidbcfpdaa", sum := "b49843e9648b94a5f2317836f7d8df55c72ebe6c7a61ad539c77e49b95f43214", func := "loop.example/g00504/laws.FnExactPutWord", spec := "fnExactPutWord", apart := false, narrowed := true }
def FnExactPutWordUptoSaid : Prop := fnExactPutWordUptoRow.holds Try.pinned (OpenSpec.upto fnExactPutWordSpec)

/-- 'laws.FnExactOptionsOk', WHERE WHAT IT READS IS OF BULK AT MOST 1048576: true; the input reads as it did. -/
def fnExactOptionsOkUptoRow : OpenClaim := { program := "ytgiaihidbcfpdaa", sum := "b49843e9648b94a5f2317836f7d8df55c72ebe6c7a61ad539c77e49b95f43214", func := "loop.example/g00504/laws.FnExactOptionsOk", spec := "fnExactOptionsOk", apart := false, narrowed := true }
def FnExactOptionsOkUptoSaid : Prop := fnExactOptionsOkUptoRow.holds Try.pinned (OpenSpec.upto fnExactOptionsOkSpec)

/-- 'laws.FnExactPacketOk', WHERE WHAT IT READS IS OF BULK AT MOST 1048576: true; the input reads as it did. -/
def fnExactPacketOkUptoRow : OpenClaim := { program := "ytgiaihidbcfpdaa", sum := "b49843e9648b94a5f2317836f7d8df55c72ebe6c7a61ad539c77e49b95f43214", func := "loop.example/g00504/laws.FnExactPacketOk", spec := "fnExactPacketOk", apart := false, narrowed := true }
def FnExactPacketOkUptoSaid : Prop := fnExactPacketOkUptoRow.holds Try.pinned (OpenSpec.upto fnExactPacketOkSpec)

/-- 'laws.FnExactOverlaps', WHERE WHAT IT READS IS OF BULK AT MOST 1048576: true; the input reads as it did. -/
def fnExactOverlapsUptoRow : OpenClaim := { program := "ytgiaihidbcfpdaa", sum := "b49843e9648b94a5f2317836f7d8df55c72ebe6c7a61ad539c77e49b95f43214", func := "loop.example/g00504/laws.FnExactOverlaps", spec := "fnExactOverlaps", apart := false, narrowed := true }
def FnExactOverlapsUptoSaid : Prop := fnExactOverlapsUptoRow.holds Try.pinned (OpenSpec.upto fnExactOverlapsSpec)

/-- 'laws.FnExactHas', WHERE WHAT IT READS IS OF BULK AT MOST 1048576: true; the input reads as it did. -/
def fnExactHasUptoRow : OpenClaim := { program := "ytgiaihidbcfpdaa", sum := "b49843e9648b94a5f2317836f7d8df55c72ebe6c7a61ad539c77e49b95f43214", func := "loop.example/g00504/laws.FnExactHas", spec := "fnExactHas", apart := false, narrowed := true }
def FnExactHasUptoSaid : Prop := fnExactHasUptoRow.holds Try.pinned (OpenSpec.upto fnExactHasSpec)

/-- 'laws.FnExactSumOf', WHERE WHAT IT READS IS OF BULK AT MOST 1048576: true; the input reads as it did. -/
def fnExactSumOfUptoRow : OpenClaim := { program := "ytgiaihidbcfpdaa", sum := "b49843e9648b94a5f2317836f7d8df55c72ebe6c7a61ad539c77e49b95f43214", func := "loop.example/g00504/laws.FnExactSumOf", spec := "fnExactSumOf", apart := false, narrowed := true }
def FnExactSumOfUptoSaid : Prop := fnExactSumOfUptoRow.holds Try.pinned (OpenSpec.upto fnExactSumOfSpec)

/-- 'laws.FnExactPseudoHead', WHERE WHAT IT READS IS OF BULK AT MOST 1048576: true; the input reads as it did. -/
def fnExactPseudoHeadUptoRow : OpenClaim := { program := "ytgiaihidbcfpdaa", sum := "b49843e9648b94a5f2317836f7d8df55c72ebe6c7a61ad539c77e49b95f43214", func := "loop.example/g00504/laws.FnExactPseudoHead", spec := "fnExactPseudoHead", apart := false, narrowed := true }
def FnExactPseudoHeadUptoSaid : Prop := fnExactPseudoHeadUptoRow.holds Try.pinned (OpenSpec.upto fnExactPseudoHeadSpec)

/-- 'laws.FnExactSumRight', WHERE WHAT IT READS IS OF BULK AT MOST 1048576: true; the input reads as it did. -/
def fnExactSumRightUptoRow : OpenClaim := { program := "ytgiaihidbcfpdaa", sum := "b49843e9648b94a5f2317836f7d8df55c72ebe6c7a61ad539c77e49b95f43214", func := "loop.example/g00504/laws.FnExactSumRight", spec := "fnExactSumRight", apart := false, narrowed := true }
def FnExactSumRightUptoSaid : Prop := fnExactSumRightUptoRow.holds Try.pinned (OpenSpec.upto fnExactSumRightSpec)

/-- 'laws.FnExactUnhex', WHERE WHAT IT READS IS OF BULK AT MOST 1048576: true; the input reads as it did. -/
def fnExactUnhexUptoRow : OpenClaim := { program := "ytgiaihidbcfpdaa", sum := "b49843e9648b94a5f2317836f7d8df55c72ebe6c7a61ad539c77e49b95f43214", func := "loop.example/g00504/laws.FnExactUnhex", spec := "fnExactUnhex", inPlace := ["internal/bytealg.IndexByteString"], apart := false, narrowed := true }
def FnExactUnhexUptoSaid : Prop := fnExactUnhexUptoRow.holds Try.pinned (OpenSpec.upto fnExactUnhexSpec)

/-- 'laws.FnExactNumber', WHERE WHAT IT READS IS OF BULK AT MOST 1048576: true; the input reads as it did. -/
def fnExactNumberUptoRow : OpenClaim := { program := "ytgiaihidbcfpdaa", sum := "b49843e9648b94a5f2317836f7d8df55c72ebe6c7a61ad539c77e49b95f43214", func := "loop.example/g00504/laws.FnExactNumber", spec := "fnExactNumber", apart := false, narrowed := true }
def FnExactNumberUptoSaid : Prop := fnExactNumberUptoRow.holds Try.pinned (OpenSpec.upto fnExactNumberSpec)

/-- 'laws.FnExactSegmentLen', WHERE WHAT IT READS IS OF BULK AT MOST 1048576: true; the input reads as it did. -/
def fnExactSegmentLenUptoRow : OpenClaim := { program := "ytgiaihidbcfpdaa", sum := "b49843e9648b94a5f2317836f7d8df55c72ebe6c7a61ad539c77e49b95f43214", func := "loop.example/g00504/laws.FnExactSegmentLen", spec := "fnExactSegmentLen", apart := false, narrowed := true }
def FnExactSegmentLenUptoSaid : Prop := fnExactSegmentLenUptoRow.holds Try.pinned (OpenSpec.upto fnExactSegmentLenSpec)

end Rows
end Go.Proofs.Ytgiaihidbcfpdaa
