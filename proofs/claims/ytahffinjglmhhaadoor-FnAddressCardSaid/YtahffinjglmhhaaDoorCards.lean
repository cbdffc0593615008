/-
  DERIVED. GIVEN WITH THE SEED: THE CARDS: each row of YtahffinjglmhhaaDoorRows.lean that lists a variable, with what it lists TIED to the program's text (the seventh form; the later family's looks); each row that meets fmt, with fmt's text TOLD by the authors' own Lean function (tested against real Go, not proved from fmt's source: count such statements apart). THE CARD IS WHAT COUNTS. Prove the row's statement (the work); the ties are given (YtahffinjglmhhaaDoorTie.lean); close each card by the builder's one call (the guide's Derived/Test/ToyasCard.lean, 'card_holds'). Laid BY PROGRAM, IN A SANDBOX (cutbox-door.mjs). By AI agents, Wed Nov 11 2026. No macro, syntax, notation, axiom, sorry.
-/
import Derived.Test.YtahffinjglmhhaaDoorRows
import GoSem.ClaimSeven
namespace Go.Proofs.YtahffinjglmhhaaDoor
namespace Rows

/-- THE TIED CARD OF 'laws.FnNum'. -/
def fnNumCard : Claim7 := { stood := { row := fnNumRow, standIns := [], harness := (true, "7123db64050a542b802e22a41a96cd3298116d03bf780f114443fc5ca73fb54f"), looks := false }, kinds := [], alts := [], laidByText := true, laidKinds := [.data, .data, .data], laidTests := true, laidLooks := .later }
def FnNumCardSaid : Prop := Claim7.holds Tryd.pinned (.plain (OpenSpec.ofChange fnNumSpec)) fnNumCard

/-- THE TIED CARD OF 'laws.FnAddress'. -/
def fnAddressCard : Claim7 := { stood := { row := fnAddressRow, standIns := [], harness := (true, "7123db64050a542b802e22a41a96cd3298116d03bf780f114443fc5ca73fb54f"), looks := false }, kinds := [], alts := [], laidByText := true, laidKinds := [.data, .data, .data], laidTests := true, laidLooks := .later }
def FnAddressCardSaid : Prop := Claim7.holds Tryd.pinned (.plain (OpenSpec.ofChange fnAddressSpec)) fnAddressCard

/-- THE SECOND FORM's CARD OF 'laws.FnNum'. -/
def fnNumUptoCard : Claim7 := { stood := { row := fnNumUptoRow, standIns := [], harness := (true, "7123db64050a542b802e22a41a96cd3298116d03bf780f114443fc5ca73fb54f"), looks := false }, kinds := [], alts := [], laidByText := true, laidKinds := [.data, .data, .data], laidTests := true, laidLooks := .later }
def FnNumUptoCardSaid : Prop := Claim7.holds Tryd.pinned (.plain (OpenSpec.upto fnNumSpec)) fnNumUptoCard

/-- THE SECOND FORM's CARD OF 'laws.FnAddress'. -/
def fnAddressUptoCard : Claim7 := { stood := { row := fnAddressUptoRow, standIns := [], harness := (true, "7123db64050a542b802e22a41a96cd3298116d03bf780f114443fc5ca73fb54f"), looks := false }, kinds := [], alts := [], laidByText := true, laidKinds := [.data, .data, .data], laidTests := true, laidLooks := .later }
def FnAddressUptoCardSaid : Prop := Claim7.holds Tryd.pinned (.plain (OpenSpec.upto fnAddressSpec)) fnAddressUptoCard
end Rows
end Go.Proofs.YtahffinjglmhhaaDoor
