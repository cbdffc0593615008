/-
  DERIVED. GIVEN WITH THE SEED: THE CARDS: each row of YtpbndakbdaidnaaDoorRows.lean that lists a variable, with what it lists TIED to the program's text (the seventh form; the later family's looks); each row that meets fmt, with fmt's text TOLD by the authors' own Lean function (tested against real Go, not proved from fmt's source: count such statements apart). THE CARD IS WHAT COUNTS. Prove the row's statement (the work); the ties are given (YtpbndakbdaidnaaDoorTie.lean); close each card by the builder's one call (the guide's Derived/Test/ToyasCard.lean, 'card_holds'). Laid BY PROGRAM, IN A SANDBOX (cutbox-door.mjs). By AI agents, Wed Nov 11 2026. No macro, syntax, notation, axiom, sorry.
-/
import Derived.Test.YtpbndakbdaidnaaDoorRows
import GoSem.ClaimSeven
namespace Go.Proofs.YtpbndakbdaidnaaDoor
namespace Rows

/-- THE TIED CARD OF 'laws.FnExactDigits'. -/
def fnExactDigitsCard : Claim7 := { stood := { row := fnExactDigitsRow, standIns := [], harness := (true, "8e8e3f9cfdad264736ecf8f137ded504d7418cdc35495e41f83e182d7971de51"), looks := false }, kinds := [], alts := [], laidByText := true, laidKinds := [.data, .data, .data], laidTests := true, laidLooks := .later }
def FnExactDigitsCardSaid : Prop := Claim7.holds Tryd.pinned (.plain (OpenSpec.ofChange fnExactDigitsSpec)) fnExactDigitsCard

/-- THE TIED CARD OF 'laws.FnExactAddressText'. -/
def fnExactAddressTextCard : Claim7 := { stood := { row := fnExactAddressTextRow, standIns := [], harness := (true, "8e8e3f9cfdad264736ecf8f137ded504d7418cdc35495e41f83e182d7971de51"), looks := false }, kinds := [], alts := [], laidByText := true, laidKinds := [.data, .data, .data], laidTests := true, laidLooks := .later }
def FnExactAddressTextCardSaid : Prop := Claim7.holds Tryd.pinned (.plain (OpenSpec.ofChange fnExactAddressTextSpec)) fnExactAddressTextCard

/-- THE SECOND FORM's CARD OF 'laws.FnExactDigits'. -/
def fnExactDigitsUptoCard : Claim7 := { stood := { row := fnExactDigitsUptoRow, standIns := [], harness := (true, "8e8e3f9cfdad264736ecf8f137ded504d7418cdc35495e41f83e182d7971de51"), looks := false }, kinds := [], alts := [], laidByText := true, laidKinds := [.data, .data, .data], laidTests := true, laidLooks := .later }
def FnExactDigitsUptoCardSaid : Prop := Claim7.holds Tryd.pinned (.plain (OpenSpec.upto fnExactDigitsSpec)) fnExactDigitsUptoCard

/-- THE SECOND FORM's CARD OF 'laws.FnExactAddressText'. -/
def fnExactAddressTextUptoCard : Claim7 := { stood := { row := fnExactAddressTextUptoRow, standIns := [], harness := (true, "8e8e3f9cfdad264736ecf8f137ded504d7418cdc35495e41f83e182d7971de51"), looks := false }, kinds := [], alts := [], laidByText := true, laidKinds := [.data, .data, .data], laidTests := true, laidLooks := .later }
def FnExactAddressTextUptoCardSaid : Prop := Claim7.holds Tryd.pinned (.plain (OpenSpec.upto fnExactAddressTextSpec)) fnExactAddressTextUptoCard
end Rows
end Go.Proofs.YtpbndakbdaidnaaDoor
