/-
  DERIVED. GIVEN WITH THE SEED: THE CARDS: each row of YtkknhcpjiehgiaaDoorRows.lean that lists a variable, with what it lists TIED to the program's text (the seventh form; the later family's looks); each row that meets fmt, with fmt's text TOLD by the authors' own Lean function (tested against real Go, not proved from fmt's source: count such statements apart). THE CARD IS WHAT COUNTS. Prove the row's statement (the work); the ties are given (YtkknhcpjiehgiaaDoorTie.lean); close each card by the builder's one call (the guide's Derived/Test/ToyasCard.lean, 'card_holds'). Laid BY PROGRAM, IN A SANDBOX (cutbox-door.mjs). By AI agents, Wed Nov 11 2026. No macro, syntax, notation, axiom, sorry.
-/
import Derived.Test.YtkknhcpjiehgiaaDoorRows
import GoSem.ClaimSeven
namespace Go.Proofs.YtkknhcpjiehgiaaDoor
namespace Rows

/-- THE TIED CARD OF 'laws.FnExactMonodromyOrder'. -/
def fnExactMonodromyOrderCard : Claim7 := { stood := { row := fnExactMonodromyOrderRow, standIns := [], harness := (true, "ed6efb719354ae4d4be6f902f914c9da4cce79d4c059789746f794281ad2e17e"), looks := false }, kinds := [], alts := [], laidByText := true, laidKinds := [.data, .data, .data], laidTests := true, laidLooks := .later }
def FnExactMonodromyOrderCardSaid : Prop := Claim7.holds Tryd.pinned (.plain (OpenSpec.ofChange fnExactMonodromyOrderSpec)) fnExactMonodromyOrderCard

/-- THE SECOND FORM's CARD OF 'laws.FnExactMonodromyOrder'. -/
def fnExactMonodromyOrderUptoCard : Claim7 := { stood := { row := fnExactMonodromyOrderUptoRow, standIns := [], harness := (true, "ed6efb719354ae4d4be6f902f914c9da4cce79d4c059789746f794281ad2e17e"), looks := false }, kinds := [], alts := [], laidByText := true, laidKinds := [.data, .data, .data], laidTests := true, laidLooks := .later }
def FnExactMonodromyOrderUptoCardSaid : Prop := Claim7.holds Tryd.pinned (.plain (OpenSpec.upto fnExactMonodromyOrderSpec)) fnExactMonodromyOrderUptoCard
end Rows
end Go.Proofs.YtkknhcpjiehgiaaDoor
