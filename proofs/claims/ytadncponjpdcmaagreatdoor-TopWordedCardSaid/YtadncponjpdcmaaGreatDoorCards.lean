/-
  DERIVED. GIVEN WITH THE SEED: THE CARDS: each row of YtadncponjpdcmaaGreatDoorRows.lean that lists a variable, with what it lists TIED to the program's text (the seventh form; the later family's looks); each row that meets fmt, with fmt's text TOLD by the authors' own Lean function (tested against real Go, not proved from fmt's source: count such statements apart). THE CARD IS WHAT COUNTS. Prove the row's statement (the work); the ties are given (YtadncponjpdcmaaGreatDoorTie.lean); close each card by the builder's one call (the guide's Derived/Test/ToyasCard.lean, 'card_holds'). Laid BY PROGRAM, IN A SANDBOX (cutbox-door.mjs). By AI agents, Wed Nov 11 2026. No macro, syntax, notation, axiom, sorry.
-/
import Derived.Test.YtadncponjpdcmaaGreatDoorRows
import GoSem.ClaimSeven
namespace Go.Proofs.YtadncponjpdcmaaGreatDoor
namespace Rows

/-- THE TIED CARD OF 'separatumtop.TopWorded'. -/
def topWordedCard : Claim7 := { stood := { row := topWordedRow, standIns := [], harness := (true, "3cf4b1d638ac819eb9eb21fbf3b01814fd7598f39237b33638be8b73e98b209f"), looks := true }, kinds := [], alts := [], laidByText := true, laidKinds := [.data, .data, .data, .data, .sentinel, .sentinel, .pinned], laidTests := true, laidLooks := .later }
def TopWordedCardSaid : Prop := Claim7.holds Tryz.pinned (.plain (OpenSpec.ofChange topWordedSpec)) topWordedCard

/-- THE SECOND FORM's CARD OF 'separatumtop.TopWorded'. -/
def topWordedUptoCard : Claim7 := { stood := { row := topWordedUptoRow, standIns := [], harness := (true, "3cf4b1d638ac819eb9eb21fbf3b01814fd7598f39237b33638be8b73e98b209f"), looks := true }, kinds := [], alts := [], laidByText := true, laidKinds := [.data, .data, .data, .data, .sentinel, .sentinel, .pinned], laidTests := true, laidLooks := .later }
def TopWordedUptoCardSaid : Prop := Claim7.holds Tryz.pinned (.plain (OpenSpec.upto topWordedSpec)) topWordedUptoCard
end Rows
end Go.Proofs.YtadncponjpdcmaaGreatDoor
