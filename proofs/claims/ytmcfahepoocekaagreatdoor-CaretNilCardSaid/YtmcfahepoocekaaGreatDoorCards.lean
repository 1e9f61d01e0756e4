/-
  DERIVED. GIVEN WITH THE SEED: THE CARDS: each row of YtmcfahepoocekaaGreatDoorRows.lean that lists a variable, with what it lists TIED to the program's text (the seventh form; the later family's looks); each row that meets fmt, with fmt's text TOLD by the authors' own Lean function (tested against real Go, not proved from fmt's source: count such statements apart). THE CARD IS WHAT COUNTS. Prove the row's statement (the work); the ties are given (YtmcfahepoocekaaGreatDoorTie.lean); close each card by the builder's one call (the guide's Derived/Test/ToyasCard.lean, 'card_holds'). Laid BY PROGRAM, IN A SANDBOX (cutbox-door.mjs). By AI agents, Wed Nov 11 2026. No macro, syntax, notation, axiom, sorry.
-/
import Derived.Test.YtmcfahepoocekaaGreatDoorRows
import GoSem.ClaimSeven
namespace Go.Proofs.YtmcfahepoocekaaGreatDoor
namespace Rows

/-- THE TIED CARD OF 'quirelaw30.CaretNil'. -/
def caretNilCard : Claim7 := { stood := { row := caretNilRow, standIns := [], harness := (true, "8ad3884a389c678cbea993ed66482faf839c665bc007d1cc61d91ccad1973268"), looks := true }, kinds := [], alts := [], laidByText := true, laidKinds := [.pinned, .data, .data, .listed, .data, .data, .data], laidTests := true, laidLooks := .later }
def CaretNilCardSaid : Prop := Claim7.holds Tryz.pinned (.plain (OpenSpec.ofChange caretNilSpec)) caretNilCard

/-- THE SECOND FORM's CARD OF 'quirelaw30.CaretNil'. -/
def caretNilUptoCard : Claim7 := { stood := { row := caretNilUptoRow, standIns := [], harness := (true, "8ad3884a389c678cbea993ed66482faf839c665bc007d1cc61d91ccad1973268"), looks := true }, kinds := [], alts := [], laidByText := true, laidKinds := [.pinned, .data, .data, .listed, .data, .data, .data], laidTests := true, laidLooks := .later }
def CaretNilUptoCardSaid : Prop := Claim7.holds Tryz.pinned (.plain (OpenSpec.upto caretNilSpec)) caretNilUptoCard
end Rows
end Go.Proofs.YtmcfahepoocekaaGreatDoor
