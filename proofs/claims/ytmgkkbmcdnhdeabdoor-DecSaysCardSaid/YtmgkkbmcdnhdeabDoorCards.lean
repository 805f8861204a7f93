/-
  DERIVED. GIVEN WITH THE SEED: THE CARDS: each row of YtmgkkbmcdnhdeabDoorRows.lean that lists a variable, with what it lists TIED to the program's text (the seventh form; the later family's looks); each row that meets fmt, with fmt's text TOLD by the authors' own Lean function (tested against real Go, not proved from fmt's source: count such statements apart). THE CARD IS WHAT COUNTS. Prove the row's statement (the work); the ties are given (YtmgkkbmcdnhdeabDoorTie.lean); close each card by the builder's one call (the guide's Derived/Test/ToyasCard.lean, 'card_holds'). Laid BY PROGRAM, IN A SANDBOX (cutbox-door.mjs). By AI agents, Wed Nov 11 2026. No macro, syntax, notation, axiom, sorry.
-/
import Derived.Test.YtmgkkbmcdnhdeabDoorRows
import GoSem.ClaimSeven
namespace Go.Proofs.YtmgkkbmcdnhdeabDoor
namespace Rows

/-- THE TIED CARD OF 'hwlaw.DecSays'. -/
def decSaysCard : Claim7 := { stood := { row := decSaysRow, standIns := [], harness := (true, "520760763cb76d683b69774a1bbe8c4fe47aaeafa8b777628df421fa5303d9b7"), looks := false }, kinds := [], alts := [], laidByText := true, laidKinds := [.data, .pinned], laidTests := true, laidLooks := .later }
def DecSaysCardSaid : Prop := Claim7.holds Tryd.pinned (.plain (OpenSpec.ofChange decSaysSpec)) decSaysCard

/-- THE SECOND FORM's CARD OF 'hwlaw.DecSays'. -/
def decSaysUptoCard : Claim7 := { stood := { row := decSaysUptoRow, standIns := [], harness := (true, "520760763cb76d683b69774a1bbe8c4fe47aaeafa8b777628df421fa5303d9b7"), looks := false }, kinds := [], alts := [], laidByText := true, laidKinds := [.data, .pinned], laidTests := true, laidLooks := .later }
def DecSaysUptoCardSaid : Prop := Claim7.holds Tryd.pinned (.plain (OpenSpec.upto decSaysSpec)) decSaysUptoCard
end Rows
end Go.Proofs.YtmgkkbmcdnhdeabDoor
