/-
  DERIVED. GIVEN WITH THE SEED: THE CARDS: each row of YtkmpfmhbkflgpaaGreatDoorRows.lean that lists a variable, with what it lists TIED to the program's text (the seventh form; the later family's looks); each row that meets fmt, with fmt's text TOLD by the authors' own Lean function (tested against real Go, not proved from fmt's source: count such statements apart). THE CARD IS WHAT COUNTS. Prove the row's statement (the work); the ties are given (YtkmpfmhbkflgpaaGreatDoorTie.lean); close each card by the builder's one call (the guide's Derived/Test/ToyasCard.lean, 'card_holds'). Laid BY PROGRAM, IN A SANDBOX (cutbox-door.mjs). By AI agents, Wed Nov 11 2026. No macro, syntax, notation, axiom, sorry.
-/
import Derived.Test.YtkmpfmhbkflgpaaGreatDoorRows
import GoSem.ClaimSeven
namespace Go.Proofs.YtkmpfmhbkflgpaaGreatDoor
namespace Rows

/-- THE TIED CARD OF 'chantrytop.WholeSecret'. -/
def wholeSecretCard : Claim7 := { stood := { row := wholeSecretRow, standIns := [], harness := (true, "a708bd27f4c624c96aec1c2c7b456b5962d0159389130b3a86aa971e66013b8d"), looks := true }, kinds := [], alts := [], laidByText := true, laidKinds := [.data], laidTests := true, laidLooks := .later }
def WholeSecretCardSaid : Prop := Claim7.holds Tryz.pinned (.plain (OpenSpec.ofChange wholeSecretSpec)) wholeSecretCard

/-- THE SECOND FORM's CARD OF 'chantrytop.WholeSecret'. -/
def wholeSecretUptoCard : Claim7 := { stood := { row := wholeSecretUptoRow, standIns := [], harness := (true, "a708bd27f4c624c96aec1c2c7b456b5962d0159389130b3a86aa971e66013b8d"), looks := true }, kinds := [], alts := [], laidByText := true, laidKinds := [.data], laidTests := true, laidLooks := .later }
def WholeSecretUptoCardSaid : Prop := Claim7.holds Tryz.pinned (.plain (OpenSpec.upto wholeSecretSpec)) wholeSecretUptoCard
end Rows
end Go.Proofs.YtkmpfmhbkflgpaaGreatDoor
