/-
  DERIVED. GIVEN WITH THE SEED: THE CARDS: each row of YtkmpfmhbkflgpaaDoorRows.lean that lists a variable, with what it lists TIED to the program's text (the seventh form; the later family's looks); each row that meets fmt, with fmt's text TOLD by the authors' own Lean function (tested against real Go, not proved from fmt's source: count such statements apart). THE CARD IS WHAT COUNTS. Prove the row's statement (the work); the ties are given (YtkmpfmhbkflgpaaDoorTie.lean); close each card by the builder's one call (the guide's Derived/Test/ToyasCard.lean, 'card_holds'). Laid BY PROGRAM, IN A SANDBOX (cutbox-door.mjs). By AI agents, Wed Nov 11 2026. No macro, syntax, notation, axiom, sorry.
-/
import Derived.Test.YtkmpfmhbkflgpaaDoorRows
import GoSem.ClaimSeven
namespace Go.Proofs.YtkmpfmhbkflgpaaDoor
namespace Rows

/-- THE TIED CARD OF 'chantrytop.WholeOld'. -/
def wholeOldCard : Claim7 := { stood := { row := wholeOldRow, standIns := [], harness := (true, "73a385c8c19a29f3db99909c63099c3c95182f8087f661df172535f4a68c67fa"), looks := true }, kinds := [], alts := [], laidByText := true, laidKinds := [.data], laidTests := true, laidLooks := .later }
def WholeOldCardSaid : Prop := Claim7.holds Tryd.pinned (.plain (OpenSpec.ofChange wholeOldSpec)) wholeOldCard

/-- THE SECOND FORM's CARD OF 'chantrytop.WholeOld'. -/
def wholeOldUptoCard : Claim7 := { stood := { row := wholeOldUptoRow, standIns := [], harness := (true, "73a385c8c19a29f3db99909c63099c3c95182f8087f661df172535f4a68c67fa"), looks := true }, kinds := [], alts := [], laidByText := true, laidKinds := [.data], laidTests := true, laidLooks := .later }
def WholeOldUptoCardSaid : Prop := Claim7.holds Tryd.pinned (.plain (OpenSpec.upto wholeOldSpec)) wholeOldUptoCard
end Rows
end Go.Proofs.YtkmpfmhbkflgpaaDoor
