/-
  DERIVED. GIVEN WITH THE SEED: THE CARDS: each row of YtnpabhoflkppaaaDoorRows.lean that lists a variable, with what it lists TIED to the program's text (the seventh form; the later family's looks); each row that meets fmt, with fmt's text TOLD by the authors' own Lean function (tested against real Go, not proved from fmt's source: count such statements apart). THE CARD IS WHAT COUNTS. Prove the row's statement (the work); the ties are given (YtnpabhoflkppaaaDoorTie.lean); close each card by the builder's one call (the guide's Derived/Test/ToyasCard.lean, 'card_holds'). Laid BY PROGRAM, IN A SANDBOX (cutbox-door.mjs). By AI agents, Wed Nov 11 2026. No macro, syntax, notation, axiom, sorry.
-/
import Derived.Test.YtnpabhoflkppaaaDoorRows
import GoSem.ClaimSeven
namespace Go.Proofs.YtnpabhoflkppaaaDoor
namespace Rows

/-- THE TIED CARD OF 'chantrylaw14.TreePaths'. -/
def treePathsCard : Claim7 := { stood := { row := treePathsRow, standIns := [], harness := (true, "519f930ef060d42e4f7c3a45010a3fe2a6b7a190932dd6d71dc64bdea4679364"), looks := false }, kinds := [], alts := [], laidByText := true, laidKinds := [.data], laidTests := true, laidLooks := .later }
def TreePathsCardSaid : Prop := Claim7.holds Tryd.pinned (.plain (OpenSpec.ofChange treePathsSpec)) treePathsCard

/-- THE TIED CARD OF 'chantrylaw14.TreeSteps'. -/
def treeStepsCard : Claim7 := { stood := { row := treeStepsRow, standIns := [], harness := (true, "519f930ef060d42e4f7c3a45010a3fe2a6b7a190932dd6d71dc64bdea4679364"), looks := false }, kinds := [], alts := [], laidByText := true, laidKinds := [.data], laidTests := true, laidLooks := .later }
def TreeStepsCardSaid : Prop := Claim7.holds Tryd.pinned (.plain (OpenSpec.ofChange treeStepsSpec)) treeStepsCard

/-- THE TIED CARD OF 'chantrylaw14.TreeReached'. -/
def treeReachedCard : Claim7 := { stood := { row := treeReachedRow, standIns := [], harness := (true, "519f930ef060d42e4f7c3a45010a3fe2a6b7a190932dd6d71dc64bdea4679364"), looks := false }, kinds := [], alts := [], laidByText := true, laidKinds := [.data], laidTests := true, laidLooks := .later }
def TreeReachedCardSaid : Prop := Claim7.holds Tryd.pinned (.plain (OpenSpec.ofChange treeReachedSpec)) treeReachedCard

/-- THE TIED CARD OF 'chantrylaw14.TreeGone'. -/
def treeGoneCard : Claim7 := { stood := { row := treeGoneRow, standIns := [], harness := (true, "519f930ef060d42e4f7c3a45010a3fe2a6b7a190932dd6d71dc64bdea4679364"), looks := false }, kinds := [], alts := [], laidByText := true, laidKinds := [.data], laidTests := true, laidLooks := .later }
def TreeGoneCardSaid : Prop := Claim7.holds Tryd.pinned (.plain (OpenSpec.ofChange treeGoneSpec)) treeGoneCard

/-- THE TIED CARD OF 'chantrylaw14.TreeParents'. -/
def treeParentsCard : Claim7 := { stood := { row := treeParentsRow, standIns := [], harness := (true, "519f930ef060d42e4f7c3a45010a3fe2a6b7a190932dd6d71dc64bdea4679364"), looks := false }, kinds := [], alts := [], laidByText := true, laidKinds := [.data], laidTests := true, laidLooks := .later }
def TreeParentsCardSaid : Prop := Claim7.holds Tryd.pinned (.plain (OpenSpec.ofChange treeParentsSpec)) treeParentsCard

/-- THE TIED CARD OF 'chantrylaw14.TreeBoth'. -/
def treeBothCard : Claim7 := { stood := { row := treeBothRow, standIns := [], harness := (true, "519f930ef060d42e4f7c3a45010a3fe2a6b7a190932dd6d71dc64bdea4679364"), looks := false }, kinds := [], alts := [], laidByText := true, laidKinds := [.data], laidTests := true, laidLooks := .later }
def TreeBothCardSaid : Prop := Claim7.holds Tryd.pinned (.plain (OpenSpec.ofChange treeBothSpec)) treeBothCard

/-- THE SECOND FORM's CARD OF 'chantrylaw14.TreePaths'. -/
def treePathsUptoCard : Claim7 := { stood := { row := treePathsUptoRow, standIns := [], harness := (true, "519f930ef060d42e4f7c3a45010a3fe2a6b7a190932dd6d71dc64bdea4679364"), looks := false }, kinds := [], alts := [], laidByText := true, laidKinds := [.data], laidTests := true, laidLooks := .later }
def TreePathsUptoCardSaid : Prop := Claim7.holds Tryd.pinned (.plain (OpenSpec.upto treePathsSpec)) treePathsUptoCard

/-- THE SECOND FORM's CARD OF 'chantrylaw14.TreeSteps'. -/
def treeStepsUptoCard : Claim7 := { stood := { row := treeStepsUptoRow, standIns := [], harness := (true, "519f930ef060d42e4f7c3a45010a3fe2a6b7a190932dd6d71dc64bdea4679364"), looks := false }, kinds := [], alts := [], laidByText := true, laidKinds := [.data], laidTests := true, laidLooks := .later }
def TreeStepsUptoCardSaid : Prop := Claim7.holds Tryd.pinned (.plain (OpenSpec.upto treeStepsSpec)) treeStepsUptoCard

/-- THE SECOND FORM's CARD OF 'chantrylaw14.TreeReached'. -/
def treeReachedUptoCard : Claim7 := { stood := { row := treeReachedUptoRow, standIns := [], harness := (true, "519f930ef060d42e4f7c3a45010a3fe2a6b7a190932dd6d71dc64bdea4679364"), looks := false }, kinds := [], alts := [], laidByText := true, laidKinds := [.data], laidTests := true, laidLooks := .later }
def TreeReachedUptoCardSaid : Prop := Claim7.holds Tryd.pinned (.plain (OpenSpec.upto treeReachedSpec)) treeReachedUptoCard

/-- THE SECOND FORM's CARD OF 'chantrylaw14.TreeGone'. -/
def treeGoneUptoCard : Claim7 := { stood := { row := treeGoneUptoRow, standIns := [], harness := (true, "519f930ef060d42e4f7c3a45010a3fe2a6b7a190932dd6d71dc64bdea4679364"), looks := false }, kinds := [], alts := [], laidByText := true, laidKinds := [.data], laidTests := true, laidLooks := .later }
def TreeGoneUptoCardSaid : Prop := Claim7.holds Tryd.pinned (.plain (OpenSpec.upto treeGoneSpec)) treeGoneUptoCard

/-- THE SECOND FORM's CARD OF 'chantrylaw14.TreeParents'. -/
def treeParentsUptoCard : Claim7 := { stood := { row := treeParentsUptoRow, standIns := [], harness := (true, "519f930ef060d42e4f7c3a45010a3fe2a6b7a190932dd6d71dc64bdea4679364"), looks := false }, kinds := [], alts := [], laidByText := true, laidKinds := [.data], laidTests := true, laidLooks := .later }
def TreeParentsUptoCardSaid : Prop := Claim7.holds Tryd.pinned (.plain (OpenSpec.upto treeParentsSpec)) treeParentsUptoCard

/-- THE SECOND FORM's CARD OF 'chantrylaw14.TreeBoth'. -/
def treeBothUptoCard : Claim7 := { stood := { row := treeBothUptoRow, standIns := [], harness := (true, "519f930ef060d42e4f7c3a45010a3fe2a6b7a190932dd6d71dc64bdea4679364"), looks := false }, kinds := [], alts := [], laidByText := true, laidKinds := [.data], laidTests := true, laidLooks := .later }
def TreeBothUptoCardSaid : Prop := Claim7.holds Tryd.pinned (.plain (OpenSpec.upto treeBothSpec)) treeBothUptoCard
end Rows
end Go.Proofs.YtnpabhoflkppaaaDoor
