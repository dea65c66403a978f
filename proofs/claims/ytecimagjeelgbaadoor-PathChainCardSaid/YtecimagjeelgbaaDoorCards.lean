/-
  DERIVED. GIVEN WITH THE SEED: THE CARDS: each row of YtecimagjeelgbaaDoorRows.lean that lists a variable, with what it lists TIED to the program's text (the seventh form; the later family's looks); each row that meets fmt, with fmt's text TOLD by the authors' own Lean function (tested against real Go, not proved from fmt's source: count such statements apart). THE CARD IS WHAT COUNTS. Prove the row's statement (the work); the ties are given (YtecimagjeelgbaaDoorTie.lean); close each card by the builder's one call (the guide's Derived/Test/ToyasCard.lean, 'card_holds'). Laid BY PROGRAM, IN A SANDBOX (cutbox-door.mjs). By AI agents, Wed Nov 11 2026. No macro, syntax, notation, axiom, sorry.
-/
import Derived.Test.YtecimagjeelgbaaDoorRows
import GoSem.ClaimSeven
namespace Go.Proofs.YtecimagjeelgbaaDoor
namespace Rows

/-- THE TIED CARD OF 'chantrylaw15.PathRekeys'. -/
def pathRekeysCard : Claim7 := { stood := { row := pathRekeysRow, standIns := [], harness := (true, "fd9d6802148f025fa3f445d9597adca94bbfbffa88d36e872790970300ae9a21"), looks := true }, kinds := [], alts := [], laidByText := true, laidKinds := [.data], laidTests := true, laidLooks := .later }
def PathRekeysCardSaid : Prop := Claim7.holds Tryd.pinned (.plain (OpenSpec.ofChange pathRekeysSpec)) pathRekeysCard

/-- THE TIED CARD OF 'chantrylaw15.PathMembers'. -/
def pathMembersCard : Claim7 := { stood := { row := pathMembersRow, standIns := [], harness := (true, "fd9d6802148f025fa3f445d9597adca94bbfbffa88d36e872790970300ae9a21"), looks := true }, kinds := [], alts := [], laidByText := true, laidKinds := [.data], laidTests := true, laidLooks := .later }
def PathMembersCardSaid : Prop := Claim7.holds Tryd.pinned (.plain (OpenSpec.ofChange pathMembersSpec)) pathMembersCard

/-- THE TIED CARD OF 'chantrylaw15.PathChain'. -/
def pathChainCard : Claim7 := { stood := { row := pathChainRow, standIns := [], harness := (true, "fd9d6802148f025fa3f445d9597adca94bbfbffa88d36e872790970300ae9a21"), looks := true }, kinds := [], alts := [], laidByText := true, laidKinds := [.data], laidTests := true, laidLooks := .later }
def PathChainCardSaid : Prop := Claim7.holds Tryd.pinned (.plain (OpenSpec.ofChange pathChainSpec)) pathChainCard

/-- THE TIED CARD OF 'chantrylaw15.PathOwn'. -/
def pathOwnCard : Claim7 := { stood := { row := pathOwnRow, standIns := [], harness := (true, "fd9d6802148f025fa3f445d9597adca94bbfbffa88d36e872790970300ae9a21"), looks := true }, kinds := [], alts := [], laidByText := true, laidKinds := [.data], laidTests := true, laidLooks := .later }
def PathOwnCardSaid : Prop := Claim7.holds Tryd.pinned (.plain (OpenSpec.ofChange pathOwnSpec)) pathOwnCard

/-- THE TIED CARD OF 'chantrylaw15.PathNothing'. -/
def pathNothingCard : Claim7 := { stood := { row := pathNothingRow, standIns := [], harness := (true, "fd9d6802148f025fa3f445d9597adca94bbfbffa88d36e872790970300ae9a21"), looks := true }, kinds := [], alts := [], laidByText := true, laidKinds := [.data], laidTests := true, laidLooks := .later }
def PathNothingCardSaid : Prop := Claim7.holds Tryd.pinned (.plain (OpenSpec.ofChange pathNothingSpec)) pathNothingCard

/-- THE SECOND FORM's CARD OF 'chantrylaw15.PathRekeys'. -/
def pathRekeysUptoCard : Claim7 := { stood := { row := pathRekeysUptoRow, standIns := [], harness := (true, "fd9d6802148f025fa3f445d9597adca94bbfbffa88d36e872790970300ae9a21"), looks := true }, kinds := [], alts := [], laidByText := true, laidKinds := [.data], laidTests := true, laidLooks := .later }
def PathRekeysUptoCardSaid : Prop := Claim7.holds Tryd.pinned (.plain (OpenSpec.upto pathRekeysSpec)) pathRekeysUptoCard

/-- THE SECOND FORM's CARD OF 'chantrylaw15.PathMembers'. -/
def pathMembersUptoCard : Claim7 := { stood := { row := pathMembersUptoRow, standIns := [], harness := (true, "fd9d6802148f025fa3f445d9597adca94bbfbffa88d36e872790970300ae9a21"), looks := true }, kinds := [], alts := [], laidByText := true, laidKinds := [.data], laidTests := true, laidLooks := .later }
def PathMembersUptoCardSaid : Prop := Claim7.holds Tryd.pinned (.plain (OpenSpec.upto pathMembersSpec)) pathMembersUptoCard

/-- THE SECOND FORM's CARD OF 'chantrylaw15.PathChain'. -/
def pathChainUptoCard : Claim7 := { stood := { row := pathChainUptoRow, standIns := [], harness := (true, "fd9d6802148f025fa3f445d9597adca94bbfbffa88d36e872790970300ae9a21"), looks := true }, kinds := [], alts := [], laidByText := true, laidKinds := [.data], laidTests := true, laidLooks := .later }
def PathChainUptoCardSaid : Prop := Claim7.holds Tryd.pinned (.plain (OpenSpec.upto pathChainSpec)) pathChainUptoCard

/-- THE SECOND FORM's CARD OF 'chantrylaw15.PathOwn'. -/
def pathOwnUptoCard : Claim7 := { stood := { row := pathOwnUptoRow, standIns := [], harness := (true, "fd9d6802148f025fa3f445d9597adca94bbfbffa88d36e872790970300ae9a21"), looks := true }, kinds := [], alts := [], laidByText := true, laidKinds := [.data], laidTests := true, laidLooks := .later }
def PathOwnUptoCardSaid : Prop := Claim7.holds Tryd.pinned (.plain (OpenSpec.upto pathOwnSpec)) pathOwnUptoCard

/-- THE SECOND FORM's CARD OF 'chantrylaw15.PathNothing'. -/
def pathNothingUptoCard : Claim7 := { stood := { row := pathNothingUptoRow, standIns := [], harness := (true, "fd9d6802148f025fa3f445d9597adca94bbfbffa88d36e872790970300ae9a21"), looks := true }, kinds := [], alts := [], laidByText := true, laidKinds := [.data], laidTests := true, laidLooks := .later }
def PathNothingUptoCardSaid : Prop := Claim7.holds Tryd.pinned (.plain (OpenSpec.upto pathNothingSpec)) pathNothingUptoCard
end Rows
end Go.Proofs.YtecimagjeelgbaaDoor
