/-
  NARROWER THAN 'FOR EVERY INPUT', by the rows' own cells (each row's printed sentence says how): TreePaths: laid · TreeSteps: laid · TreeReached: laid · TreeGone: laid · TreeParents: laid · TreeBoth: laid.
  DERIVED. THE GIVEN ROWS OF THIS SEAT. 6 by the template 'for every input the law returns true; each argument reads behind the call as it read before'; 0 by the template 'total and deterministic' (their statements: YtnpabhoflkppaaaDoorTotals.lean).
  GIVEN WITH THE SEED: the statements are not yours to turn. If you find one false, say at which input.
  Laid BY PROGRAM, IN A SANDBOX (cutbox-rows.mjs): the forced cells as the released guide's own fill.sh prints them over the translation cf1b68c19cdf7c51… (all of the seat's roots in one cut). By AI agents, Wed Nov 11 2026. No macro, syntax, notation, axiom, sorry.
-/
import Derived.Test.YtnpabhoflkppaaaDoorChecked
import GoSem.Claim
import GoSem.ClaimJoined
import GoSem.ClaimMapViews
import Derived.JoinedTies
import Derived.KernelRfl
namespace Go.Proofs.YtnpabhoflkppaaaDoor
/- THE CELL 'sum', in the pinned program and in every row, IS THE sha256 OF THE DUMP (.gsa) THAT YtnpabhoflkppaaaDoorProg.lean LOADS. Nothing in Lean hashes anything: it is a label: what it is worth is what the hold of that sum in a sandbox is worth. -/
noncomputable def Tryd.pinned : Pinned := { name := "ytnpabhoflkppaaadoor", sum := "cf1b68c19cdf7c513bdf3668f7463a939e597999d9bebf643320a4ad15206df4", checked := Tryd.checked }
namespace Rows
def none {H : Type} : Left H := { results := [], args := [] }

/- WHAT THE LISTED PACKAGE-LEVEL VARIABLES READ AS WHEN THE CALL BEGINS. Each datum BY PROGRAM (the guide's laid-datum.mjs) off the statement by which the dump's own 'gosem.cut.vars' lays the variable. In a bare row this is a premise. The card (YtnpabhoflkppaaaDoorCards.lean) ties it to the program's text. -/
def laid_math_bits_deBruijn32tab {H : Type} : DataW H := .agg [.lit (.int .u8 0), .lit (.int .u8 1), .lit (.int .u8 28), .lit (.int .u8 2), .lit (.int .u8 29), .lit (.int .u8 14), .lit (.int .u8 24), .lit (.int .u8 3), .lit (.int .u8 30), .lit (.int .u8 22), .lit (.int .u8 20), .lit (.int .u8 15), .lit (.int .u8 25), .lit (.int .u8 17), .lit (.int .u8 4), .lit (.int .u8 8), .lit (.int .u8 31), .lit (.int .u8 27), .lit (.int .u8 13), .lit (.int .u8 23), .lit (.int .u8 21), .lit (.int .u8 19), .lit (.int .u8 16), .lit (.int .u8 7), .lit (.int .u8 26), .lit (.int .u8 12), .lit (.int .u8 18), .lit (.int .u8 6), .lit (.int .u8 11), .lit (.int .u8 5), .lit (.int .u8 10), .lit (.int .u8 9)]

/-- 'chantrylaw14.TreePaths': WHATEVER THE INPUT: true; the input reads as it did. -/
def treePathsSpec : ChangeSpec := { name := "treePaths", fn := fun _ => fun
  | [d1, d2, d3] => { results := [.lit (.bool true)], args := [d1, d2, d3] }
  | _ => none }
def treePathsRow : OpenClaim := { program := "ytnpabhoflkppaaadoor", sum := "cf1b68c19cdf7c513bdf3668f7463a939e597999d9bebf643320a4ad15206df4", func := "chantry/chantrylaw14.TreePaths", spec := "treePaths", recurses := true, named := ["math/bits.deBruijn32tab"], apart := false, laid := [("math/bits.deBruijn32tab", laid_math_bits_deBruijn32tab)] }
def TreePathsSaid : Prop := treePathsRow.holds Tryd.pinned (OpenSpec.ofChange treePathsSpec)

/-- ITS FALSE NEIGHBOUR: 'it returns false'. Refute it at one input. -/
def treePathsWrong : ChangeSpec := { name := "treePaths", fn := fun _ => fun
  | [d1, d2, d3] => { results := [.lit (.bool false)], args := [d1, d2, d3] }
  | _ => none }
def TreePathsWrongFalsely : Prop := treePathsRow.holds Tryd.pinned (OpenSpec.ofChange treePathsWrong)

/-- 'chantrylaw14.TreeSteps': WHATEVER THE INPUT: true; the input reads as it did. -/
def treeStepsSpec : ChangeSpec := { name := "treeSteps", fn := fun _ => fun
  | [d1, d2] => { results := [.lit (.bool true)], args := [d1, d2] }
  | _ => none }
def treeStepsRow : OpenClaim := { program := "ytnpabhoflkppaaadoor", sum := "cf1b68c19cdf7c513bdf3668f7463a939e597999d9bebf643320a4ad15206df4", func := "chantry/chantrylaw14.TreeSteps", spec := "treeSteps", recurses := true, named := ["math/bits.deBruijn32tab"], apart := false, laid := [("math/bits.deBruijn32tab", laid_math_bits_deBruijn32tab)] }
def TreeStepsSaid : Prop := treeStepsRow.holds Tryd.pinned (OpenSpec.ofChange treeStepsSpec)

/-- ITS FALSE NEIGHBOUR: 'it returns false'. Refute it at one input. -/
def treeStepsWrong : ChangeSpec := { name := "treeSteps", fn := fun _ => fun
  | [d1, d2] => { results := [.lit (.bool false)], args := [d1, d2] }
  | _ => none }
def TreeStepsWrongFalsely : Prop := treeStepsRow.holds Tryd.pinned (OpenSpec.ofChange treeStepsWrong)

/-- 'chantrylaw14.TreeReached': WHATEVER THE INPUT: true; the input reads as it did. -/
def treeReachedSpec : ChangeSpec := { name := "treeReached", fn := fun _ => fun
  | [d1, d2] => { results := [.lit (.bool true)], args := [d1, d2] }
  | _ => none }
def treeReachedRow : OpenClaim := { program := "ytnpabhoflkppaaadoor", sum := "cf1b68c19cdf7c513bdf3668f7463a939e597999d9bebf643320a4ad15206df4", func := "chantry/chantrylaw14.TreeReached", spec := "treeReached", recurses := true, named := ["math/bits.deBruijn32tab"], apart := false, laid := [("math/bits.deBruijn32tab", laid_math_bits_deBruijn32tab)] }
def TreeReachedSaid : Prop := treeReachedRow.holds Tryd.pinned (OpenSpec.ofChange treeReachedSpec)

/-- ITS FALSE NEIGHBOUR: 'it returns false'. Refute it at one input. -/
def treeReachedWrong : ChangeSpec := { name := "treeReached", fn := fun _ => fun
  | [d1, d2] => { results := [.lit (.bool false)], args := [d1, d2] }
  | _ => none }
def TreeReachedWrongFalsely : Prop := treeReachedRow.holds Tryd.pinned (OpenSpec.ofChange treeReachedWrong)

/-- 'chantrylaw14.TreeGone': WHATEVER THE INPUT: true; the input reads as it did. -/
def treeGoneSpec : ChangeSpec := { name := "treeGone", fn := fun _ => fun
  | [d1, d2, d3] => { results := [.lit (.bool true)], args := [d1, d2, d3] }
  | _ => none }
def treeGoneRow : OpenClaim := { program := "ytnpabhoflkppaaadoor", sum := "cf1b68c19cdf7c513bdf3668f7463a939e597999d9bebf643320a4ad15206df4", func := "chantry/chantrylaw14.TreeGone", spec := "treeGone", recurses := true, named := ["math/bits.deBruijn32tab"], apart := false, laid := [("math/bits.deBruijn32tab", laid_math_bits_deBruijn32tab)] }
def TreeGoneSaid : Prop := treeGoneRow.holds Tryd.pinned (OpenSpec.ofChange treeGoneSpec)

/-- ITS FALSE NEIGHBOUR: 'it returns false'. Refute it at one input. -/
def treeGoneWrong : ChangeSpec := { name := "treeGone", fn := fun _ => fun
  | [d1, d2, d3] => { results := [.lit (.bool false)], args := [d1, d2, d3] }
  | _ => none }
def TreeGoneWrongFalsely : Prop := treeGoneRow.holds Tryd.pinned (OpenSpec.ofChange treeGoneWrong)

/-- 'chantrylaw14.TreeParents': WHATEVER THE INPUT: true; the input reads as it did. -/
def treeParentsSpec : ChangeSpec := { name := "treeParents", fn := fun _ => fun
  | [d1, d2, d3] => { results := [.lit (.bool true)], args := [d1, d2, d3] }
  | _ => none }
def treeParentsRow : OpenClaim := { program := "ytnpabhoflkppaaadoor", sum := "cf1b68c19cdf7c513bdf3668f7463a939e597999d9bebf643320a4ad15206df4", func := "chantry/chantrylaw14.TreeParents", spec := "treeParents", recurses := true, named := ["math/bits.deBruijn32tab"], apart := false, laid := [("math/bits.deBruijn32tab", laid_math_bits_deBruijn32tab)] }
def TreeParentsSaid : Prop := treeParentsRow.holds Tryd.pinned (OpenSpec.ofChange treeParentsSpec)

/-- ITS FALSE NEIGHBOUR: 'it returns false'. Refute it at one input. -/
def treeParentsWrong : ChangeSpec := { name := "treeParents", fn := fun _ => fun
  | [d1, d2, d3] => { results := [.lit (.bool false)], args := [d1, d2, d3] }
  | _ => none }
def TreeParentsWrongFalsely : Prop := treeParentsRow.holds Tryd.pinned (OpenSpec.ofChange treeParentsWrong)

/-- 'chantrylaw14.TreeBoth': WHATEVER THE INPUT: true; the input reads as it did. -/
def treeBothSpec : ChangeSpec := { name := "treeBoth", fn := fun _ => fun
  | [d1, d2] => { results := [.lit (.bool true)], args := [d1, d2] }
  | _ => none }
def treeBothRow : OpenClaim := { program := "ytnpabhoflkppaaadoor", sum := "cf1b68c19cdf7c513bdf3668f7463a939e597999d9bebf643320a4ad15206df4", func := "chantry/chantrylaw14.TreeBoth", spec := "treeBoth", recurses := true, named := ["math/bits.deBruijn32tab"], apart := false, laid := [("math/bits.deBruijn32tab", laid_math_bits_deBruijn32tab)] }
def TreeBothSaid : Prop := treeBothRow.holds Tryd.pinned (OpenSpec.ofChange treeBothSpec)

/-- ITS FALSE NEIGHBOUR: 'it returns false'. Refute it at one input. -/
def treeBothWrong : ChangeSpec := { name := "treeBoth", fn := fun _ => fun
  | [d1, d2] => { results := [.lit (.bool false)], args := [d1, d2] }
  | _ => none }
def TreeBothWrongFalsely : Prop := treeBothRow.holds Tryd.pinned (OpenSpec.ofChange treeBothWrong)

/- THE SECOND FORM. 'bulk': how many values and letters a reading holds, each counted each time it is reached (what is shared counts as often as it is met; a slice's spare places count too). A statement '..UptoSaid' is the law's where the arguments, and the package variables that the reading takes, are together of bulk at most 1048576: NARROWER than '..Said'. Prove '..Said' where nothing that the law and all that it calls make is longer than what came in: it says more and counts as full. Else prove '..UptoSaid'. A law counts once. -/
mutual
def uptoBulk {H : Type} : DataW H → Nat
  | .lit (.string bytes) => bytes.length + 1
  | .lit _ => 1
  | .nil => 1
  | .ptr d => uptoBulk d + 1
  | .slice elems spare => uptoBulkAll elems + uptoBulkAll spare + 1
  | .agg parts => uptoBulkAll parts + 1
  | .iface _ d => uptoBulk d + 1
  | .map entries => uptoBulkEntries entries + 1
  | .held _ => 1
def uptoBulkAll {H : Type} : List (DataW H) → Nat
  | [] => 0
  | d :: r => uptoBulk d + uptoBulkAll r
def uptoBulkEntries {H : Type} : List (Lit × DataW H) → Nat
  | [] => 0
  | x :: r => uptoBulkEntry x + uptoBulkEntries r
def uptoBulkEntry {H : Type} : Lit × DataW H → Nat
  | (.string bytes, d) => bytes.length + uptoBulk d + 1
  | (_, d) => uptoBulk d + 1
 end
def uptoSmall : (H : Type) → List (DataW H) → Bool := fun _ ds => decide (uptoBulkAll ds ≤ 1048576)
def OpenSpec.upto (s : _root_.Go.ChangeSpec) : _root_.Go.OpenSpec := { _root_.Go.OpenSpec.ofChange s with cond := some uptoSmall }

/-- 'chantrylaw14.TreePaths', WHERE WHAT IT READS IS OF BULK AT MOST 1048576: true; the input reads as it did. -/
def treePathsUptoRow : OpenClaim := { program := "ytnpabhoflkppaaadoor", sum := "cf1b68c19cdf7c513bdf3668f7463a939e597999d9bebf643320a4ad15206df4", func := "chantry/chantrylaw14.TreePaths", spec := "treePaths", recurses := true, named := ["math/bits.deBruijn32tab"], apart := false, laid := [("math/bits.deBruijn32tab", laid_math_bits_deBruijn32tab)], narrowed := true }
def TreePathsUptoSaid : Prop := treePathsUptoRow.holds Tryd.pinned (OpenSpec.upto treePathsSpec)

/-- 'chantrylaw14.TreeSteps', WHERE WHAT IT READS IS OF BULK AT MOST 1048576: true; the input reads as it did. -/
def treeStepsUptoRow : OpenClaim := { program := "ytnpabhoflkppaaadoor", sum := "cf1b68c19cdf7c513bdf3668f7463a939e597999d9bebf643320a4ad15206df4", func := "chantry/chantrylaw14.TreeSteps", spec := "treeSteps", recurses := true, named := ["math/bits.deBruijn32tab"], apart := false, laid := [("math/bits.deBruijn32tab", laid_math_bits_deBruijn32tab)], narrowed := true }
def TreeStepsUptoSaid : Prop := treeStepsUptoRow.holds Tryd.pinned (OpenSpec.upto treeStepsSpec)

/-- 'chantrylaw14.TreeReached', WHERE WHAT IT READS IS OF BULK AT MOST 1048576: true; the input reads as it did. -/
def treeReachedUptoRow : OpenClaim := { program := "ytnpabhoflkppaaadoor", sum := "cf1b68c19cdf7c513bdf3668f7463a939e597999d9bebf643320a4ad15206df4", func := "chantry/chantrylaw14.TreeReached", spec := "treeReached", recurses := true, named := ["math/bits.deBruijn32tab"], apart := false, laid := [("math/bits.deBruijn32tab", laid_math_bits_deBruijn32tab)], narrowed := true }
def TreeReachedUptoSaid : Prop := treeReachedUptoRow.holds Tryd.pinned (OpenSpec.upto treeReachedSpec)

/-- 'chantrylaw14.TreeGone', WHERE WHAT IT READS IS OF BULK AT MOST 1048576: true; the input reads as it did. -/
def treeGoneUptoRow : OpenClaim := { program := "ytnpabhoflkppaaadoor", sum := "cf1b68c19cdf7c513bdf3668f7463a939e597999d9bebf643320a4ad15206df4", func := "chantry/chantrylaw14.TreeGone", spec := "treeGone", recurses := true, named := ["math/bits.deBruijn32tab"], apart := false, laid := [("math/bits.deBruijn32tab", laid_math_bits_deBruijn32tab)], narrowed := true }
def TreeGoneUptoSaid : Prop := treeGoneUptoRow.holds Tryd.pinned (OpenSpec.upto treeGoneSpec)

/-- 'chantrylaw14.TreeParents', WHERE WHAT IT READS IS OF BULK AT MOST 1048576: true; the input reads as it did. -/
def treeParentsUptoRow : OpenClaim := { program := "ytnpabhoflkppaaadoor", sum := "cf1b68c19cdf7c513bdf3668f7463a939e597999d9bebf643320a4ad15206df4", func := "chantry/chantrylaw14.TreeParents", spec := "treeParents", recurses := true, named := ["math/bits.deBruijn32tab"], apart := false, laid := [("math/bits.deBruijn32tab", laid_math_bits_deBruijn32tab)], narrowed := true }
def TreeParentsUptoSaid : Prop := treeParentsUptoRow.holds Tryd.pinned (OpenSpec.upto treeParentsSpec)

/-- 'chantrylaw14.TreeBoth', WHERE WHAT IT READS IS OF BULK AT MOST 1048576: true; the input reads as it did. -/
def treeBothUptoRow : OpenClaim := { program := "ytnpabhoflkppaaadoor", sum := "cf1b68c19cdf7c513bdf3668f7463a939e597999d9bebf643320a4ad15206df4", func := "chantry/chantrylaw14.TreeBoth", spec := "treeBoth", recurses := true, named := ["math/bits.deBruijn32tab"], apart := false, laid := [("math/bits.deBruijn32tab", laid_math_bits_deBruijn32tab)], narrowed := true }
def TreeBothUptoSaid : Prop := treeBothUptoRow.holds Tryd.pinned (OpenSpec.upto treeBothSpec)

end Rows
end Go.Proofs.YtnpabhoflkppaaaDoor
