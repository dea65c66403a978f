/-
  No cell of these rows narrows 'for every input' (looked for: loops, veiled, ifaces, maps, wideKeys, modest, calm, conditions, laid).
  DERIVED. THE GIVEN ROWS OF THIS SEAT. 5 by the template 'for every input the law returns true; each argument reads behind the call as it read before'; 0 by the template 'total and deterministic' (their statements: YtmdpkooiehlbcaaTotals.lean).
  GIVEN WITH THE SEED: the statements are not yours to turn. If you find one false, say at which input.
  Laid BY PROGRAM, IN A SANDBOX (cutbox-rows.mjs): the forced cells as the released guide's own fill.sh prints them over the translation 36146c2c6a1ba794… (all of the seat's roots in one cut). By AI agents, Wed Nov 11 2026. No macro, syntax, notation, axiom, sorry.
-/
import Derived.Test.YtmdpkooiehlbcaaChecked
import GoSem.Claim
import GoSem.ClaimJoined
import GoSem.ClaimMapViews
import Derived.JoinedTies
import Derived.KernelRfl
namespace Go.Proofs.Ytmdpkooiehlbcaa
/- THE CELL 'sum', in the pinned program and in every row, IS THE sha256 OF THE DUMP (.gsa) THAT YtmdpkooiehlbcaaProg.lean LOADS. Nothing in Lean hashes anything: it is a label: what it is worth is what the hold of that sum in a sandbox is worth. -/
noncomputable def Try.pinned : Pinned := { name := "ytmdpkooiehlbcaa", sum := "36146c2c6a1ba794913051386201d91c8b25e9a801e2a8ac52e2bc54c0b2916d", checked := Try.checked }
namespace Rows
def none {H : Type} : Left H := { results := [], args := [] }

/-- 'chantrylaw16.EpochMakes': WHATEVER THE INPUT: true; the input reads as it did. -/
def epochMakesSpec : ChangeSpec := { name := "epochMakes", fn := fun _ => fun
  | [d1, d2, d3] => { results := [.lit (.bool true)], args := [d1, d2, d3] }
  | _ => none }
def epochMakesRow : OpenClaim := { program := "ytmdpkooiehlbcaa", sum := "36146c2c6a1ba794913051386201d91c8b25e9a801e2a8ac52e2bc54c0b2916d", func := "chantry/chantrylaw16.EpochMakes", spec := "epochMakes", inPlace := ["internal/abi.NoEscape"], unfollowed := true, recurses := true, apart := false }
def EpochMakesSaid : Prop := epochMakesRow.holds Try.pinned (OpenSpec.ofChange epochMakesSpec)

/-- ITS FALSE NEIGHBOUR: 'it returns false'. Refute it at one input. -/
def epochMakesWrong : ChangeSpec := { name := "epochMakes", fn := fun _ => fun
  | [d1, d2, d3] => { results := [.lit (.bool false)], args := [d1, d2, d3] }
  | _ => none }
def EpochMakesWrongFalsely : Prop := epochMakesRow.holds Try.pinned (OpenSpec.ofChange epochMakesWrong)

/-- 'chantrylaw16.EpochOpens': WHATEVER THE INPUT: true; the input reads as it did. -/
def epochOpensSpec : ChangeSpec := { name := "epochOpens", fn := fun _ => fun
  | [d1, d2] => { results := [.lit (.bool true)], args := [d1, d2] }
  | _ => none }
def epochOpensRow : OpenClaim := { program := "ytmdpkooiehlbcaa", sum := "36146c2c6a1ba794913051386201d91c8b25e9a801e2a8ac52e2bc54c0b2916d", func := "chantry/chantrylaw16.EpochOpens", spec := "epochOpens", inPlace := ["internal/abi.NoEscape"], unfollowed := true, recurses := true, apart := false }
def EpochOpensSaid : Prop := epochOpensRow.holds Try.pinned (OpenSpec.ofChange epochOpensSpec)

/-- ITS FALSE NEIGHBOUR: 'it returns false'. Refute it at one input. -/
def epochOpensWrong : ChangeSpec := { name := "epochOpens", fn := fun _ => fun
  | [d1, d2] => { results := [.lit (.bool false)], args := [d1, d2] }
  | _ => none }
def EpochOpensWrongFalsely : Prop := epochOpensRow.holds Try.pinned (OpenSpec.ofChange epochOpensWrong)

/-- 'chantrylaw16.EpochBack': WHATEVER THE INPUT: true; the input reads as it did. -/
def epochBackSpec : ChangeSpec := { name := "epochBack", fn := fun _ => fun
  | [d1, d2, d3] => { results := [.lit (.bool true)], args := [d1, d2, d3] }
  | _ => none }
def epochBackRow : OpenClaim := { program := "ytmdpkooiehlbcaa", sum := "36146c2c6a1ba794913051386201d91c8b25e9a801e2a8ac52e2bc54c0b2916d", func := "chantry/chantrylaw16.EpochBack", spec := "epochBack", inPlace := ["internal/abi.NoEscape"], unfollowed := true, recurses := true, apart := false }
def EpochBackSaid : Prop := epochBackRow.holds Try.pinned (OpenSpec.ofChange epochBackSpec)

/-- ITS FALSE NEIGHBOUR: 'it returns false'. Refute it at one input. -/
def epochBackWrong : ChangeSpec := { name := "epochBack", fn := fun _ => fun
  | [d1, d2, d3] => { results := [.lit (.bool false)], args := [d1, d2, d3] }
  | _ => none }
def EpochBackWrongFalsely : Prop := epochBackRow.holds Try.pinned (OpenSpec.ofChange epochBackWrong)

/-- 'chantrylaw16.EpochApart': WHATEVER THE INPUT: true; the input reads as it did. -/
def epochApartSpec : ChangeSpec := { name := "epochApart", fn := fun _ => fun
  | [d1, d2, d3] => { results := [.lit (.bool true)], args := [d1, d2, d3] }
  | _ => none }
def epochApartRow : OpenClaim := { program := "ytmdpkooiehlbcaa", sum := "36146c2c6a1ba794913051386201d91c8b25e9a801e2a8ac52e2bc54c0b2916d", func := "chantry/chantrylaw16.EpochApart", spec := "epochApart", inPlace := ["internal/abi.NoEscape"], unfollowed := true, recurses := true, apart := false }
def EpochApartSaid : Prop := epochApartRow.holds Try.pinned (OpenSpec.ofChange epochApartSpec)

/-- ITS FALSE NEIGHBOUR: 'it returns false'. Refute it at one input. -/
def epochApartWrong : ChangeSpec := { name := "epochApart", fn := fun _ => fun
  | [d1, d2, d3] => { results := [.lit (.bool false)], args := [d1, d2, d3] }
  | _ => none }
def EpochApartWrongFalsely : Prop := epochApartRow.holds Try.pinned (OpenSpec.ofChange epochApartWrong)

/-- 'chantrylaw16.EpochTexts': WHATEVER THE INPUT: true; the input reads as it did. -/
def epochTextsSpec : ChangeSpec := { name := "epochTexts", fn := fun _ => fun
  | [d1, d2, d3] => { results := [.lit (.bool true)], args := [d1, d2, d3] }
  | _ => none }
def epochTextsRow : OpenClaim := { program := "ytmdpkooiehlbcaa", sum := "36146c2c6a1ba794913051386201d91c8b25e9a801e2a8ac52e2bc54c0b2916d", func := "chantry/chantrylaw16.EpochTexts", spec := "epochTexts", inPlace := ["internal/abi.NoEscape"], unfollowed := true, recurses := true, apart := false }
def EpochTextsSaid : Prop := epochTextsRow.holds Try.pinned (OpenSpec.ofChange epochTextsSpec)

/-- ITS FALSE NEIGHBOUR: 'it returns false'. Refute it at one input. -/
def epochTextsWrong : ChangeSpec := { name := "epochTexts", fn := fun _ => fun
  | [d1, d2, d3] => { results := [.lit (.bool false)], args := [d1, d2, d3] }
  | _ => none }
def EpochTextsWrongFalsely : Prop := epochTextsRow.holds Try.pinned (OpenSpec.ofChange epochTextsWrong)

/- THE SECOND FORM. 'bulk': how many values and letters a reading holds, each counted each time it is reached (what is shared counts as often as it is met; a slice's spare places count too). A statement '..UptoSaid' is the law's where the arguments, and the package variables that the reading takes, are together of bulk at most 1048576: NARROWER than '..Said'. Prove '..Said' where nothing that the law and all that it calls make is longer than what came in: it says more and counts as full. Else prove '..UptoSaid'. A law counts once. -/
mutual
def uptoBulk {H : Type} : DataW H → Nat
  | .lit (.string bytes) => bytes.length + 1
  | .lit _ => 1
  | .nil => 1
  | .ptr d => uptoBulk d + 1
  | .slice elems spare => uptoBulkAll elems + uptoBulkAll spare + 1
  | .agg parts => uptoBulkAll parts + 1
  | .iface _ d => uptoBulk d + 1
  | .map entries => uptoBulkEntries entries + 1
  | .held _ => 1
def uptoBulkAll {H : Type} : List (DataW H) → Nat
  | [] => 0
  | d :: r => uptoBulk d + uptoBulkAll r
def uptoBulkEntries {H : Type} : List (Lit × DataW H) → Nat
  | [] => 0
  | x :: r => uptoBulkEntry x + uptoBulkEntries r
def uptoBulkEntry {H : Type} : Lit × DataW H → Nat
  | (.string bytes, d) => bytes.length + uptoBulk d + 1
  | (_, d) => uptoBulk d + 1
 end
def uptoSmall : (H : Type) → List (DataW H) → Bool := fun _ ds => decide (uptoBulkAll ds ≤ 1048576)
def OpenSpec.upto (s : _root_.Go.ChangeSpec) : _root_.Go.OpenSpec := { _root_.Go.OpenSpec.ofChange s with cond := some uptoSmall }

/-- 'chantrylaw16.EpochMakes', WHERE WHAT IT READS IS OF BULK AT MOST 1048576: true; the input reads as it did. -/
def epochMakesUptoRow : OpenClaim := { program := "ytmdpkooiehlbcaa", sum := "36146c2c6a1ba794913051386201d91c8b25e9a801e2a8ac52e2bc54c0b2916d", func := "chantry/chantrylaw16.EpochMakes", spec := "epochMakes", inPlace := ["internal/abi.NoEscape"], unfollowed := true, recurses := true, apart := false, narrowed := true }
def EpochMakesUptoSaid : Prop := epochMakesUptoRow.holds Try.pinned (OpenSpec.upto epochMakesSpec)

/-- 'chantrylaw16.EpochOpens', WHERE WHAT IT READS IS OF BULK AT MOST 1048576: true; the input reads as it did. -/
def epochOpensUptoRow : OpenClaim := { program := "ytmdpkooiehlbcaa", sum := "36146c2c6a1ba794913051386201d91c8b25e9a801e2a8ac52e2bc54c0b2916d", func := "chantry/chantrylaw16.EpochOpens", spec := "epochOpens", inPlace := ["internal/abi.NoEscape"], unfollowed := true, recurses := true, apart := false, narrowed := true }
def EpochOpensUptoSaid : Prop := epochOpensUptoRow.holds Try.pinned (OpenSpec.upto epochOpensSpec)

/-- 'chantrylaw16.EpochBack', WHERE WHAT IT READS IS OF BULK AT MOST 1048576: true; the input reads as it did. -/
def epochBackUptoRow : OpenClaim := { program := "ytmdpkooiehlbcaa", sum := "36146c2c6a1ba794913051386201d91c8b25e9a801e2a8ac52e2bc54c0b2916d", func := "chantry/chantrylaw16.EpochBack", spec := "epochBack", inPlace := ["internal/abi.NoEscape"], unfollowed := true, recurses := true, apart := false, narrowed := true }
def EpochBackUptoSaid : Prop := epochBackUptoRow.holds Try.pinned (OpenSpec.upto epochBackSpec)

/-- 'chantrylaw16.EpochApart', WHERE WHAT IT READS IS OF BULK AT MOST 1048576: true; the input reads as it did. -/
def epochApartUptoRow : OpenClaim := { program := "ytmdpkooiehlbcaa", sum := "36146c2c6a1ba794913051386201d91c8b25e9a801e2a8ac52e2bc54c0b2916d", func := "chantry/chantrylaw16.EpochApart", spec := "epochApart", inPlace := ["internal/abi.NoEscape"], unfollowed := true, recurses := true, apart := false, narrowed := true }
def EpochApartUptoSaid : Prop := epochApartUptoRow.holds Try.pinned (OpenSpec.upto epochApartSpec)

/-- 'chantrylaw16.EpochTexts', WHERE WHAT IT READS IS OF BULK AT MOST 1048576: true; the input reads as it did. -/
def epochTextsUptoRow : OpenClaim := { program := "ytmdpkooiehlbcaa", sum := "36146c2c6a1ba794913051386201d91c8b25e9a801e2a8ac52e2bc54c0b2916d", func := "chantry/chantrylaw16.EpochTexts", spec := "epochTexts", inPlace := ["internal/abi.NoEscape"], unfollowed := true, recurses := true, apart := false, narrowed := true }
def EpochTextsUptoSaid : Prop := epochTextsUptoRow.holds Try.pinned (OpenSpec.upto epochTextsSpec)

end Rows
end Go.Proofs.Ytmdpkooiehlbcaa
