/-
  No cell of these rows narrows 'for every input' (looked for: loops, veiled, ifaces, maps, wideKeys, modest, calm, conditions, laid).
  DERIVED. THE GIVEN ROWS OF THIS SEAT. 8 by the template 'for every input the law returns true; each argument reads behind the call as it read before'; 0 by the template 'total and deterministic' (their statements: YtlpimcjbhbdbhaaTotals.lean).
  GIVEN WITH THE SEED: the statements are not yours to turn. If you find one false, say at which input.
  Laid BY PROGRAM, IN A SANDBOX (cutbox-rows.mjs): the forced cells as the released guide's own fill.sh prints them over the translation 995d46e12dc367eb… (all of the seat's roots in one cut). By AI agents, Wed Nov 11 2026. No macro, syntax, notation, axiom, sorry.
-/
import Derived.Test.YtlpimcjbhbdbhaaChecked
import GoSem.Claim
import GoSem.ClaimJoined
import GoSem.ClaimMapViews
import Derived.JoinedTies
import Derived.KernelRfl
namespace Go.Proofs.Ytlpimcjbhbdbhaa
/- THE CELL 'sum', in the pinned program and in every row, IS THE sha256 OF THE DUMP (.gsa) THAT YtlpimcjbhbdbhaaProg.lean LOADS. Nothing in Lean hashes anything: it is a label: what it is worth is what the hold of that sum in a sandbox is worth. -/
noncomputable def Try.pinned : Pinned := { name := "ytlpimcjbhbdbhaa", sum := "995d46e12dc367eb4f37c4a96779d6a7ac7ee824e723f7a64b4495334066396c", checked := Try.checked }
namespace Rows
def none {H : Type} : Left H := { results := [], args := [] }

/-- 'chantrylaw03.TermChecks': WHATEVER THE INPUT: true; the input reads as it did. -/
def termChecksSpec : ChangeSpec := { name := "termChecks", fn := fun _ => fun
  | [d] => { results := [.lit (.bool true)], args := [d] }
  | _ => none }
def termChecksRow : OpenClaim := { program := "ytlpimcjbhbdbhaa", sum := "995d46e12dc367eb4f37c4a96779d6a7ac7ee824e723f7a64b4495334066396c", func := "chantry/chantrylaw03.TermChecks", spec := "termChecks", inPlace := ["internal/abi.NoEscape"], unfollowed := true, recurses := true, apart := false }
def TermChecksSaid : Prop := termChecksRow.holds Try.pinned (OpenSpec.ofChange termChecksSpec)

/-- ITS FALSE NEIGHBOUR: 'it returns false'. Refute it at one input. -/
def termChecksWrong : ChangeSpec := { name := "termChecks", fn := fun _ => fun
  | [d] => { results := [.lit (.bool false)], args := [d] }
  | _ => none }
def TermChecksWrongFalsely : Prop := termChecksRow.holds Try.pinned (OpenSpec.ofChange termChecksWrong)

/-- 'chantrylaw03.TermMakes': WHATEVER THE INPUT: true; the input reads as it did. -/
def termMakesSpec : ChangeSpec := { name := "termMakes", fn := fun _ => fun
  | [d1, d2, d3] => { results := [.lit (.bool true)], args := [d1, d2, d3] }
  | _ => none }
def termMakesRow : OpenClaim := { program := "ytlpimcjbhbdbhaa", sum := "995d46e12dc367eb4f37c4a96779d6a7ac7ee824e723f7a64b4495334066396c", func := "chantry/chantrylaw03.TermMakes", spec := "termMakes", inPlace := ["internal/abi.NoEscape"], unfollowed := true, recurses := true, apart := false }
def TermMakesSaid : Prop := termMakesRow.holds Try.pinned (OpenSpec.ofChange termMakesSpec)

/-- ITS FALSE NEIGHBOUR: 'it returns false'. Refute it at one input. -/
def termMakesWrong : ChangeSpec := { name := "termMakes", fn := fun _ => fun
  | [d1, d2, d3] => { results := [.lit (.bool false)], args := [d1, d2, d3] }
  | _ => none }
def TermMakesWrongFalsely : Prop := termMakesRow.holds Try.pinned (OpenSpec.ofChange termMakesWrong)

/-- 'chantrylaw03.TermOpens': WHATEVER THE INPUT: true; the input reads as it did. -/
def termOpensSpec : ChangeSpec := { name := "termOpens", fn := fun _ => fun
  | [d1, d2] => { results := [.lit (.bool true)], args := [d1, d2] }
  | _ => none }
def termOpensRow : OpenClaim := { program := "ytlpimcjbhbdbhaa", sum := "995d46e12dc367eb4f37c4a96779d6a7ac7ee824e723f7a64b4495334066396c", func := "chantry/chantrylaw03.TermOpens", spec := "termOpens", inPlace := ["internal/abi.NoEscape"], unfollowed := true, recurses := true, apart := false }
def TermOpensSaid : Prop := termOpensRow.holds Try.pinned (OpenSpec.ofChange termOpensSpec)

/-- ITS FALSE NEIGHBOUR: 'it returns false'. Refute it at one input. -/
def termOpensWrong : ChangeSpec := { name := "termOpens", fn := fun _ => fun
  | [d1, d2] => { results := [.lit (.bool false)], args := [d1, d2] }
  | _ => none }
def TermOpensWrongFalsely : Prop := termOpensRow.holds Try.pinned (OpenSpec.ofChange termOpensWrong)

/-- 'chantrylaw03.TermMade': WHATEVER THE INPUT: true; the input reads as it did. -/
def termMadeSpec : ChangeSpec := { name := "termMade", fn := fun _ => fun
  | [d1, d2, d3] => { results := [.lit (.bool true)], args := [d1, d2, d3] }
  | _ => none }
def termMadeRow : OpenClaim := { program := "ytlpimcjbhbdbhaa", sum := "995d46e12dc367eb4f37c4a96779d6a7ac7ee824e723f7a64b4495334066396c", func := "chantry/chantrylaw03.TermMade", spec := "termMade", inPlace := ["internal/abi.NoEscape"], unfollowed := true, recurses := true, apart := false }
def TermMadeSaid : Prop := termMadeRow.holds Try.pinned (OpenSpec.ofChange termMadeSpec)

/-- ITS FALSE NEIGHBOUR: 'it returns false'. Refute it at one input. -/
def termMadeWrong : ChangeSpec := { name := "termMade", fn := fun _ => fun
  | [d1, d2, d3] => { results := [.lit (.bool false)], args := [d1, d2, d3] }
  | _ => none }
def TermMadeWrongFalsely : Prop := termMadeRow.holds Try.pinned (OpenSpec.ofChange termMadeWrong)

/-- 'chantrylaw03.TermWhole': WHATEVER THE INPUT: true; the input reads as it did. -/
def termWholeSpec : ChangeSpec := { name := "termWhole", fn := fun _ => fun
  | [d1, d2, d3] => { results := [.lit (.bool true)], args := [d1, d2, d3] }
  | _ => none }
def termWholeRow : OpenClaim := { program := "ytlpimcjbhbdbhaa", sum := "995d46e12dc367eb4f37c4a96779d6a7ac7ee824e723f7a64b4495334066396c", func := "chantry/chantrylaw03.TermWhole", spec := "termWhole", inPlace := ["internal/abi.NoEscape"], unfollowed := true, recurses := true, apart := false }
def TermWholeSaid : Prop := termWholeRow.holds Try.pinned (OpenSpec.ofChange termWholeSpec)

/-- ITS FALSE NEIGHBOUR: 'it returns false'. Refute it at one input. -/
def termWholeWrong : ChangeSpec := { name := "termWhole", fn := fun _ => fun
  | [d1, d2, d3] => { results := [.lit (.bool false)], args := [d1, d2, d3] }
  | _ => none }
def TermWholeWrongFalsely : Prop := termWholeRow.holds Try.pinned (OpenSpec.ofChange termWholeWrong)

/-- 'chantrylaw03.TermSubs': WHATEVER THE INPUT: true; the input reads as it did. -/
def termSubsSpec : ChangeSpec := { name := "termSubs", fn := fun _ => fun
  | [d] => { results := [.lit (.bool true)], args := [d] }
  | _ => none }
def termSubsRow : OpenClaim := { program := "ytlpimcjbhbdbhaa", sum := "995d46e12dc367eb4f37c4a96779d6a7ac7ee824e723f7a64b4495334066396c", func := "chantry/chantrylaw03.TermSubs", spec := "termSubs", inPlace := ["internal/abi.NoEscape"], unfollowed := true, recurses := true, apart := false }
def TermSubsSaid : Prop := termSubsRow.holds Try.pinned (OpenSpec.ofChange termSubsSpec)

/-- ITS FALSE NEIGHBOUR: 'it returns false'. Refute it at one input. -/
def termSubsWrong : ChangeSpec := { name := "termSubs", fn := fun _ => fun
  | [d] => { results := [.lit (.bool false)], args := [d] }
  | _ => none }
def TermSubsWrongFalsely : Prop := termSubsRow.holds Try.pinned (OpenSpec.ofChange termSubsWrong)

/-- 'chantrylaw03.TermSizes': WHATEVER THE INPUT: true; the input reads as it did. -/
def termSizesSpec : ChangeSpec := { name := "termSizes", fn := fun _ => fun
  | [d1, d2] => { results := [.lit (.bool true)], args := [d1, d2] }
  | _ => none }
def termSizesRow : OpenClaim := { program := "ytlpimcjbhbdbhaa", sum := "995d46e12dc367eb4f37c4a96779d6a7ac7ee824e723f7a64b4495334066396c", func := "chantry/chantrylaw03.TermSizes", spec := "termSizes", inPlace := ["internal/abi.NoEscape"], unfollowed := true, recurses := true, apart := false }
def TermSizesSaid : Prop := termSizesRow.holds Try.pinned (OpenSpec.ofChange termSizesSpec)

/-- ITS FALSE NEIGHBOUR: 'it returns false'. Refute it at one input. -/
def termSizesWrong : ChangeSpec := { name := "termSizes", fn := fun _ => fun
  | [d1, d2] => { results := [.lit (.bool false)], args := [d1, d2] }
  | _ => none }
def TermSizesWrongFalsely : Prop := termSizesRow.holds Try.pinned (OpenSpec.ofChange termSizesWrong)

/-- 'chantrylaw03.TermNonces': WHATEVER THE INPUT: true; the input reads as it did. -/
def termNoncesSpec : ChangeSpec := { name := "termNonces", fn := fun _ => fun
  | [d1, d2, d3] => { results := [.lit (.bool true)], args := [d1, d2, d3] }
  | _ => none }
def termNoncesRow : OpenClaim := { program := "ytlpimcjbhbdbhaa", sum := "995d46e12dc367eb4f37c4a96779d6a7ac7ee824e723f7a64b4495334066396c", func := "chantry/chantrylaw03.TermNonces", spec := "termNonces", inPlace := ["internal/abi.NoEscape"], unfollowed := true, recurses := true, apart := false }
def TermNoncesSaid : Prop := termNoncesRow.holds Try.pinned (OpenSpec.ofChange termNoncesSpec)

/-- ITS FALSE NEIGHBOUR: 'it returns false'. Refute it at one input. -/
def termNoncesWrong : ChangeSpec := { name := "termNonces", fn := fun _ => fun
  | [d1, d2, d3] => { results := [.lit (.bool false)], args := [d1, d2, d3] }
  | _ => none }
def TermNoncesWrongFalsely : Prop := termNoncesRow.holds Try.pinned (OpenSpec.ofChange termNoncesWrong)

/- THE SECOND FORM. 'bulk': how many values and letters a reading holds, each counted each time it is reached (what is shared counts as often as it is met; a slice's spare places count too). A statement '..UptoSaid' is the law's where the arguments, and the package variables that the reading takes, are together of bulk at most 1048576: NARROWER than '..Said'. Prove '..Said' where nothing that the law and all that it calls make is longer than what came in: it says more and counts as full. Else prove '..UptoSaid'. A law counts once. -/
mutual
def uptoBulk {H : Type} : DataW H → Nat
  | .lit (.string bytes) => bytes.length + 1
  | .lit _ => 1
  | .nil => 1
  | .ptr d => uptoBulk d + 1
  | .slice elems spare => uptoBulkAll elems + uptoBulkAll spare + 1
  | .agg parts => uptoBulkAll parts + 1
  | .iface _ d => uptoBulk d + 1
  | .map entries => uptoBulkEntries entries + 1
  | .held _ => 1
def uptoBulkAll {H : Type} : List (DataW H) → Nat
  | [] => 0
  | d :: r => uptoBulk d + uptoBulkAll r
def uptoBulkEntries {H : Type} : List (Lit × DataW H) → Nat
  | [] => 0
  | x :: r => uptoBulkEntry x + uptoBulkEntries r
def uptoBulkEntry {H : Type} : Lit × DataW H → Nat
  | (.string bytes, d) => bytes.length + uptoBulk d + 1
  | (_, d) => uptoBulk d + 1
 end
def uptoSmall : (H : Type) → List (DataW H) → Bool := fun _ ds => decide (uptoBulkAll ds ≤ 1048576)
def OpenSpec.upto (s : _root_.Go.ChangeSpec) : _root_.Go.OpenSpec := { _root_.Go.OpenSpec.ofChange s with cond := some uptoSmall }

/-- 'chantrylaw03.TermChecks', WHERE WHAT IT READS IS OF BULK AT MOST 1048576: true; the input reads as it did. -/
def termChecksUptoRow : OpenClaim := { program := "ytlpimcjbhbdbhaa", sum := "995d46e12dc367eb4f37c4a96779d6a7ac7ee824e723f7a64b4495334066396c", func := "chantry/chantrylaw03.TermChecks", spec := "termChecks", inPlace := ["internal/abi.NoEscape"], unfollowed := true, recurses := true, apart := false, narrowed := true }
def TermChecksUptoSaid : Prop := termChecksUptoRow.holds Try.pinned (OpenSpec.upto termChecksSpec)

/-- 'chantrylaw03.TermMakes', WHERE WHAT IT READS IS OF BULK AT MOST 1048576: true; the input reads as it did. -/
def termMakesUptoRow : OpenClaim := { program := "ytlpimcjbhbdbhaa", sum := "995d46e12dc367eb4f37c4a96779d6a7ac7ee824e723f7a64b4495334066396c", func := "chantry/chantrylaw03.TermMakes", spec := "termMakes", inPlace := ["internal/abi.NoEscape"], unfollowed := true, recurses := true, apart := false, narrowed := true }
def TermMakesUptoSaid : Prop := termMakesUptoRow.holds Try.pinned (OpenSpec.upto termMakesSpec)

/-- 'chantrylaw03.TermOpens', WHERE WHAT IT READS IS OF BULK AT MOST 1048576: true; the input reads as it did. -/
def termOpensUptoRow : OpenClaim := { program := "ytlpimcjbhbdbhaa", sum := "995d46e12dc367eb4f37c4a96779d6a7ac7ee824e723f7a64b4495334066396c", func := "chantry/chantrylaw03.TermOpens", spec := "termOpens", inPlace := ["internal/abi.NoEscape"], unfollowed := true, recurses := true, apart := false, narrowed := true }
def TermOpensUptoSaid : Prop := termOpensUptoRow.holds Try.pinned (OpenSpec.upto termOpensSpec)

/-- 'chantrylaw03.TermMade', WHERE WHAT IT READS IS OF BULK AT MOST 1048576: true; the input reads as it did. -/
def termMadeUptoRow : OpenClaim := { program := "ytlpimcjbhbdbhaa", sum := "995d46e12dc367eb4f37c4a96779d6a7ac7ee824e723f7a64b4495334066396c", func := "chantry/chantrylaw03.TermMade", spec := "termMade", inPlace := ["internal/abi.NoEscape"], unfollowed := true, recurses := true, apart := false, narrowed := true }
def TermMadeUptoSaid : Prop := termMadeUptoRow.holds Try.pinned (OpenSpec.upto termMadeSpec)

/-- 'chantrylaw03.TermWhole', WHERE WHAT IT READS IS OF BULK AT MOST 1048576: true; the input reads as it did. -/
def termWholeUptoRow : OpenClaim := { program := "ytlpimcjbhbdbhaa", sum := "995d46e12dc367eb4f37c4a96779d6a7ac7ee824e723f7a64b4495334066396c", func := "chantry/chantrylaw03.TermWhole", spec := "termWhole", inPlace := ["internal/abi.NoEscape"], unfollowed := true, recurses := true, apart := false, narrowed := true }
def TermWholeUptoSaid : Prop := termWholeUptoRow.holds Try.pinned (OpenSpec.upto termWholeSpec)

/-- 'chantrylaw03.TermSubs', WHERE WHAT IT READS IS OF BULK AT MOST 1048576: true; the input reads as it did. -/
def termSubsUptoRow : OpenClaim := { program := "ytlpimcjbhbdbhaa", sum := "995d46e12dc367eb4f37c4a96779d6a7ac7ee824e723f7a64b4495334066396c", func := "chantry/chantrylaw03.TermSubs", spec := "termSubs", inPlace := ["internal/abi.NoEscape"], unfollowed := true, recurses := true, apart := false, narrowed := true }
def TermSubsUptoSaid : Prop := termSubsUptoRow.holds Try.pinned (OpenSpec.upto termSubsSpec)

/-- 'chantrylaw03.TermSizes', WHERE WHAT IT READS IS OF BULK AT MOST 1048576: true; the input reads as it did. -/
def termSizesUptoRow : OpenClaim := { program := "ytlpimcjbhbdbhaa", sum := "995d46e12dc367eb4f37c4a96779d6a7ac7ee824e723f7a64b4495334066396c", func := "chantry/chantrylaw03.TermSizes", spec := "termSizes", inPlace := ["internal/abi.NoEscape"], unfollowed := true, recurses := true, apart := false, narrowed := true }
def TermSizesUptoSaid : Prop := termSizesUptoRow.holds Try.pinned (OpenSpec.upto termSizesSpec)

/-- 'chantrylaw03.TermNonces', WHERE WHAT IT READS IS OF BULK AT MOST 1048576: true; the input reads as it did. -/
def termNoncesUptoRow : OpenClaim := { program := "ytlpimcjbhbdbhaa", sum := "995d46e12dc367eb4f37c4a96779d6a7ac7ee824e723f7a64b4495334066396c", func := "chantry/chantrylaw03.TermNonces", spec := "termNonces", inPlace := ["internal/abi.NoEscape"], unfollowed := true, recurses := true, apart := false, narrowed := true }
def TermNoncesUptoSaid : Prop := termNoncesUptoRow.holds Try.pinned (OpenSpec.upto termNoncesSpec)

end Rows
end Go.Proofs.Ytlpimcjbhbdbhaa
