/-
  No cell of these rows narrows 'for every input' (looked for: loops, veiled, ifaces, maps, wideKeys, modest, calm, conditions, laid).
  DERIVED. THE GIVEN ROWS OF THIS SEAT. 8 by the template 'for every input the law returns true; each argument reads behind the call as it read before'; 0 by the template 'total and deterministic' (their statements: YtjpgdaphkmeijaaTotals.lean).
  GIVEN WITH THE SEED: the statements are not yours to turn. If you find one false, say at which input.
  Laid BY PROGRAM, IN A SANDBOX (cutbox-rows.mjs): the forced cells as the released guide's own fill.sh prints them over the translation db6bd6d7b01dee81… (all of the seat's roots in one cut). By AI agents, Wed Nov 11 2026. No macro, syntax, notation, axiom, sorry.
-/
import Derived.Test.YtjpgdaphkmeijaaChecked
import GoSem.Claim
import GoSem.ClaimJoined
import GoSem.ClaimMapViews
import Derived.JoinedTies
import Derived.KernelRfl
namespace Go.Proofs.Ytjpgdaphkmeijaa
/- THE CELL 'sum', in the pinned program and in every row, IS THE sha256 OF THE DUMP (.gsa) THAT YtjpgdaphkmeijaaProg.lean LOADS. Nothing in Lean hashes anything: it is a label: what it is worth is what the hold of that sum in a sandbox is worth. -/
noncomputable def Try.pinned : Pinned := { name := "ytjpgdaphkmeijaa", sum := "db6bd6d7b01dee819bf9d6850abc284a50162397361aca7e0ac6db7ee3acd0e2", checked := Try.checked }
namespace Rows
def none {H : Type} : Left H := { results := [], args := [] }

/-- 'chantrylaw01.RealMids': WHATEVER THE INPUT: true; the input reads as it did. -/
def realMidsSpec : ChangeSpec := { name := "realMids", fn := fun _ => fun
  | [d] => { results := [.lit (.bool true)], args := [d] }
  | _ => none }
def realMidsRow : OpenClaim := { program := "ytjpgdaphkmeijaa", sum := "db6bd6d7b01dee819bf9d6850abc284a50162397361aca7e0ac6db7ee3acd0e2", func := "chantry/chantrylaw01.RealMids", spec := "realMids", inPlace := ["math.Float64frombits", "math.Float64bits"], unfollowed := true, recurses := true, apart := false }
def RealMidsSaid : Prop := realMidsRow.holds Try.pinned (OpenSpec.ofChange realMidsSpec)

/-- ITS FALSE NEIGHBOUR: 'it returns false'. Refute it at one input. -/
def realMidsWrong : ChangeSpec := { name := "realMids", fn := fun _ => fun
  | [d] => { results := [.lit (.bool false)], args := [d] }
  | _ => none }
def RealMidsWrongFalsely : Prop := realMidsRow.holds Try.pinned (OpenSpec.ofChange realMidsWrong)

/-- 'chantrylaw01.RealRising': WHATEVER THE INPUT: true; the input reads as it did. -/
def realRisingSpec : ChangeSpec := { name := "realRising", fn := fun _ => fun
  | [d1, d2] => { results := [.lit (.bool true)], args := [d1, d2] }
  | _ => none }
def realRisingRow : OpenClaim := { program := "ytjpgdaphkmeijaa", sum := "db6bd6d7b01dee819bf9d6850abc284a50162397361aca7e0ac6db7ee3acd0e2", func := "chantry/chantrylaw01.RealRising", spec := "realRising", inPlace := ["math.Float64frombits", "math.Float64bits"], unfollowed := true, recurses := true, apart := false }
def RealRisingSaid : Prop := realRisingRow.holds Try.pinned (OpenSpec.ofChange realRisingSpec)

/-- ITS FALSE NEIGHBOUR: 'it returns false'. Refute it at one input. -/
def realRisingWrong : ChangeSpec := { name := "realRising", fn := fun _ => fun
  | [d1, d2] => { results := [.lit (.bool false)], args := [d1, d2] }
  | _ => none }
def RealRisingWrongFalsely : Prop := realRisingRow.holds Try.pinned (OpenSpec.ofChange realRisingWrong)

/-- 'chantrylaw01.RealCanon': WHATEVER THE INPUT: true; the input reads as it did. -/
def realCanonSpec : ChangeSpec := { name := "realCanon", fn := fun _ => fun
  | [d1, d2] => { results := [.lit (.bool true)], args := [d1, d2] }
  | _ => none }
def realCanonRow : OpenClaim := { program := "ytjpgdaphkmeijaa", sum := "db6bd6d7b01dee819bf9d6850abc284a50162397361aca7e0ac6db7ee3acd0e2", func := "chantry/chantrylaw01.RealCanon", spec := "realCanon", inPlace := ["math.Float64frombits", "math.Float64bits"], unfollowed := true, recurses := true, apart := false }
def RealCanonSaid : Prop := realCanonRow.holds Try.pinned (OpenSpec.ofChange realCanonSpec)

/-- ITS FALSE NEIGHBOUR: 'it returns false'. Refute it at one input. -/
def realCanonWrong : ChangeSpec := { name := "realCanon", fn := fun _ => fun
  | [d1, d2] => { results := [.lit (.bool false)], args := [d1, d2] }
  | _ => none }
def RealCanonWrongFalsely : Prop := realCanonRow.holds Try.pinned (OpenSpec.ofChange realCanonWrong)

/-- 'chantrylaw01.RealMidIn': WHATEVER THE INPUT: true; the input reads as it did. -/
def realMidInSpec : ChangeSpec := { name := "realMidIn", fn := fun _ => fun
  | [d] => { results := [.lit (.bool true)], args := [d] }
  | _ => none }
def realMidInRow : OpenClaim := { program := "ytjpgdaphkmeijaa", sum := "db6bd6d7b01dee819bf9d6850abc284a50162397361aca7e0ac6db7ee3acd0e2", func := "chantry/chantrylaw01.RealMidIn", spec := "realMidIn", inPlace := ["math.Float64frombits", "math.Float64bits"], unfollowed := true, recurses := true, apart := false }
def RealMidInSaid : Prop := realMidInRow.holds Try.pinned (OpenSpec.ofChange realMidInSpec)

/-- ITS FALSE NEIGHBOUR: 'it returns false'. Refute it at one input. -/
def realMidInWrong : ChangeSpec := { name := "realMidIn", fn := fun _ => fun
  | [d] => { results := [.lit (.bool false)], args := [d] }
  | _ => none }
def RealMidInWrongFalsely : Prop := realMidInRow.holds Try.pinned (OpenSpec.ofChange realMidInWrong)

/-- 'chantrylaw01.RealOrders': WHATEVER THE INPUT: true; the input reads as it did. -/
def realOrdersSpec : ChangeSpec := { name := "realOrders", fn := fun _ => fun
  | [d1, d2, d3] => { results := [.lit (.bool true)], args := [d1, d2, d3] }
  | _ => none }
def realOrdersRow : OpenClaim := { program := "ytjpgdaphkmeijaa", sum := "db6bd6d7b01dee819bf9d6850abc284a50162397361aca7e0ac6db7ee3acd0e2", func := "chantry/chantrylaw01.RealOrders", spec := "realOrders", inPlace := ["math.Float64frombits", "math.Float64bits"], unfollowed := true, recurses := true, apart := false }
def RealOrdersSaid : Prop := realOrdersRow.holds Try.pinned (OpenSpec.ofChange realOrdersSpec)

/-- ITS FALSE NEIGHBOUR: 'it returns false'. Refute it at one input. -/
def realOrdersWrong : ChangeSpec := { name := "realOrders", fn := fun _ => fun
  | [d1, d2, d3] => { results := [.lit (.bool false)], args := [d1, d2, d3] }
  | _ => none }
def RealOrdersWrongFalsely : Prop := realOrdersRow.holds Try.pinned (OpenSpec.ofChange realOrdersWrong)

/-- 'chantrylaw01.RealThree': WHATEVER THE INPUT: true; the input reads as it did. -/
def realThreeSpec : ChangeSpec := { name := "realThree", fn := fun _ => fun
  | [d1, d2, d3] => { results := [.lit (.bool true)], args := [d1, d2, d3] }
  | _ => none }
def realThreeRow : OpenClaim := { program := "ytjpgdaphkmeijaa", sum := "db6bd6d7b01dee819bf9d6850abc284a50162397361aca7e0ac6db7ee3acd0e2", func := "chantry/chantrylaw01.RealThree", spec := "realThree", inPlace := ["math.Float64frombits", "math.Float64bits"], unfollowed := true, recurses := true, apart := false }
def RealThreeSaid : Prop := realThreeRow.holds Try.pinned (OpenSpec.ofChange realThreeSpec)

/-- ITS FALSE NEIGHBOUR: 'it returns false'. Refute it at one input. -/
def realThreeWrong : ChangeSpec := { name := "realThree", fn := fun _ => fun
  | [d1, d2, d3] => { results := [.lit (.bool false)], args := [d1, d2, d3] }
  | _ => none }
def RealThreeWrongFalsely : Prop := realThreeRow.holds Try.pinned (OpenSpec.ofChange realThreeWrong)

/-- 'chantrylaw01.RealClampIn': WHATEVER THE INPUT: true; the input reads as it did. -/
def realClampInSpec : ChangeSpec := { name := "realClampIn", fn := fun _ => fun
  | [d1, d2, d3] => { results := [.lit (.bool true)], args := [d1, d2, d3] }
  | _ => none }
def realClampInRow : OpenClaim := { program := "ytjpgdaphkmeijaa", sum := "db6bd6d7b01dee819bf9d6850abc284a50162397361aca7e0ac6db7ee3acd0e2", func := "chantry/chantrylaw01.RealClampIn", spec := "realClampIn", inPlace := ["math.Float64frombits", "math.Float64bits"], unfollowed := true, recurses := true, apart := false }
def RealClampInSaid : Prop := realClampInRow.holds Try.pinned (OpenSpec.ofChange realClampInSpec)

/-- ITS FALSE NEIGHBOUR: 'it returns false'. Refute it at one input. -/
def realClampInWrong : ChangeSpec := { name := "realClampIn", fn := fun _ => fun
  | [d1, d2, d3] => { results := [.lit (.bool false)], args := [d1, d2, d3] }
  | _ => none }
def RealClampInWrongFalsely : Prop := realClampInRow.holds Try.pinned (OpenSpec.ofChange realClampInWrong)

/-- 'chantrylaw01.RealCodes': WHATEVER THE INPUT: true; the input reads as it did. -/
def realCodesSpec : ChangeSpec := { name := "realCodes", fn := fun _ => fun
  | [d1, d2] => { results := [.lit (.bool true)], args := [d1, d2] }
  | _ => none }
def realCodesRow : OpenClaim := { program := "ytjpgdaphkmeijaa", sum := "db6bd6d7b01dee819bf9d6850abc284a50162397361aca7e0ac6db7ee3acd0e2", func := "chantry/chantrylaw01.RealCodes", spec := "realCodes", inPlace := ["math.Float64frombits", "math.Float64bits"], unfollowed := true, recurses := true, apart := false }
def RealCodesSaid : Prop := realCodesRow.holds Try.pinned (OpenSpec.ofChange realCodesSpec)

/-- ITS FALSE NEIGHBOUR: 'it returns false'. Refute it at one input. -/
def realCodesWrong : ChangeSpec := { name := "realCodes", fn := fun _ => fun
  | [d1, d2] => { results := [.lit (.bool false)], args := [d1, d2] }
  | _ => none }
def RealCodesWrongFalsely : Prop := realCodesRow.holds Try.pinned (OpenSpec.ofChange realCodesWrong)

/- THE SECOND FORM. 'bulk': how many values and letters a reading holds, each counted each time it is reached (what is shared counts as often as it is met; a slice's spare places count too). A statement '..UptoSaid' is the law's where the arguments, and the package variables that the reading takes, are together of bulk at most 1048576: NARROWER than '..Said'. Prove '..Said' where nothing that the law and all that it calls make is longer than what came in: it says more and counts as full. Else prove '..UptoSaid'. A law counts once. -/
mutual
def uptoBulk {H : Type} : DataW H → Nat
  | .lit (.string bytes) => bytes.length + 1
  | .lit _ => 1
  | .nil => 1
  | .ptr d => uptoBulk d + 1
  | .slice elems spare => uptoBulkAll elems + uptoBulkAll spare + 1
  | .agg parts => uptoBulkAll parts + 1
  | .iface _ d => uptoBulk d + 1
  | .map entries => uptoBulkEntries entries + 1
  | .held _ => 1
def uptoBulkAll {H : Type} : List (DataW H) → Nat
  | [] => 0
  | d :: r => uptoBulk d + uptoBulkAll r
def uptoBulkEntries {H : Type} : List (Lit × DataW H) → Nat
  | [] => 0
  | x :: r => uptoBulkEntry x + uptoBulkEntries r
def uptoBulkEntry {H : Type} : Lit × DataW H → Nat
  | (.string bytes, d) => bytes.length + uptoBulk d + 1
  | (_, d) => uptoBulk d + 1
 end
def uptoSmall : (H : Type) → List (DataW H) → Bool := fun _ ds => decide (uptoBulkAll ds ≤ 1048576)
def OpenSpec.upto (s : _root_.Go.ChangeSpec) : _root_.Go.OpenSpec := { _root_.Go.OpenSpec.ofChange s with cond := some uptoSmall }

/-- 'chantrylaw01.RealMids', WHERE WHAT IT READS IS OF BULK AT MOST 1048576: true; the input reads as it did. -/
def realMidsUptoRow : OpenClaim := { program := "ytjpgdaphkmeijaa", sum := "db6bd6d7b01dee819bf9d6850abc284a50162397361aca7e0ac6db7ee3acd0e2", func := "chantry/chantrylaw01.RealMids", spec := "realMids", inPlace := ["math.Float64frombits", "math.Float64bits"], unfollowed := true, recurses := true, apart := false, narrowed := true }
def RealMidsUptoSaid : Prop := realMidsUptoRow.holds Try.pinned (OpenSpec.upto realMidsSpec)

/-- 'chantrylaw01.RealRising', WHERE WHAT IT READS IS OF BULK AT MOST 1048576: true; the input reads as it did. -/
def realRisingUptoRow : OpenClaim := { program := "ytjpgdaphkmeijaa", sum := "db6bd6d7b01dee819bf9d6850abc284a50162397361aca7e0ac6db7ee3acd0e2", func := "chantry/chantrylaw01.RealRising", spec := "realRising", inPlace := ["math.Float64frombits", "math.Float64bits"], unfollowed := true, recurses := true, apart := false, narrowed := true }
def RealRisingUptoSaid : Prop := realRisingUptoRow.holds Try.pinned (OpenSpec.upto realRisingSpec)

/-- 'chantrylaw01.RealCanon', WHERE WHAT IT READS IS OF BULK AT MOST 1048576: true; the input reads as it did. -/
def realCanonUptoRow : OpenClaim := { program := "ytjpgdaphkmeijaa", sum := "db6bd6d7b01dee819bf9d6850abc284a50162397361aca7e0ac6db7ee3acd0e2", func := "chantry/chantrylaw01.RealCanon", spec := "realCanon", inPlace := ["math.Float64frombits", "math.Float64bits"], unfollowed := true, recurses := true, apart := false, narrowed := true }
def RealCanonUptoSaid : Prop := realCanonUptoRow.holds Try.pinned (OpenSpec.upto realCanonSpec)

/-- 'chantrylaw01.RealMidIn', WHERE WHAT IT READS IS OF BULK AT MOST 1048576: true; the input reads as it did. -/
def realMidInUptoRow : OpenClaim := { program := "ytjpgdaphkmeijaa", sum := "db6bd6d7b01dee819bf9d6850abc284a50162397361aca7e0ac6db7ee3acd0e2", func := "chantry/chantrylaw01.RealMidIn", spec := "realMidIn", inPlace := ["math.Float64frombits", "math.Float64bits"], unfollowed := true, recurses := true, apart := false, narrowed := true }
def RealMidInUptoSaid : Prop := realMidInUptoRow.holds Try.pinned (OpenSpec.upto realMidInSpec)

/-- 'chantrylaw01.RealOrders', WHERE WHAT IT READS IS OF BULK AT MOST 1048576: true; the input reads as it did. -/
def realOrdersUptoRow : OpenClaim := { program := "ytjpgdaphkmeijaa", sum := "db6bd6d7b01dee819bf9d6850abc284a50162397361aca7e0ac6db7ee3acd0e2", func := "chantry/chantrylaw01.RealOrders", spec := "realOrders", inPlace := ["math.Float64frombits", "math.Float64bits"], unfollowed := true, recurses := true, apart := false, narrowed := true }
def RealOrdersUptoSaid : Prop := realOrdersUptoRow.holds Try.pinned (OpenSpec.upto realOrdersSpec)

/-- 'chantrylaw01.RealThree', WHERE WHAT IT READS IS OF BULK AT MOST 1048576: true; the input reads as it did. -/
def realThreeUptoRow : OpenClaim := { program := "ytjpgdaphkmeijaa", sum := "db6bd6d7b01dee819bf9d6850abc284a50162397361aca7e0ac6db7ee3acd0e2", func := "chantry/chantrylaw01.RealThree", spec := "realThree", inPlace := ["math.Float64frombits", "math.Float64bits"], unfollowed := true, recurses := true, apart := false, narrowed := true }
def RealThreeUptoSaid : Prop := realThreeUptoRow.holds Try.pinned (OpenSpec.upto realThreeSpec)

/-- 'chantrylaw01.RealClampIn', WHERE WHAT IT READS IS OF BULK AT MOST 1048576: true; the input reads as it did. -/
def realClampInUptoRow : OpenClaim := { program := "ytjpgdaphkmeijaa", sum := "db6bd6d7b01dee819bf9d6850abc284a50162397361aca7e0ac6db7ee3acd0e2", func := "chantry/chantrylaw01.RealClampIn", spec := "realClampIn", inPlace := ["math.Float64frombits", "math.Float64bits"], unfollowed := true, recurses := true, apart := false, narrowed := true }
def RealClampInUptoSaid : Prop := realClampInUptoRow.holds Try.pinned (OpenSpec.upto realClampInSpec)

/-- 'chantrylaw01.RealCodes', WHERE WHAT IT READS IS OF BULK AT MOST 1048576: true; the input reads as it did. -/
def realCodesUptoRow : OpenClaim := { program := "ytjpgdaphkmeijaa", sum := "db6bd6d7b01dee819bf9d6850abc284a50162397361aca7e0ac6db7ee3acd0e2", func := "chantry/chantrylaw01.RealCodes", spec := "realCodes", inPlace := ["math.Float64frombits", "math.Float64bits"], unfollowed := true, recurses := true, apart := false, narrowed := true }
def RealCodesUptoSaid : Prop := realCodesUptoRow.holds Try.pinned (OpenSpec.upto realCodesSpec)

end Rows
end Go.Proofs.Ytjpgdaphkmeijaa
