/-
  No cell of these rows narrows 'for every input' (looked for: loops, veiled, ifaces, maps, wideKeys, modest, calm, conditions, laid).
  DERIVED. THE GIVEN ROWS OF THIS SEAT. 8 by the template 'for every input the law returns true; each argument reads behind the call as it read before'; 0 by the template 'total and deterministic' (their statements: YtinkkiglkjihmaaTotals.lean).
  GIVEN WITH THE SEED: the statements are not yours to turn. If you find one false, say at which input.
  Laid BY PROGRAM, IN A SANDBOX (cutbox-rows.mjs): the forced cells as the released guide's own fill.sh prints them over the translation 8da9a7d349a4b2c1… (all of the seat's roots in one cut). By AI agents, Wed Nov 11 2026. No macro, syntax, notation, axiom, sorry.
-/
import Derived.Test.YtinkkiglkjihmaaChecked
import GoSem.Claim
import GoSem.ClaimJoined
import GoSem.ClaimMapViews
import Derived.JoinedTies
import Derived.KernelRfl
namespace Go.Proofs.Ytinkkiglkjihmaa
/- THE CELL 'sum', in the pinned program and in every row, IS THE sha256 OF THE DUMP (.gsa) THAT YtinkkiglkjihmaaProg.lean LOADS. Nothing in Lean hashes anything: it is a label: what it is worth is what the hold of that sum in a sandbox is worth. -/
noncomputable def Try.pinned : Pinned := { name := "ytinkkiglkjihmaa", sum := "8da9a7d349a4b2c184bd8aa40a259fc74cc1389f9c5dbf6395933610ebdbc8d7", checked := Try.checked }
namespace Rows
def none {H : Type} : Left H := { results := [], args := [] }

/-- 'chantrylaw04.KnowCloses': WHATEVER THE INPUT: true; the input reads as it did. -/
def knowClosesSpec : ChangeSpec := { name := "knowCloses", fn := fun _ => fun
  | [d1, d2] => { results := [.lit (.bool true)], args := [d1, d2] }
  | _ => none }
def knowClosesRow : OpenClaim := { program := "ytinkkiglkjihmaa", sum := "8da9a7d349a4b2c184bd8aa40a259fc74cc1389f9c5dbf6395933610ebdbc8d7", func := "chantry/chantrylaw04.KnowCloses", spec := "knowCloses", unfollowed := true, recurses := true, apart := false }
def KnowClosesSaid : Prop := knowClosesRow.holds Try.pinned (OpenSpec.ofChange knowClosesSpec)

/-- ITS FALSE NEIGHBOUR: 'it returns false'. Refute it at one input. -/
def knowClosesWrong : ChangeSpec := { name := "knowCloses", fn := fun _ => fun
  | [d1, d2] => { results := [.lit (.bool false)], args := [d1, d2] }
  | _ => none }
def KnowClosesWrongFalsely : Prop := knowClosesRow.holds Try.pinned (OpenSpec.ofChange knowClosesWrong)

/-- 'chantrylaw04.KnowMore': WHATEVER THE INPUT: true; the input reads as it did. -/
def knowMoreSpec : ChangeSpec := { name := "knowMore", fn := fun _ => fun
  | [d1, d2, d3] => { results := [.lit (.bool true)], args := [d1, d2, d3] }
  | _ => none }
def knowMoreRow : OpenClaim := { program := "ytinkkiglkjihmaa", sum := "8da9a7d349a4b2c184bd8aa40a259fc74cc1389f9c5dbf6395933610ebdbc8d7", func := "chantry/chantrylaw04.KnowMore", spec := "knowMore", unfollowed := true, recurses := true, apart := false }
def KnowMoreSaid : Prop := knowMoreRow.holds Try.pinned (OpenSpec.ofChange knowMoreSpec)

/-- ITS FALSE NEIGHBOUR: 'it returns false'. Refute it at one input. -/
def knowMoreWrong : ChangeSpec := { name := "knowMore", fn := fun _ => fun
  | [d1, d2, d3] => { results := [.lit (.bool false)], args := [d1, d2, d3] }
  | _ => none }
def KnowMoreWrongFalsely : Prop := knowMoreRow.holds Try.pinned (OpenSpec.ofChange knowMoreWrong)

/-- 'chantrylaw04.KnowAny': WHATEVER THE INPUT: true; the input reads as it did. -/
def knowAnySpec : ChangeSpec := { name := "knowAny", fn := fun _ => fun
  | [d1, d2, d3] => { results := [.lit (.bool true)], args := [d1, d2, d3] }
  | _ => none }
def knowAnyRow : OpenClaim := { program := "ytinkkiglkjihmaa", sum := "8da9a7d349a4b2c184bd8aa40a259fc74cc1389f9c5dbf6395933610ebdbc8d7", func := "chantry/chantrylaw04.KnowAny", spec := "knowAny", unfollowed := true, recurses := true, apart := false }
def KnowAnySaid : Prop := knowAnyRow.holds Try.pinned (OpenSpec.ofChange knowAnySpec)

/-- ITS FALSE NEIGHBOUR: 'it returns false'. Refute it at one input. -/
def knowAnyWrong : ChangeSpec := { name := "knowAny", fn := fun _ => fun
  | [d1, d2, d3] => { results := [.lit (.bool false)], args := [d1, d2, d3] }
  | _ => none }
def KnowAnyWrongFalsely : Prop := knowAnyRow.holds Try.pinned (OpenSpec.ofChange knowAnyWrong)

/-- 'chantrylaw04.KnowParts': WHATEVER THE INPUT: true; the input reads as it did. -/
def knowPartsSpec : ChangeSpec := { name := "knowParts", fn := fun _ => fun
  | [d] => { results := [.lit (.bool true)], args := [d] }
  | _ => none }
def knowPartsRow : OpenClaim := { program := "ytinkkiglkjihmaa", sum := "8da9a7d349a4b2c184bd8aa40a259fc74cc1389f9c5dbf6395933610ebdbc8d7", func := "chantry/chantrylaw04.KnowParts", spec := "knowParts", unfollowed := true, recurses := true, apart := false }
def KnowPartsSaid : Prop := knowPartsRow.holds Try.pinned (OpenSpec.ofChange knowPartsSpec)

/-- ITS FALSE NEIGHBOUR: 'it returns false'. Refute it at one input. -/
def knowPartsWrong : ChangeSpec := { name := "knowParts", fn := fun _ => fun
  | [d] => { results := [.lit (.bool false)], args := [d] }
  | _ => none }
def KnowPartsWrongFalsely : Prop := knowPartsRow.holds Try.pinned (OpenSpec.ofChange knowPartsWrong)

/-- 'chantrylaw04.KnowNothing': WHATEVER THE INPUT: true; the input reads as it did. -/
def knowNothingSpec : ChangeSpec := { name := "knowNothing", fn := fun _ => fun
  | [d] => { results := [.lit (.bool true)], args := [d] }
  | _ => none }
def knowNothingRow : OpenClaim := { program := "ytinkkiglkjihmaa", sum := "8da9a7d349a4b2c184bd8aa40a259fc74cc1389f9c5dbf6395933610ebdbc8d7", func := "chantry/chantrylaw04.KnowNothing", spec := "knowNothing", unfollowed := true, recurses := true, apart := false }
def KnowNothingSaid : Prop := knowNothingRow.holds Try.pinned (OpenSpec.ofChange knowNothingSpec)

/-- ITS FALSE NEIGHBOUR: 'it returns false'. Refute it at one input. -/
def knowNothingWrong : ChangeSpec := { name := "knowNothing", fn := fun _ => fun
  | [d] => { results := [.lit (.bool false)], args := [d] }
  | _ => none }
def KnowNothingWrongFalsely : Prop := knowNothingRow.holds Try.pinned (OpenSpec.ofChange knowNothingWrong)

/-- 'chantrylaw04.KnowFresh': WHATEVER THE INPUT: true; the input reads as it did. -/
def knowFreshSpec : ChangeSpec := { name := "knowFresh", fn := fun _ => fun
  | [d1, d2, d3] => { results := [.lit (.bool true)], args := [d1, d2, d3] }
  | _ => none }
def knowFreshRow : OpenClaim := { program := "ytinkkiglkjihmaa", sum := "8da9a7d349a4b2c184bd8aa40a259fc74cc1389f9c5dbf6395933610ebdbc8d7", func := "chantry/chantrylaw04.KnowFresh", spec := "knowFresh", inPlace := ["internal/abi.NoEscape"], unfollowed := true, recurses := true, apart := false }
def KnowFreshSaid : Prop := knowFreshRow.holds Try.pinned (OpenSpec.ofChange knowFreshSpec)

/-- ITS FALSE NEIGHBOUR: 'it returns false'. Refute it at one input. -/
def knowFreshWrong : ChangeSpec := { name := "knowFresh", fn := fun _ => fun
  | [d1, d2, d3] => { results := [.lit (.bool false)], args := [d1, d2, d3] }
  | _ => none }
def KnowFreshWrongFalsely : Prop := knowFreshRow.holds Try.pinned (OpenSpec.ofChange knowFreshWrong)

/-- 'chantrylaw04.KnowSealed': WHATEVER THE INPUT: true; the input reads as it did. -/
def knowSealedSpec : ChangeSpec := { name := "knowSealed", fn := fun _ => fun
  | [d1, d2, d3] => { results := [.lit (.bool true)], args := [d1, d2, d3] }
  | _ => none }
def knowSealedRow : OpenClaim := { program := "ytinkkiglkjihmaa", sum := "8da9a7d349a4b2c184bd8aa40a259fc74cc1389f9c5dbf6395933610ebdbc8d7", func := "chantry/chantrylaw04.KnowSealed", spec := "knowSealed", inPlace := ["internal/abi.NoEscape"], unfollowed := true, recurses := true, apart := false }
def KnowSealedSaid : Prop := knowSealedRow.holds Try.pinned (OpenSpec.ofChange knowSealedSpec)

/-- ITS FALSE NEIGHBOUR: 'it returns false'. Refute it at one input. -/
def knowSealedWrong : ChangeSpec := { name := "knowSealed", fn := fun _ => fun
  | [d1, d2, d3] => { results := [.lit (.bool false)], args := [d1, d2, d3] }
  | _ => none }
def KnowSealedWrongFalsely : Prop := knowSealedRow.holds Try.pinned (OpenSpec.ofChange knowSealedWrong)

/-- 'chantrylaw04.KnowMade': WHATEVER THE INPUT: true; the input reads as it did. -/
def knowMadeSpec : ChangeSpec := { name := "knowMade", fn := fun _ => fun
  | [d1, d2, d3] => { results := [.lit (.bool true)], args := [d1, d2, d3] }
  | _ => none }
def knowMadeRow : OpenClaim := { program := "ytinkkiglkjihmaa", sum := "8da9a7d349a4b2c184bd8aa40a259fc74cc1389f9c5dbf6395933610ebdbc8d7", func := "chantry/chantrylaw04.KnowMade", spec := "knowMade", inPlace := ["internal/abi.NoEscape"], unfollowed := true, recurses := true, apart := false }
def KnowMadeSaid : Prop := knowMadeRow.holds Try.pinned (OpenSpec.ofChange knowMadeSpec)

/-- ITS FALSE NEIGHBOUR: 'it returns false'. Refute it at one input. -/
def knowMadeWrong : ChangeSpec := { name := "knowMade", fn := fun _ => fun
  | [d1, d2, d3] => { results := [.lit (.bool false)], args := [d1, d2, d3] }
  | _ => none }
def KnowMadeWrongFalsely : Prop := knowMadeRow.holds Try.pinned (OpenSpec.ofChange knowMadeWrong)

/- THE SECOND FORM. 'bulk': how many values and letters a reading holds, each counted each time it is reached (what is shared counts as often as it is met; a slice's spare places count too). A statement '..UptoSaid' is the law's where the arguments, and the package variables that the reading takes, are together of bulk at most 1048576: NARROWER than '..Said'. Prove '..Said' where nothing that the law and all that it calls make is longer than what came in: it says more and counts as full. Else prove '..UptoSaid'. A law counts once. -/
mutual
def uptoBulk {H : Type} : DataW H → Nat
  | .lit (.string bytes) => bytes.length + 1
  | .lit _ => 1
  | .nil => 1
  | .ptr d => uptoBulk d + 1
  | .slice elems spare => uptoBulkAll elems + uptoBulkAll spare + 1
  | .agg parts => uptoBulkAll parts + 1
  | .iface _ d => uptoBulk d + 1
  | .map entries => uptoBulkEntries entries + 1
  | .held _ => 1
def uptoBulkAll {H : Type} : List (DataW H) → Nat
  | [] => 0
  | d :: r => uptoBulk d + uptoBulkAll r
def uptoBulkEntries {H : Type} : List (Lit × DataW H) → Nat
  | [] => 0
  | x :: r => uptoBulkEntry x + uptoBulkEntries r
def uptoBulkEntry {H : Type} : Lit × DataW H → Nat
  | (.string bytes, d) => bytes.length + uptoBulk d + 1
  | (_, d) => uptoBulk d + 1
 end
def uptoSmall : (H : Type) → List (DataW H) → Bool := fun _ ds => decide (uptoBulkAll ds ≤ 1048576)
def OpenSpec.upto (s : _root_.Go.ChangeSpec) : _root_.Go.OpenSpec := { _root_.Go.OpenSpec.ofChange s with cond := some uptoSmall }

/-- 'chantrylaw04.KnowCloses', WHERE WHAT IT READS IS OF BULK AT MOST 1048576: true; the input reads as it did. -/
def knowClosesUptoRow : OpenClaim := { program := "ytinkkiglkjihmaa", sum := "8da9a7d349a4b2c184bd8aa40a259fc74cc1389f9c5dbf6395933610ebdbc8d7", func := "chantry/chantrylaw04.KnowCloses", spec := "knowCloses", unfollowed := true, recurses := true, apart := false, narrowed := true }
def KnowClosesUptoSaid : Prop := knowClosesUptoRow.holds Try.pinned (OpenSpec.upto knowClosesSpec)

/-- 'chantrylaw04.KnowMore', WHERE WHAT IT READS IS OF BULK AT MOST 1048576: true; the input reads as it did. -/
def knowMoreUptoRow : OpenClaim := { program := "ytinkkiglkjihmaa", sum := "8da9a7d349a4b2c184bd8aa40a259fc74cc1389f9c5dbf6395933610ebdbc8d7", func := "chantry/chantrylaw04.KnowMore", spec := "knowMore", unfollowed := true, recurses := true, apart := false, narrowed := true }
def KnowMoreUptoSaid : Prop := knowMoreUptoRow.holds Try.pinned (OpenSpec.upto knowMoreSpec)

/-- 'chantrylaw04.KnowAny', WHERE WHAT IT READS IS OF BULK AT MOST 1048576: true; the input reads as it did. -/
def knowAnyUptoRow : OpenClaim := { program := "ytinkkiglkjihmaa", sum := "8da9a7d349a4b2c184bd8aa40a259fc74cc1389f9c5dbf6395933610ebdbc8d7", func := "chantry/chantrylaw04.KnowAny", spec := "knowAny", unfollowed := true, recurses := true, apart := false, narrowed := true }
def KnowAnyUptoSaid : Prop := knowAnyUptoRow.holds Try.pinned (OpenSpec.upto knowAnySpec)

/-- 'chantrylaw04.KnowParts', WHERE WHAT IT READS IS OF BULK AT MOST 1048576: true; the input reads as it did. -/
def knowPartsUptoRow : OpenClaim := { program := "ytinkkiglkjihmaa", sum := "8da9a7d349a4b2c184bd8aa40a259fc74cc1389f9c5dbf6395933610ebdbc8d7", func := "chantry/chantrylaw04.KnowParts", spec := "knowParts", unfollowed := true, recurses := true, apart := false, narrowed := true }
def KnowPartsUptoSaid : Prop := knowPartsUptoRow.holds Try.pinned (OpenSpec.upto knowPartsSpec)

/-- 'chantrylaw04.KnowNothing', WHERE WHAT IT READS IS OF BULK AT MOST 1048576: true; the input reads as it did. -/
def knowNothingUptoRow : OpenClaim := { program := "ytinkkiglkjihmaa", sum := "8da9a7d349a4b2c184bd8aa40a259fc74cc1389f9c5dbf6395933610ebdbc8d7", func := "chantry/chantrylaw04.KnowNothing", spec := "knowNothing", unfollowed := true, recurses := true, apart := false, narrowed := true }
def KnowNothingUptoSaid : Prop := knowNothingUptoRow.holds Try.pinned (OpenSpec.upto knowNothingSpec)

/-- 'chantrylaw04.KnowFresh', WHERE WHAT IT READS IS OF BULK AT MOST 1048576: true; the input reads as it did. -/
def knowFreshUptoRow : OpenClaim := { program := "ytinkkiglkjihmaa", sum := "8da9a7d349a4b2c184bd8aa40a259fc74cc1389f9c5dbf6395933610ebdbc8d7", func := "chantry/chantrylaw04.KnowFresh", spec := "knowFresh", inPlace := ["internal/abi.NoEscape"], unfollowed := true, recurses := true, apart := false, narrowed := true }
def KnowFreshUptoSaid : Prop := knowFreshUptoRow.holds Try.pinned (OpenSpec.upto knowFreshSpec)

/-- 'chantrylaw04.KnowSealed', WHERE WHAT IT READS IS OF BULK AT MOST 1048576: true; the input reads as it did. -/
def knowSealedUptoRow : OpenClaim := { program := "ytinkkiglkjihmaa", sum := "8da9a7d349a4b2c184bd8aa40a259fc74cc1389f9c5dbf6395933610ebdbc8d7", func := "chantry/chantrylaw04.KnowSealed", spec := "knowSealed", inPlace := ["internal/abi.NoEscape"], unfollowed := true, recurses := true, apart := false, narrowed := true }
def KnowSealedUptoSaid : Prop := knowSealedUptoRow.holds Try.pinned (OpenSpec.upto knowSealedSpec)

/-- 'chantrylaw04.KnowMade', WHERE WHAT IT READS IS OF BULK AT MOST 1048576: true; the input reads as it did. -/
def knowMadeUptoRow : OpenClaim := { program := "ytinkkiglkjihmaa", sum := "8da9a7d349a4b2c184bd8aa40a259fc74cc1389f9c5dbf6395933610ebdbc8d7", func := "chantry/chantrylaw04.KnowMade", spec := "knowMade", inPlace := ["internal/abi.NoEscape"], unfollowed := true, recurses := true, apart := false, narrowed := true }
def KnowMadeUptoSaid : Prop := knowMadeUptoRow.holds Try.pinned (OpenSpec.upto knowMadeSpec)

end Rows
end Go.Proofs.Ytinkkiglkjihmaa
