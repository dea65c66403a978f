/-
  No cell of these rows narrows 'for every input' (looked for: loops, veiled, ifaces, maps, wideKeys, modest, calm, conditions, laid).
  DERIVED. THE GIVEN ROWS OF THIS SEAT. 8 by the template 'for every input the law returns true; each argument reads behind the call as it read before'; 0 by the template 'total and deterministic' (their statements: YtimfhdpgkoonaaaTotals.lean).
  GIVEN WITH THE SEED: the statements are not yours to turn. If you find one false, say at which input.
  Laid BY PROGRAM, IN A SANDBOX (cutbox-rows.mjs): the forced cells as the released guide's own fill.sh prints them over the translation ce6c6f5a0552cf27… (all of the seat's roots in one cut). By AI agents, Wed Nov 11 2026. No macro, syntax, notation, axiom, sorry.
-/
import Derived.Test.YtimfhdpgkoonaaaChecked
import GoSem.Claim
import GoSem.ClaimJoined
import GoSem.ClaimMapViews
import Derived.JoinedTies
import Derived.KernelRfl
namespace Go.Proofs.Ytimfhdpgkoonaaa
/- THE CELL 'sum', in the pinned program and in every row, IS THE sha256 OF THE DUMP (.gsa) THAT YtimfhdpgkoonaaaProg.lean LOADS. Nothing in Lean hashes anything: it is a label: what it is worth is what the hold of that sum in a sandbox is worth. -/
noncomputable def Try.pinned : Pinned := { name := "ytimfhdpgkoonaaa", sum := "ce6c6f5a0552cf27669c141ab2678afe267653eac90ce8e0a21d81678010cdec", checked := Try.checked }
namespace Rows
def none {H : Type} : Left H := { results := [], args := [] }

/-- 'chantrylaw06.LinkTags': WHATEVER THE INPUT: true; the input reads as it did. -/
def linkTagsSpec : ChangeSpec := { name := "linkTags", fn := fun _ => fun
  | [d1, d2, d3] => { results := [.lit (.bool true)], args := [d1, d2, d3] }
  | _ => none }
def linkTagsRow : OpenClaim := { program := "ytimfhdpgkoonaaa", sum := "ce6c6f5a0552cf27669c141ab2678afe267653eac90ce8e0a21d81678010cdec", func := "chantry/chantrylaw06.LinkTags", spec := "linkTags", inPlace := ["internal/abi.NoEscape"], unfollowed := true, recurses := true, apart := false }
def LinkTagsSaid : Prop := linkTagsRow.holds Try.pinned (OpenSpec.ofChange linkTagsSpec)

/-- ITS FALSE NEIGHBOUR: 'it returns false'. Refute it at one input. -/
def linkTagsWrong : ChangeSpec := { name := "linkTags", fn := fun _ => fun
  | [d1, d2, d3] => { results := [.lit (.bool false)], args := [d1, d2, d3] }
  | _ => none }
def LinkTagsWrongFalsely : Prop := linkTagsRow.holds Try.pinned (OpenSpec.ofChange linkTagsWrong)

/-- 'chantrylaw06.LinkActs': WHATEVER THE INPUT: true; the input reads as it did. -/
def linkActsSpec : ChangeSpec := { name := "linkActs", fn := fun _ => fun
  | [d1, d2, d3] => { results := [.lit (.bool true)], args := [d1, d2, d3] }
  | _ => none }
def linkActsRow : OpenClaim := { program := "ytimfhdpgkoonaaa", sum := "ce6c6f5a0552cf27669c141ab2678afe267653eac90ce8e0a21d81678010cdec", func := "chantry/chantrylaw06.LinkActs", spec := "linkActs", inPlace := ["internal/abi.NoEscape"], unfollowed := true, recurses := true, apart := false }
def LinkActsSaid : Prop := linkActsRow.holds Try.pinned (OpenSpec.ofChange linkActsSpec)

/-- ITS FALSE NEIGHBOUR: 'it returns false'. Refute it at one input. -/
def linkActsWrong : ChangeSpec := { name := "linkActs", fn := fun _ => fun
  | [d1, d2, d3] => { results := [.lit (.bool false)], args := [d1, d2, d3] }
  | _ => none }
def LinkActsWrongFalsely : Prop := linkActsRow.holds Try.pinned (OpenSpec.ofChange linkActsWrong)

/-- 'chantrylaw06.LinkOnce': WHATEVER THE INPUT: true; the input reads as it did. -/
def linkOnceSpec : ChangeSpec := { name := "linkOnce", fn := fun _ => fun
  | [d1, d2] => { results := [.lit (.bool true)], args := [d1, d2] }
  | _ => none }
def linkOnceRow : OpenClaim := { program := "ytimfhdpgkoonaaa", sum := "ce6c6f5a0552cf27669c141ab2678afe267653eac90ce8e0a21d81678010cdec", func := "chantry/chantrylaw06.LinkOnce", spec := "linkOnce", inPlace := ["internal/abi.NoEscape"], unfollowed := true, recurses := true, apart := false }
def LinkOnceSaid : Prop := linkOnceRow.holds Try.pinned (OpenSpec.ofChange linkOnceSpec)

/-- ITS FALSE NEIGHBOUR: 'it returns false'. Refute it at one input. -/
def linkOnceWrong : ChangeSpec := { name := "linkOnce", fn := fun _ => fun
  | [d1, d2] => { results := [.lit (.bool false)], args := [d1, d2] }
  | _ => none }
def LinkOnceWrongFalsely : Prop := linkOnceRow.holds Try.pinned (OpenSpec.ofChange linkOnceWrong)

/-- 'chantrylaw06.LinkOthers': WHATEVER THE INPUT: true; the input reads as it did. -/
def linkOthersSpec : ChangeSpec := { name := "linkOthers", fn := fun _ => fun
  | [d1, d2, d3] => { results := [.lit (.bool true)], args := [d1, d2, d3] }
  | _ => none }
def linkOthersRow : OpenClaim := { program := "ytimfhdpgkoonaaa", sum := "ce6c6f5a0552cf27669c141ab2678afe267653eac90ce8e0a21d81678010cdec", func := "chantry/chantrylaw06.LinkOthers", spec := "linkOthers", inPlace := ["internal/abi.NoEscape"], unfollowed := true, recurses := true, apart := false }
def LinkOthersSaid : Prop := linkOthersRow.holds Try.pinned (OpenSpec.ofChange linkOthersSpec)

/-- ITS FALSE NEIGHBOUR: 'it returns false'. Refute it at one input. -/
def linkOthersWrong : ChangeSpec := { name := "linkOthers", fn := fun _ => fun
  | [d1, d2, d3] => { results := [.lit (.bool false)], args := [d1, d2, d3] }
  | _ => none }
def LinkOthersWrongFalsely : Prop := linkOthersRow.holds Try.pinned (OpenSpec.ofChange linkOthersWrong)

/-- 'chantrylaw06.LinkSecret': WHATEVER THE INPUT: true; the input reads as it did. -/
def linkSecretSpec : ChangeSpec := { name := "linkSecret", fn := fun _ => fun
  | [d1, d2] => { results := [.lit (.bool true)], args := [d1, d2] }
  | _ => none }
def linkSecretRow : OpenClaim := { program := "ytimfhdpgkoonaaa", sum := "ce6c6f5a0552cf27669c141ab2678afe267653eac90ce8e0a21d81678010cdec", func := "chantry/chantrylaw06.LinkSecret", spec := "linkSecret", inPlace := ["internal/abi.NoEscape"], unfollowed := true, recurses := true, apart := false }
def LinkSecretSaid : Prop := linkSecretRow.holds Try.pinned (OpenSpec.ofChange linkSecretSpec)

/-- ITS FALSE NEIGHBOUR: 'it returns false'. Refute it at one input. -/
def linkSecretWrong : ChangeSpec := { name := "linkSecret", fn := fun _ => fun
  | [d1, d2] => { results := [.lit (.bool false)], args := [d1, d2] }
  | _ => none }
def LinkSecretWrongFalsely : Prop := linkSecretRow.holds Try.pinned (OpenSpec.ofChange linkSecretWrong)

/-- 'chantrylaw06.LinkTop': WHATEVER THE INPUT: true; the input reads as it did. -/
def linkTopSpec : ChangeSpec := { name := "linkTop", fn := fun _ => fun
  | [d1, d2] => { results := [.lit (.bool true)], args := [d1, d2] }
  | _ => none }
def linkTopRow : OpenClaim := { program := "ytimfhdpgkoonaaa", sum := "ce6c6f5a0552cf27669c141ab2678afe267653eac90ce8e0a21d81678010cdec", func := "chantry/chantrylaw06.LinkTop", spec := "linkTop", inPlace := ["internal/abi.NoEscape"], unfollowed := true, recurses := true, apart := false }
def LinkTopSaid : Prop := linkTopRow.holds Try.pinned (OpenSpec.ofChange linkTopSpec)

/-- ITS FALSE NEIGHBOUR: 'it returns false'. Refute it at one input. -/
def linkTopWrong : ChangeSpec := { name := "linkTop", fn := fun _ => fun
  | [d1, d2] => { results := [.lit (.bool false)], args := [d1, d2] }
  | _ => none }
def LinkTopWrongFalsely : Prop := linkTopRow.holds Try.pinned (OpenSpec.ofChange linkTopWrong)

/-- 'chantrylaw06.LinkNumbers': WHATEVER THE INPUT: true; the input reads as it did. -/
def linkNumbersSpec : ChangeSpec := { name := "linkNumbers", fn := fun _ => fun
  | [d1, d2, d3] => { results := [.lit (.bool true)], args := [d1, d2, d3] }
  | _ => none }
def linkNumbersRow : OpenClaim := { program := "ytimfhdpgkoonaaa", sum := "ce6c6f5a0552cf27669c141ab2678afe267653eac90ce8e0a21d81678010cdec", func := "chantry/chantrylaw06.LinkNumbers", spec := "linkNumbers", inPlace := ["internal/abi.NoEscape"], unfollowed := true, recurses := true, apart := false }
def LinkNumbersSaid : Prop := linkNumbersRow.holds Try.pinned (OpenSpec.ofChange linkNumbersSpec)

/-- ITS FALSE NEIGHBOUR: 'it returns false'. Refute it at one input. -/
def linkNumbersWrong : ChangeSpec := { name := "linkNumbers", fn := fun _ => fun
  | [d1, d2, d3] => { results := [.lit (.bool false)], args := [d1, d2, d3] }
  | _ => none }
def LinkNumbersWrongFalsely : Prop := linkNumbersRow.holds Try.pinned (OpenSpec.ofChange linkNumbersWrong)

/-- 'chantrylaw06.LinkMine': WHATEVER THE INPUT: true; the input reads as it did. -/
def linkMineSpec : ChangeSpec := { name := "linkMine", fn := fun _ => fun
  | [d1, d2, d3] => { results := [.lit (.bool true)], args := [d1, d2, d3] }
  | _ => none }
def linkMineRow : OpenClaim := { program := "ytimfhdpgkoonaaa", sum := "ce6c6f5a0552cf27669c141ab2678afe267653eac90ce8e0a21d81678010cdec", func := "chantry/chantrylaw06.LinkMine", spec := "linkMine", inPlace := ["internal/abi.NoEscape"], unfollowed := true, recurses := true, apart := false }
def LinkMineSaid : Prop := linkMineRow.holds Try.pinned (OpenSpec.ofChange linkMineSpec)

/-- ITS FALSE NEIGHBOUR: 'it returns false'. Refute it at one input. -/
def linkMineWrong : ChangeSpec := { name := "linkMine", fn := fun _ => fun
  | [d1, d2, d3] => { results := [.lit (.bool false)], args := [d1, d2, d3] }
  | _ => none }
def LinkMineWrongFalsely : Prop := linkMineRow.holds Try.pinned (OpenSpec.ofChange linkMineWrong)

/- THE SECOND FORM. 'bulk': how many values and letters a reading holds, each counted each time it is reached (what is shared counts as often as it is met; a slice's spare places count too). A statement '..UptoSaid' is the law's where the arguments, and the package variables that the reading takes, are together of bulk at most 1048576: NARROWER than '..Said'. Prove '..Said' where nothing that the law and all that it calls make is longer than what came in: it says more and counts as full. Else prove '..UptoSaid'. A law counts once. -/
mutual
def uptoBulk {H : Type} : DataW H → Nat
  | .lit (.string bytes) => bytes.length + 1
  | .lit _ => 1
  | .nil => 1
  | .ptr d => uptoBulk d + 1
  | .slice elems spare => uptoBulkAll elems + uptoBulkAll spare + 1
  | .agg parts => uptoBulkAll parts + 1
  | .iface _ d => uptoBulk d + 1
  | .map entries => uptoBulkEntries entries + 1
  | .held _ => 1
def uptoBulkAll {H : Type} : List (DataW H) → Nat
  | [] => 0
  | d :: r => uptoBulk d + uptoBulkAll r
def uptoBulkEntries {H : Type} : List (Lit × DataW H) → Nat
  | [] => 0
  | x :: r => uptoBulkEntry x + uptoBulkEntries r
def uptoBulkEntry {H : Type} : Lit × DataW H → Nat
  | (.string bytes, d) => bytes.length + uptoBulk d + 1
  | (_, d) => uptoBulk d + 1
 end
def uptoSmall : (H : Type) → List (DataW H) → Bool := fun _ ds => decide (uptoBulkAll ds ≤ 1048576)
def OpenSpec.upto (s : _root_.Go.ChangeSpec) : _root_.Go.OpenSpec := { _root_.Go.OpenSpec.ofChange s with cond := some uptoSmall }

/-- 'chantrylaw06.LinkTags', WHERE WHAT IT READS IS OF BULK AT MOST 1048576: true; the input reads as it did. -/
def linkTagsUptoRow : OpenClaim := { program := "ytimfhdpgkoonaaa", sum := "ce6c6f5a0552cf27669c141ab2678afe267653eac90ce8e0a21d81678010cdec", func := "chantry/chantrylaw06.LinkTags", spec := "linkTags", inPlace := ["internal/abi.NoEscape"], unfollowed := true, recurses := true, apart := false, narrowed := true }
def LinkTagsUptoSaid : Prop := linkTagsUptoRow.holds Try.pinned (OpenSpec.upto linkTagsSpec)

/-- 'chantrylaw06.LinkActs', WHERE WHAT IT READS IS OF BULK AT MOST 1048576: true; the input reads as it did. -/
def linkActsUptoRow : OpenClaim := { program := "ytimfhdpgkoonaaa", sum := "ce6c6f5a0552cf27669c141ab2678afe267653eac90ce8e0a21d81678010cdec", func := "chantry/chantrylaw06.LinkActs", spec := "linkActs", inPlace := ["internal/abi.NoEscape"], unfollowed := true, recurses := true, apart := false, narrowed := true }
def LinkActsUptoSaid : Prop := linkActsUptoRow.holds Try.pinned (OpenSpec.upto linkActsSpec)

/-- 'chantrylaw06.LinkOnce', WHERE WHAT IT READS IS OF BULK AT MOST 1048576: true; the input reads as it did. -/
def linkOnceUptoRow : OpenClaim := { program := "ytimfhdpgkoonaaa", sum := "ce6c6f5a0552cf27669c141ab2678afe267653eac90ce8e0a21d81678010cdec", func := "chantry/chantrylaw06.LinkOnce", spec := "linkOnce", inPlace := ["internal/abi.NoEscape"], unfollowed := true, recurses := true, apart := false, narrowed := true }
def LinkOnceUptoSaid : Prop := linkOnceUptoRow.holds Try.pinned (OpenSpec.upto linkOnceSpec)

/-- 'chantrylaw06.LinkOthers', WHERE WHAT IT READS IS OF BULK AT MOST 1048576: true; the input reads as it did. -/
def linkOthersUptoRow : OpenClaim := { program := "ytimfhdpgkoonaaa", sum := "ce6c6f5a0552cf27669c141ab2678afe267653eac90ce8e0a21d81678010cdec", func := "chantry/chantrylaw06.LinkOthers", spec := "linkOthers", inPlace := ["internal/abi.NoEscape"], unfollowed := true, recurses := true, apart := false, narrowed := true }
def LinkOthersUptoSaid : Prop := linkOthersUptoRow.holds Try.pinned (OpenSpec.upto linkOthersSpec)

/-- 'chantrylaw06.LinkSecret', WHERE WHAT IT READS IS OF BULK AT MOST 1048576: true; the input reads as it did. -/
def linkSecretUptoRow : OpenClaim := { program := "ytimfhdpgkoonaaa", sum := "ce6c6f5a0552cf27669c141ab2678afe267653eac90ce8e0a21d81678010cdec", func := "chantry/chantrylaw06.LinkSecret", spec := "linkSecret", inPlace := ["internal/abi.NoEscape"], unfollowed := true, recurses := true, apart := false, narrowed := true }
def LinkSecretUptoSaid : Prop := linkSecretUptoRow.holds Try.pinned (OpenSpec.upto linkSecretSpec)

/-- 'chantrylaw06.LinkTop', WHERE WHAT IT READS IS OF BULK AT MOST 1048576: true; the input reads as it did. -/
def linkTopUptoRow : OpenClaim := { program := "ytimfhdpgkoonaaa", sum := "ce6c6f5a0552cf27669c141ab2678afe267653eac90ce8e0a21d81678010cdec", func := "chantry/chantrylaw06.LinkTop", spec := "linkTop", inPlace := ["internal/abi.NoEscape"], unfollowed := true, recurses := true, apart := false, narrowed := true }
def LinkTopUptoSaid : Prop := linkTopUptoRow.holds Try.pinned (OpenSpec.upto linkTopSpec)

/-- 'chantrylaw06.LinkNumbers', WHERE WHAT IT READS IS OF BULK AT MOST 1048576: true; the input reads as it did. -/
def linkNumbersUptoRow : OpenClaim := { program := "ytimfhdpgkoonaaa", sum := "ce6c6f5a0552cf27669c141ab2678afe267653eac90ce8e0a21d81678010cdec", func := "chantry/chantrylaw06.LinkNumbers", spec := "linkNumbers", inPlace := ["internal/abi.NoEscape"], unfollowed := true, recurses := true, apart := false, narrowed := true }
def LinkNumbersUptoSaid : Prop := linkNumbersUptoRow.holds Try.pinned (OpenSpec.upto linkNumbersSpec)

/-- 'chantrylaw06.LinkMine', WHERE WHAT IT READS IS OF BULK AT MOST 1048576: true; the input reads as it did. -/
def linkMineUptoRow : OpenClaim := { program := "ytimfhdpgkoonaaa", sum := "ce6c6f5a0552cf27669c141ab2678afe267653eac90ce8e0a21d81678010cdec", func := "chantry/chantrylaw06.LinkMine", spec := "linkMine", inPlace := ["internal/abi.NoEscape"], unfollowed := true, recurses := true, apart := false, narrowed := true }
def LinkMineUptoSaid : Prop := linkMineUptoRow.holds Try.pinned (OpenSpec.upto linkMineSpec)

end Rows
end Go.Proofs.Ytimfhdpgkoonaaa
