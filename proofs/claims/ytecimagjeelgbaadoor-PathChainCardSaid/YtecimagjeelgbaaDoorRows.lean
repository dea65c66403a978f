/-
  NARROWER THAN 'FOR EVERY INPUT', by the rows' own cells (each row's printed sentence says how): PathRekeys: laid · PathMembers: laid · PathChain: laid · PathOwn: laid · PathNothing: laid.
  DERIVED. THE GIVEN ROWS OF THIS SEAT. 5 by the template 'for every input the law returns true; each argument reads behind the call as it read before'; 0 by the template 'total and deterministic' (their statements: YtecimagjeelgbaaDoorTotals.lean).
  GIVEN WITH THE SEED: the statements are not yours to turn. If you find one false, say at which input.
  Laid BY PROGRAM, IN A SANDBOX (cutbox-rows.mjs): the forced cells as the released guide's own fill.sh prints them over the translation 05717f43011a1c88… (all of the seat's roots in one cut). By AI agents, Wed Nov 11 2026. No macro, syntax, notation, axiom, sorry.
-/
import Derived.Test.YtecimagjeelgbaaDoorChecked
import GoSem.Claim
import GoSem.ClaimJoined
import GoSem.ClaimMapViews
import Derived.JoinedTies
import Derived.KernelRfl
namespace Go.Proofs.YtecimagjeelgbaaDoor
/- THE CELL 'sum', in the pinned program and in every row, IS THE sha256 OF THE DUMP (.gsa) THAT YtecimagjeelgbaaDoorProg.lean LOADS. Nothing in Lean hashes anything: it is a label: what it is worth is what the hold of that sum in a sandbox is worth. -/
noncomputable def Tryd.pinned : Pinned := { name := "ytecimagjeelgbaadoor", sum := "05717f43011a1c8894a4bbd1df18c15ac1490361183c8103377a8647de5e5c34", checked := Tryd.checked }
namespace Rows
def none {H : Type} : Left H := { results := [], args := [] }

/- WHAT THE LISTED PACKAGE-LEVEL VARIABLES READ AS WHEN THE CALL BEGINS. Each datum BY PROGRAM (the guide's laid-datum.mjs) off the statement by which the dump's own 'gosem.cut.vars' lays the variable. In a bare row this is a premise. The card (YtecimagjeelgbaaDoorCards.lean) ties it to the program's text. -/
def laid_math_bits_deBruijn32tab {H : Type} : DataW H := .agg [.lit (.int .u8 0), .lit (.int .u8 1), .lit (.int .u8 28), .lit (.int .u8 2), .lit (.int .u8 29), .lit (.int .u8 14), .lit (.int .u8 24), .lit (.int .u8 3), .lit (.int .u8 30), .lit (.int .u8 22), .lit (.int .u8 20), .lit (.int .u8 15), .lit (.int .u8 25), .lit (.int .u8 17), .lit (.int .u8 4), .lit (.int .u8 8), .lit (.int .u8 31), .lit (.int .u8 27), .lit (.int .u8 13), .lit (.int .u8 23), .lit (.int .u8 21), .lit (.int .u8 19), .lit (.int .u8 16), .lit (.int .u8 7), .lit (.int .u8 26), .lit (.int .u8 12), .lit (.int .u8 18), .lit (.int .u8 6), .lit (.int .u8 11), .lit (.int .u8 5), .lit (.int .u8 10), .lit (.int .u8 9)]

/-- 'chantrylaw15.PathRekeys': WHATEVER THE INPUT: true; the input reads as it did. -/
def pathRekeysSpec : ChangeSpec := { name := "pathRekeys", fn := fun _ => fun
  | [d1, d2, d3] => { results := [.lit (.bool true)], args := [d1, d2, d3] }
  | _ => none }
def pathRekeysRow : OpenClaim := { program := "ytecimagjeelgbaadoor", sum := "05717f43011a1c8894a4bbd1df18c15ac1490361183c8103377a8647de5e5c34", func := "chantry/chantrylaw15.PathRekeys", spec := "pathRekeys", inPlace := ["internal/abi.NoEscape"], unfollowed := true, recurses := true, named := ["math/bits.deBruijn32tab"], apart := false, laid := [("math/bits.deBruijn32tab", laid_math_bits_deBruijn32tab)] }
def PathRekeysSaid : Prop := pathRekeysRow.holds Tryd.pinned (OpenSpec.ofChange pathRekeysSpec)

/-- ITS FALSE NEIGHBOUR: 'it returns false'. Refute it at one input. -/
def pathRekeysWrong : ChangeSpec := { name := "pathRekeys", fn := fun _ => fun
  | [d1, d2, d3] => { results := [.lit (.bool false)], args := [d1, d2, d3] }
  | _ => none }
def PathRekeysWrongFalsely : Prop := pathRekeysRow.holds Tryd.pinned (OpenSpec.ofChange pathRekeysWrong)

/-- 'chantrylaw15.PathMembers': WHATEVER THE INPUT: true; the input reads as it did. -/
def pathMembersSpec : ChangeSpec := { name := "pathMembers", fn := fun _ => fun
  | [d1, d2, d3] => { results := [.lit (.bool true)], args := [d1, d2, d3] }
  | _ => none }
def pathMembersRow : OpenClaim := { program := "ytecimagjeelgbaadoor", sum := "05717f43011a1c8894a4bbd1df18c15ac1490361183c8103377a8647de5e5c34", func := "chantry/chantrylaw15.PathMembers", spec := "pathMembers", inPlace := ["internal/abi.NoEscape"], unfollowed := true, recurses := true, named := ["math/bits.deBruijn32tab"], apart := false, laid := [("math/bits.deBruijn32tab", laid_math_bits_deBruijn32tab)] }
def PathMembersSaid : Prop := pathMembersRow.holds Tryd.pinned (OpenSpec.ofChange pathMembersSpec)

/-- ITS FALSE NEIGHBOUR: 'it returns false'. Refute it at one input. -/
def pathMembersWrong : ChangeSpec := { name := "pathMembers", fn := fun _ => fun
  | [d1, d2, d3] => { results := [.lit (.bool false)], args := [d1, d2, d3] }
  | _ => none }
def PathMembersWrongFalsely : Prop := pathMembersRow.holds Tryd.pinned (OpenSpec.ofChange pathMembersWrong)

/-- 'chantrylaw15.PathChain': WHATEVER THE INPUT: true; the input reads as it did. -/
def pathChainSpec : ChangeSpec := { name := "pathChain", fn := fun _ => fun
  | [d] => { results := [.lit (.bool true)], args := [d] }
  | _ => none }
def pathChainRow : OpenClaim := { program := "ytecimagjeelgbaadoor", sum := "05717f43011a1c8894a4bbd1df18c15ac1490361183c8103377a8647de5e5c34", func := "chantry/chantrylaw15.PathChain", spec := "pathChain", inPlace := ["internal/abi.NoEscape"], unfollowed := true, recurses := true, named := ["math/bits.deBruijn32tab"], apart := false, laid := [("math/bits.deBruijn32tab", laid_math_bits_deBruijn32tab)] }
def PathChainSaid : Prop := pathChainRow.holds Tryd.pinned (OpenSpec.ofChange pathChainSpec)

/-- ITS FALSE NEIGHBOUR: 'it returns false'. Refute it at one input. -/
def pathChainWrong : ChangeSpec := { name := "pathChain", fn := fun _ => fun
  | [d] => { results := [.lit (.bool false)], args := [d] }
  | _ => none }
def PathChainWrongFalsely : Prop := pathChainRow.holds Tryd.pinned (OpenSpec.ofChange pathChainWrong)

/-- 'chantrylaw15.PathOwn': WHATEVER THE INPUT: true; the input reads as it did. -/
def pathOwnSpec : ChangeSpec := { name := "pathOwn", fn := fun _ => fun
  | [d1, d2] => { results := [.lit (.bool true)], args := [d1, d2] }
  | _ => none }
def pathOwnRow : OpenClaim := { program := "ytecimagjeelgbaadoor", sum := "05717f43011a1c8894a4bbd1df18c15ac1490361183c8103377a8647de5e5c34", func := "chantry/chantrylaw15.PathOwn", spec := "pathOwn", inPlace := ["internal/abi.NoEscape"], unfollowed := true, recurses := true, named := ["math/bits.deBruijn32tab"], apart := false, laid := [("math/bits.deBruijn32tab", laid_math_bits_deBruijn32tab)] }
def PathOwnSaid : Prop := pathOwnRow.holds Tryd.pinned (OpenSpec.ofChange pathOwnSpec)

/-- ITS FALSE NEIGHBOUR: 'it returns false'. Refute it at one input. -/
def pathOwnWrong : ChangeSpec := { name := "pathOwn", fn := fun _ => fun
  | [d1, d2] => { results := [.lit (.bool false)], args := [d1, d2] }
  | _ => none }
def PathOwnWrongFalsely : Prop := pathOwnRow.holds Tryd.pinned (OpenSpec.ofChange pathOwnWrong)

/-- 'chantrylaw15.PathNothing': WHATEVER THE INPUT: true; the input reads as it did. -/
def pathNothingSpec : ChangeSpec := { name := "pathNothing", fn := fun _ => fun
  | [d1, d2, d3] => { results := [.lit (.bool true)], args := [d1, d2, d3] }
  | _ => none }
def pathNothingRow : OpenClaim := { program := "ytecimagjeelgbaadoor", sum := "05717f43011a1c8894a4bbd1df18c15ac1490361183c8103377a8647de5e5c34", func := "chantry/chantrylaw15.PathNothing", spec := "pathNothing", inPlace := ["internal/abi.NoEscape"], unfollowed := true, recurses := true, named := ["math/bits.deBruijn32tab"], apart := false, laid := [("math/bits.deBruijn32tab", laid_math_bits_deBruijn32tab)] }
def PathNothingSaid : Prop := pathNothingRow.holds Tryd.pinned (OpenSpec.ofChange pathNothingSpec)

/-- ITS FALSE NEIGHBOUR: 'it returns false'. Refute it at one input. -/
def pathNothingWrong : ChangeSpec := { name := "pathNothing", fn := fun _ => fun
  | [d1, d2, d3] => { results := [.lit (.bool false)], args := [d1, d2, d3] }
  | _ => none }
def PathNothingWrongFalsely : Prop := pathNothingRow.holds Tryd.pinned (OpenSpec.ofChange pathNothingWrong)

/- THE SECOND FORM. 'bulk': how many values and letters a reading holds, each counted each time it is reached (what is shared counts as often as it is met; a slice's spare places count too). A statement '..UptoSaid' is the law's where the arguments, and the package variables that the reading takes, are together of bulk at most 1048576: NARROWER than '..Said'. Prove '..Said' where nothing that the law and all that it calls make is longer than what came in: it says more and counts as full. Else prove '..UptoSaid'. A law counts once. -/
mutual
def uptoBulk {H : Type} : DataW H → Nat
  | .lit (.string bytes) => bytes.length + 1
  | .lit _ => 1
  | .nil => 1
  | .ptr d => uptoBulk d + 1
  | .slice elems spare => uptoBulkAll elems + uptoBulkAll spare + 1
  | .agg parts => uptoBulkAll parts + 1
  | .iface _ d => uptoBulk d + 1
  | .map entries => uptoBulkEntries entries + 1
  | .held _ => 1
def uptoBulkAll {H : Type} : List (DataW H) → Nat
  | [] => 0
  | d :: r => uptoBulk d + uptoBulkAll r
def uptoBulkEntries {H : Type} : List (Lit × DataW H) → Nat
  | [] => 0
  | x :: r => uptoBulkEntry x + uptoBulkEntries r
def uptoBulkEntry {H : Type} : Lit × DataW H → Nat
  | (.string bytes, d) => bytes.length + uptoBulk d + 1
  | (_, d) => uptoBulk d + 1
 end
def uptoSmall : (H : Type) → List (DataW H) → Bool := fun _ ds => decide (uptoBulkAll ds ≤ 1048576)
def OpenSpec.upto (s : _root_.Go.ChangeSpec) : _root_.Go.OpenSpec := { _root_.Go.OpenSpec.ofChange s with cond := some uptoSmall }

/-- 'chantrylaw15.PathRekeys', WHERE WHAT IT READS IS OF BULK AT MOST 1048576: true; the input reads as it did. -/
def pathRekeysUptoRow : OpenClaim := { program := "ytecimagjeelgbaadoor", sum := "05717f43011a1c8894a4bbd1df18c15ac1490361183c8103377a8647de5e5c34", func := "chantry/chantrylaw15.PathRekeys", spec := "pathRekeys", inPlace := ["internal/abi.NoEscape"], unfollowed := true, recurses := true, named := ["math/bits.deBruijn32tab"], apart := false, laid := [("math/bits.deBruijn32tab", laid_math_bits_deBruijn32tab)], narrowed := true }
def PathRekeysUptoSaid : Prop := pathRekeysUptoRow.holds Tryd.pinned (OpenSpec.upto pathRekeysSpec)

/-- 'chantrylaw15.PathMembers', WHERE WHAT IT READS IS OF BULK AT MOST 1048576: true; the input reads as it did. -/
def pathMembersUptoRow : OpenClaim := { program := "ytecimagjeelgbaadoor", sum := "05717f43011a1c8894a4bbd1df18c15ac1490361183c8103377a8647de5e5c34", func := "chantry/chantrylaw15.PathMembers", spec := "pathMembers", inPlace := ["internal/abi.NoEscape"], unfollowed := true, recurses := true, named := ["math/bits.deBruijn32tab"], apart := false, laid := [("math/bits.deBruijn32tab", laid_math_bits_deBruijn32tab)], narrowed := true }
def PathMembersUptoSaid : Prop := pathMembersUptoRow.holds Tryd.pinned (OpenSpec.upto pathMembersSpec)

/-- 'chantrylaw15.PathChain', WHERE WHAT IT READS IS OF BULK AT MOST 1048576: true; the input reads as it did. -/
def pathChainUptoRow : OpenClaim := { program := "ytecimagjeelgbaadoor", sum := "05717f43011a1c8894a4bbd1df18c15ac1490361183c8103377a8647de5e5c34", func := "chantry/chantrylaw15.PathChain", spec := "pathChain", inPlace := ["internal/abi.NoEscape"], unfollowed := true, recurses := true, named := ["math/bits.deBruijn32tab"], apart := false, laid := [("math/bits.deBruijn32tab", laid_math_bits_deBruijn32tab)], narrowed := true }
def PathChainUptoSaid : Prop := pathChainUptoRow.holds Tryd.pinned (OpenSpec.upto pathChainSpec)

/-- 'chantrylaw15.PathOwn', WHERE WHAT IT READS IS OF BULK AT MOST 1048576: true; the input reads as it did. -/
def pathOwnUptoRow : OpenClaim := { program := "ytecimagjeelgbaadoor", sum := "05717f43011a1c8894a4bbd1df18c15ac1490361183c8103377a8647de5e5c34", func := "chantry/chantrylaw15.PathOwn", spec := "pathOwn", inPlace := ["internal/abi.NoEscape"], unfollowed := true, recurses := true, named := ["math/bits.deBruijn32tab"], apart := false, laid := [("math/bits.deBruijn32tab", laid_math_bits_deBruijn32tab)], narrowed := true }
def PathOwnUptoSaid : Prop := pathOwnUptoRow.holds Tryd.pinned (OpenSpec.upto pathOwnSpec)

/-- 'chantrylaw15.PathNothing', WHERE WHAT IT READS IS OF BULK AT MOST 1048576: true; the input reads as it did. -/
def pathNothingUptoRow : OpenClaim := { program := "ytecimagjeelgbaadoor", sum := "05717f43011a1c8894a4bbd1df18c15ac1490361183c8103377a8647de5e5c34", func := "chantry/chantrylaw15.PathNothing", spec := "pathNothing", inPlace := ["internal/abi.NoEscape"], unfollowed := true, recurses := true, named := ["math/bits.deBruijn32tab"], apart := false, laid := [("math/bits.deBruijn32tab", laid_math_bits_deBruijn32tab)], narrowed := true }
def PathNothingUptoSaid : Prop := pathNothingUptoRow.holds Tryd.pinned (OpenSpec.upto pathNothingSpec)

end Rows
end Go.Proofs.YtecimagjeelgbaaDoor
