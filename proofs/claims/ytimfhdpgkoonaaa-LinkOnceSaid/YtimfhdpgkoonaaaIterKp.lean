/- What a round of a loop over an iterator must keep: two blocks. -/
import Derived.RangeFuncNested
import Derived.RangeFuncBound
import Derived.RangeFuncCalls
import Derived.RangeFuncLeaves
import Derived.Shelf.Abstract
import Derived.Shelf.RegionOpen
import Derived.WalkKit
import Derived.OwnWalkIn
import Derived.TacticsInMore
import Derived.LoopNIn
import Derived.LoopIn
import Derived.BigRegionIn
import Derived.Test.YtimfhdpgkoonaaaMake
set_option linter.unusedVariables false
set_option linter.unusedSimpArgs false
namespace Go.Proofs.Ytimfhdpgkoonaaa.Iter
open Go.RowKit Go.Shelf Go.Proofs.YtimfhdpgkoonaaaW.PrintWords

/-- What a round must keep: two blocks. -/
def Kp2 (b c : Nat) (A B : World) : Prop := B.heap[b]? = A.heap[b]? ∧ B.heap[c]? = A.heap[c]?
theorem Kp2.refl (b c : Nat) (A : World) : Kp2 b c A A := ⟨rfl, rfl⟩
theorem Kp2.trans {b c : Nat} {A B C : World} (h : Kp2 b c A B) (k : Kp2 b c B C) : Kp2 b c A C := ⟨k.1.trans h.1, k.2.trans h.2⟩
theorem Kp2.below {b c n : Nat} {A B : World} (h : Below n A B) (hb : b < n) (hc : c < n) : Kp2 b c A B := ⟨h.block b hb, h.block c hc⟩
theorem Kp2.cell1 {b c : Nat} {A B : World} (h : Kp2 b c A B) (i : Nat) : B.cell? ⟨b, i, none⟩ = A.cell? ⟨b, i, none⟩ := World.cell?_of_block (a := ⟨b, i, none⟩) h.1
theorem Kp2.cell2 {b c : Nat} {A B : World} (h : Kp2 b c A B) (i : Nat) : B.cell? ⟨c, i, none⟩ = A.cell? ⟨c, i, none⟩ := World.cell?_of_block (a := ⟨c, i, none⟩) h.2
end Go.Proofs.Ytimfhdpgkoonaaa.Iter
