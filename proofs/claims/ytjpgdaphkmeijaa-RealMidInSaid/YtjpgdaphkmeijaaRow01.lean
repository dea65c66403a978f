/- A whole number of 64 bits without sign, as a natural number. -/
import Derived.Test.YtjpgdaphkmeijaaAlive01
set_option linter.unusedVariables false
namespace Go.Proofs.Ytjpgdaphkmeijaa.Row
open Go.RowKit
theorem nat64 {a : Int} (h : (Lit.int .u64 a).wf = true) : ∃ n : Nat, a = (n : Int) ∧ n < 18446744073709551616 := by
  simp [Lit.wf, IntKind.min, IntKind.max, IntKind.signed, IntKind.bits] at h
  exact ⟨a.toNat, by omega, by omega⟩
theorem true1 {w : World} {e : Ending} {w' : World} (h : Rl.True1 w e w') : e = .returned (.bool true) ∧ RowKit.Below w.heap.size w w' := h
end Go.Proofs.Ytjpgdaphkmeijaa.Row
