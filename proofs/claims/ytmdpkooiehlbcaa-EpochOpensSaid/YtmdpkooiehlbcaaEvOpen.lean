/- The reference's Open. -/
import Derived.Test.YtmdpkooiehlbcaaEv03b
import Derived.Test.YtmdpkooiehlbcaaPrx9
set_option linter.unusedVariables false
set_option linter.unusedSimpArgs false
namespace Go.Proofs.Ytmdpkooiehlbcaa.Ev03
open Go.RowKit Go.Proofs.Ytmdpkooiehlbcaa.Pr Go.Proofs.YtmdpkooiehlbcaaW.PrintWords Go.Proofs.YtmdpkooiehlbcaaW.PrintLast Go.Proofs.YtmdpkooiehlbcaaW.PrintMore Go.Proofs.Ytmdpkooiehlbcaa.TT
theorem ref_open_spec (k : Nat) (hk : 4000 ≤ k) (key s : ByteArray) : chantryref03_Open.f k key s = some (openOf key s) := by
  unfold chantryref03_Open.f
  rw [check_spec k (by omega), Option.bind_some]
  by_cases h : check key = 0
  · rw [if_pos h, ref_parts_spec k (by omega), Option.bind_some]
    exact open_parts key s h
  · rw [if_neg h]
    unfold openOf
    rw [if_neg h]
end Go.Proofs.Ytmdpkooiehlbcaa.Ev03
