/- EpochOpens: what an epoch opens is what the reference's opens. No condition. -/
import Derived.Test.YtmdpkooiehlbcaaEv16b
import Derived.Test.YtmdpkooiehlbcaaPrxO
set_option linter.unusedVariables false
namespace Go.Proofs.Ytmdpkooiehlbcaa.Pure
open Go.RowKit Go.Proofs.Ytmdpkooiehlbcaa.Pr Go.Proofs.YtmdpkooiehlbcaaW.PrintWords Go.Proofs.YtmdpkooiehlbcaaW.PrintLast Go.Proofs.YtmdpkooiehlbcaaW.PrintMore Go.Proofs.Ytmdpkooiehlbcaa.TT Go.Proofs.Ytmdpkooiehlbcaa.Ev03 Go.Proofs.Ytmdpkooiehlbcaa.Ev16
theorem EpochOpens (v : Int) (key : ByteArray) (sv : Int) (s : ByteArray) : ∃ k, chantrylaw16_EpochOpens.f k v key sv s = some true := by
  refine ⟨5000, ?_⟩
  have hj : ∀ b, chantrylaw16_EpochOpens.j0 5000 b v key sv s = some true := by
    intro b
    simp only [chantrylaw16_EpochOpens.j0]
    by_cases h : b = true
    · rw [if_pos h]
    · rw [if_neg h, open16_spec, Option.bind_some, ref_open16_spec _ (by omega), Option.bind_some, if_pos rfl, beq_self_eq_true]
  unfold chantrylaw16_EpochOpens.f
  rw [alive16, Option.bind_some, if_pos rfl, hj, hj]
  split <;> rfl
end Go.Proofs.Ytmdpkooiehlbcaa.Pure
