/- EpochMakes: keys and what is sealed are the reference's. No condition. -/
import Derived.Test.YtmdpkooiehlbcaaEv16b
import Derived.Test.YtmdpkooiehlbcaaPrx8
set_option linter.unusedVariables false
namespace Go.Proofs.Ytmdpkooiehlbcaa.Pure
open Go.RowKit Go.Proofs.Ytmdpkooiehlbcaa.Pr Go.Proofs.YtmdpkooiehlbcaaW.PrintWords Go.Proofs.YtmdpkooiehlbcaaW.PrintLast Go.Proofs.YtmdpkooiehlbcaaW.PrintMore Go.Proofs.Ytmdpkooiehlbcaa.TT Go.Proofs.Ytmdpkooiehlbcaa.Ev03 Go.Proofs.Ytmdpkooiehlbcaa.Ev16
theorem EpochMakes (a0 v : Int) (key text : ByteArray) : ∃ k, chantrylaw16_EpochMakes.f k a0 v key text = some true := by
  refine ⟨5000, ?_⟩
  have hj : ∀ b, chantrylaw16_EpochMakes.j0 5000 a0 text b v key = some true := by
    intro b
    simp only [chantrylaw16_EpochMakes.j0]
    by_cases h : b = true
    · rw [if_pos h]
    · rw [if_neg h, new_spec, Option.bind_some, ref_new_spec _ (by omega), Option.bind_some, seal_spec, Option.bind_some, ref_seal_spec _ (by omega), Option.bind_some, right_spec, Option.bind_some, ref_right_spec _ (by omega), Option.bind_some]
      simp
  unfold chantrylaw16_EpochMakes.f
  rw [alive16, Option.bind_some, if_pos rfl, hj, hj]
  split <;> rfl
end Go.Proofs.Ytmdpkooiehlbcaa.Pure
