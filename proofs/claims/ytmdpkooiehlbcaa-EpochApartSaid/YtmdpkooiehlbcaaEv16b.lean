/- The law's own 'alive' of layer 16 is true. -/
import Derived.Test.YtmdpkooiehlbcaaEv16
import Derived.Test.YtmdpkooiehlbcaaPrx5
set_option linter.unusedVariables false
namespace Go.Proofs.Ytmdpkooiehlbcaa.Ev16
open Go.RowKit Go.Proofs.Ytmdpkooiehlbcaa.Pr Go.Proofs.YtmdpkooiehlbcaaW.PrintWords Go.Proofs.YtmdpkooiehlbcaaW.PrintLast Go.Proofs.YtmdpkooiehlbcaaW.PrintMore Go.Proofs.Ytmdpkooiehlbcaa.TT Go.Proofs.Ytmdpkooiehlbcaa.Ev03
theorem alive16 : chantrylaw16_alive.f = some true := by
  unfold chantrylaw16_alive.f
  rw [nonce_spec 1 (by decide) (by decide)]
  simp only [Option.bind_some, new_spec, seal_spec, open16_spec, right_spec]
  decide +kernel
end Go.Proofs.Ytmdpkooiehlbcaa.Ev16
