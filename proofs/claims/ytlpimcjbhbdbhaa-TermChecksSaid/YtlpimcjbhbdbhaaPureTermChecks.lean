/- TermChecks: for every text the program's Parts, Subs and Check answer what the reference answers. No condition. -/
import Derived.Test.YtlpimcjbhbdbhaaEv03c
import Derived.Test.YtlpimcjbhbdbhaaPrx3
set_option linter.unusedVariables false
namespace Go.Proofs.Ytlpimcjbhbdbhaa.Pure
open Go.RowKit Go.Proofs.Ytlpimcjbhbdbhaa.Pr Go.Proofs.YtlpimcjbhbdbhaaW.PrintWords Go.Proofs.YtlpimcjbhbdbhaaW.PrintLast Go.Proofs.Ytlpimcjbhbdbhaa.Ev03 Go.Proofs.Ytlpimcjbhbdbhaa.TT

theorem TermChecks : chantrylaw03_TermChecks.Pure := by
  intro a0 _
  refine ⟨6000, ?_⟩
  unfold chantrylaw03_TermChecks.f
  rw [alive_spec, Option.bind_some, if_pos rfl]
  by_cases h : (a0.size : Int) > 2100
  · rw [if_pos h]
  · have hs := subs_small a0
    have hp := parts_small a0
    rw [if_neg h]
    simp only [term_Parts.f, term_Subs.f, term_subs.f, term_Check.f, Option.bind_some, ref_parts_spec 6000 (by omega), ref_subs_spec 6000 (by omega), check_spec 6000 (by omega)]
    rw [if_pos trivial, if_pos trivial, same_self 6000 _ (by omega) (by omega), Option.bind_some, if_pos rfl, if_pos trivial, same_self 6000 _ (by omega) (by omega), Option.bind_some, if_pos rfl]
    simp
end Go.Proofs.Ytlpimcjbhbdbhaa.Pure
