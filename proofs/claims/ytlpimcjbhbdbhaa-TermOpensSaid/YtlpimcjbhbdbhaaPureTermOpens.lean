/- TermOpens: for every two texts the program's Open answers what the reference's answers. No condition. -/
import Derived.Test.YtlpimcjbhbdbhaaEv03c
import Derived.Test.YtlpimcjbhbdbhaaPrx5
set_option linter.unusedVariables false
namespace Go.Proofs.Ytlpimcjbhbdbhaa.Pure
open Go.RowKit Go.Proofs.Ytlpimcjbhbdbhaa.Pr Go.Proofs.YtlpimcjbhbdbhaaW.PrintWords Go.Proofs.YtlpimcjbhbdbhaaW.PrintLast Go.Proofs.Ytlpimcjbhbdbhaa.Ev03 Go.Proofs.Ytlpimcjbhbdbhaa.TT

theorem ref_open_spec (k : Nat) (hk : 4000 ≤ k) (key s : ByteArray) : chantryref03_Open.f k key s = some (openOf key s) := by
  unfold chantryref03_Open.f
  rw [check_spec k (by omega), Option.bind_some]
  by_cases h : check key = 0
  · rw [if_pos h, ref_parts_spec k (by omega), Option.bind_some]
    exact open_parts key s h
  · rw [if_neg h]
    unfold openOf
    rw [if_neg h]
theorem TermOpens : chantrylaw03_TermOpens.Pure := by
  intro a0 a1 _ _
  refine ⟨6000, ?_⟩
  have key : ∀ b : Bool, chantrylaw03_TermOpens.j0 6000 a0 a1 b = some true := by
    intro b
    simp only [chantrylaw03_TermOpens.j0]
    by_cases hb : b = true
    · rw [if_pos hb]
    · rw [if_neg hb, open_spec, Option.bind_some, ref_open_spec _ (by omega), Option.bind_some, if_pos rfl]
      simp
  unfold chantrylaw03_TermOpens.f
  rw [alive_spec, Option.bind_some, if_pos rfl, key, key]
  split <;> rfl
end Go.Proofs.Ytlpimcjbhbdbhaa.Pure
