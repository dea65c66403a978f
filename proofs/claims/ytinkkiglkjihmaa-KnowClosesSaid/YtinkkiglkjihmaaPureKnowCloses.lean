/- KnowCloses: the plain law. -/
import Derived.Test.YtinkkiglkjihmaaLw04
import Derived.Test.YtinkkiglkjihmaaEv04c
import Derived.Test.YtinkkiglkjihmaaPrxCloses
set_option linter.unusedVariables false
set_option linter.unusedSimpArgs false
namespace Go.Proofs.Ytinkkiglkjihmaa.Pure
open Go.RowKit Go.Proofs.Ytinkkiglkjihmaa.Pr Go.Proofs.YtinkkiglkjihmaaW.PrintWords Go.Proofs.YtinkkiglkjihmaaW.PrintLast Go.Proofs.YtinkkiglkjihmaaW.PrintMore Go.Proofs.Ytinkkiglkjihmaa.TT Go.Proofs.Ytinkkiglkjihmaa.Ev03 Go.Proofs.Ytinkkiglkjihmaa.Kw Go.Proofs.Ytinkkiglkjihmaa.Ev04

theorem known_len {l : List ByteArray} (h : l.length ≤ 20) : (knownOf l).1.length ≤ 40000 := by
  unfold knownOf
  by_cases h1 : l.length > 200
  · omega
  · rw [if_neg h1]
    by_cases h2 : errOf l = 0
    · rw [if_pos h2]
      have := knL_small (checkL_ok.2 ⟨by omega, h2⟩) 20 h
      simpa using this
    · rw [if_neg h2]; simp
theorem closes_t (k : Nat) (l : List ByteArray) (a : ByteArray) : chantrylaw04_KnowCloses.j0 (k + 1) l a true = some true := by
  simp only [chantrylaw04_KnowCloses.j0]
  rw [if_pos trivial]
theorem KnowCloses (l : List ByteArray) (hl : l.length ≤ maxLen) (a : ByteArray) : ∃ k, chantrylaw04_KnowCloses.f k l a = some true := by
  obtain ⟨K1, b, f1, f2⟩ := few_spec l hl
  obtain ⟨K2, h2⟩ := ref_known l
  obtain ⟨K3, h3⟩ := ref_derives l a
  obtain ⟨n, hn⟩ : ∃ n, n = K1 + K2 + K3 + 50000 := ⟨_, rfl⟩
  refine ⟨n + 1, ?_⟩
  unfold chantrylaw04_KnowCloses.f
  rw [alive_spec, Option.bind_some, if_pos rfl, f1 _ (by omega), Option.bind_some]
  cases b with
  | false => rw [if_neg (by simp)]; exact closes_t n l a
  | true =>
    have hkl := known_len (f2 rfl)
    rw [if_pos rfl]
    by_cases hs : (a.size : Int) > 400
    · rw [decide_eq_true hs]; exact closes_t n l a
    · rw [decide_eq_false hs]
      simp only [chantrylaw04_KnowCloses.j0]
      rw [if_neg (by simp)]
      simp only [know_Known.f, know_Derives.f, Option.bind_some]
      rw [h2 _ (by omega), Option.bind_some, h3 _ (by omega), Option.bind_some, same_self _ _ (by omega) (by omega), Option.bind_some, if_pos rfl, if_pos rfl]
      simp
end Go.Proofs.Ytinkkiglkjihmaa.Pure
