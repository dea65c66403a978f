/- LinkTags, the plain law. -/
import Derived.Test.YtimfhdpgkoonaaaAl06
import Derived.Test.YtimfhdpgkoonaaaPrxTags
set_option linter.unusedVariables false
namespace Go.Proofs.Ytimfhdpgkoonaaa.Pure
open Go.RowKit Go.Proofs.Ytimfhdpgkoonaaa.Pr Go.Proofs.YtimfhdpgkoonaaaW.PrintWords Go.Proofs.YtimfhdpgkoonaaaW.PrintLast Go.Proofs.Ytimfhdpgkoonaaa.TT Go.Proofs.Ytimfhdpgkoonaaa.Ev03 Go.Proofs.Ytimfhdpgkoonaaa.L06 Go.Proofs.Ytimfhdpgkoonaaa.Iter
theorem LinkTags (a0 : ByteArray) (b0 b1 b2 : Int) (l : List Int) (tg a2 : ByteArray) (h0 : 0 ≤ b2) (h1 : b2 < 4294967296) : chantrylaw06_LinkTags.f 6000 a0 b0 b1 b2 l tg a2 = some true := by
  unfold chantrylaw06_LinkTags.f
  rw [alive06 6000 (by decide), Option.bind_some, if_pos rfl]
  have hj1 : chantrylaw06_LinkTags.j0 6000 a0 a2 true b0 b1 b2 l tg = some true := by
    rw [show (6000 : Nat) = 5999 + 1 from rfl]; simp only [chantrylaw06_LinkTags.j0]; rw [if_pos trivial]
  have hj0 : chantrylaw06_LinkTags.j0 6000 a0 a2 false b0 b1 b2 l tg = some true := by
    rw [show (6000 : Nat) = 5999 + 1 from rfl]; simp only [chantrylaw06_LinkTags.j0]
    rw [if_neg (by decide), key_spec, Option.bind_some, ref_key_spec _ (by decide), Option.bind_some, tag_spec, Option.bind_some, ref_tag_spec _ (by decide) _ _ _ _ _ _ h0 h1, Option.bind_some,
      if_pos rfl, if_pos rfl, if_pos rfl, beq_self_eq_true]
  have hj : ∀ b, chantrylaw06_LinkTags.j0 6000 a0 a2 b b0 b1 b2 l tg = some true := by intro b; cases b; exact hj0; exact hj1
  obtain ⟨q, hq⟩ : ∃ q, chantrylaw06_few.f b0 b1 b2 l tg = some q := by
    unfold chantrylaw06_few.f
    split
    · exact ⟨_, rfl⟩
    · exact ⟨_, rfl⟩
  rw [hq, Option.bind_some]
  split
  · split
    · exact hj _
    · exact hj _
  · exact hj _
end Go.Proofs.Ytimfhdpgkoonaaa.Pure
