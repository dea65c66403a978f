/- LinkMine, the plain law: a letter is taken by the one alone to whom it is. -/
import Derived.Test.YtimfhdpgkoonaaaAl06
import Derived.Test.YtimfhdpgkoonaaaPrxMine
set_option linter.unusedVariables false
namespace Go.Proofs.Ytimfhdpgkoonaaa.Pure
open Go.RowKit Go.Proofs.Ytimfhdpgkoonaaa.Pr Go.Proofs.YtimfhdpgkoonaaaW.PrintWords Go.Proofs.YtimfhdpgkoonaaaW.PrintLast Go.Proofs.Ytimfhdpgkoonaaa.TT Go.Proofs.Ytimfhdpgkoonaaa.Ev03 Go.Proofs.Ytimfhdpgkoonaaa.L06 Go.Proofs.Ytimfhdpgkoonaaa.Iter
theorem LinkMine (key : ByteArray) (nx top came a b sq : Int) (l : List Int) (tg : ByteArray) (me : Int) (h0 : 0 ≤ sq) (h1 : sq < 4294967296) : chantrylaw06_LinkMine.f 6000 key nx top came a b sq l tg me = some true := by
  unfold chantrylaw06_LinkMine.f
  rw [alive06 6000 (by decide), Option.bind_some, if_pos rfl]
  have hj1 : chantrylaw06_LinkMine.j0 6000 me true key nx top came a b sq l tg = some true := by
    rw [show (6000 : Nat) = 5999 + 1 from rfl]; simp only [chantrylaw06_LinkMine.j0]; rw [if_pos trivial]
  have hj0 : chantrylaw06_LinkMine.j0 6000 me false key nx top came a b sq l tg = some true := by
    rw [show (6000 : Nat) = 5999 + 1 from rfl]; simp only [chantrylaw06_LinkMine.j0]
    rw [if_neg (by decide), ref_tag_spec _ (by decide) _ _ _ _ _ _ h0 h1, Option.bind_some, accept_spec _ (by decide), Option.bind_some]
    by_cases hC : b = me ∧ twoB a b = true ∧ sq ≠ 0
    · obtain ⟨rfl, h2, h3⟩ := hC
      have hab : ¬ b = a := by
        rintro rfl
        unfold twoB at h2
        simp at h2
      split
      · rw [if_pos rfl]
        first | done | (first | rw [if_neg hab] | skip; rw [if_pos (by omega)])
      · first | done | rfl | (rw [if_pos rfl]; first | done | rfl | rw [if_neg hab])
    · have hE : acceptOf key nx top came me a b sq l (tagOf key a b sq l).1 = (key, nx, top, came, 2) := by unfold acceptOf; rw [if_neg hC]
      rw [hE]
      simp only []
      rw [if_neg (by decide)]
      split
      · split
        · simp
        · rfl
      · simp
  have hj : ∀ q, chantrylaw06_LinkMine.j0 6000 me q key nx top came a b sq l tg = some true := by intro q; cases q; exact hj0; exact hj1
  obtain ⟨q, hq⟩ : ∃ q, chantrylaw06_few.f a b sq l tg = some q := by
    unfold chantrylaw06_few.f
    split
    · exact ⟨_, rfl⟩
    · exact ⟨_, rfl⟩
  rw [hq, Option.bind_some]
  split
  · exact hj _
  · exact hj _
end Go.Proofs.Ytimfhdpgkoonaaa.Pure
