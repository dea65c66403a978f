/- TermWhole: no good text begins with another good text that is shorter; what Make makes of two is as unlike as the two. No condition. -/
import Derived.Test.YtlpimcjbhbdbhaaEvMade
import Derived.Test.YtlpimcjbhbdbhaaPrx5
set_option linter.unusedVariables false
set_option linter.unusedSimpArgs false
namespace Go.Proofs.Ytlpimcjbhbdbhaa.Pure
open Go.RowKit Go.Proofs.Ytlpimcjbhbdbhaa.Pr Go.Proofs.YtlpimcjbhbdbhaaW.PrintWords Go.Proofs.YtlpimcjbhbdbhaaW.PrintLast Go.Proofs.Ytlpimcjbhbdbhaa.Ev03 Go.Proofs.Ytlpimcjbhbdbhaa.TT

theorem strOf_ne {a b : List UInt8} (h : a ≠ b) : strOf a ≠ strOf b := fun e => h (strOf_inj e)
theorem whole_j1 (k : Nat) (x0 x1 x2 : ByteArray) : chantrylaw03_TermWhole.j1 (k + 1) x0 x1 x2 false = some true := by
  simp only [chantrylaw03_TermWhole.j1]
  have e112 : term_Make.f 112 = fun l => some (makeOf 112 l) := rfl
  have e109 : term_Make.f 109 = fun l => some (makeOf 109 l) := rfl
  rw [if_neg (by decide), e112, e109]
  simp only [Option.bind_some]
  by_cases h1 : (makeOf 112 [x0, x1]).2 = 0
  · rw [if_pos h1]
    by_cases h2 : (makeOf 112 [x0, x2]).2 = 0
    · rw [if_pos h2]
      by_cases h3 : (makeOf 109 [x0, x1]).2 = 0
      · rw [if_pos h3]
        obtain ⟨_, _, _, _, m1⟩ := made_two h1
        obtain ⟨_, _, _, _, m2⟩ := made_two h2
        obtain ⟨_, _, _, _, m3⟩ := made_two h3
        rw [m1, m2, m3]
        have q : ((strOf (112 :: (x0.data.toList ++ x1.data.toList))).toList == (strOf (112 :: (x0.data.toList ++ x2.data.toList))).toList) = (x1.toList == x2.toList) := by
          rw [Bool.eq_iff_iff, beq_iff_eq, beq_iff_eq, toList_iff, toList_iff]
          constructor
          · intro e
            have := strOf_inj e
            simp only [List.cons.injEq, true_and, List.append_cancel_left_eq] at this
            exact ByteArray.ext (Array.ext' this)
          · rintro rfl; rfl
        rw [q, if_pos (by simp)]
        simp only [Option.some.injEq, bne_iff_ne, ne_eq, toList_iff]
        intro e
        have := strOf_inj e
        simp at this
      · rw [if_neg h3]
    · rw [if_neg h2]
  · rw [if_neg h1]
theorem whole_j0 (k : Nat) (x0 x1 x2 : ByteArray) (b : Bool) : chantrylaw03_TermWhole.j0 (k + 2) x0 x1 x2 b = some true := by
  simp only [chantrylaw03_TermWhole.j0]
  by_cases hb : b = true
  · rw [if_pos hb]
  rw [if_neg hb]
  simp only [term_Check.f, Option.bind_some]
  by_cases h0 : check x0 = 0
  · rw [if_pos h0]
    by_cases h1 : (x1.size : Int) > (x0.size : Int)
    · rw [if_pos h1, if_pos (by omega), if_pos (by omega), Int.toNat_natCast]
      by_cases h2 : (x1.extract 0 x0.size).toList = x0.toList
      · rw [if_pos h2]
        have h3 : (check x1 == 0) = false := by
          rw [beq_eq_false_iff_ne]
          intro h3
          have := whole h0 h3 (by omega) ((toList_iff _ _).1 h2)
          rw [this] at h1
          omega
        rw [h3]
        exact whole_j1 k x0 x1 x2
      · rw [if_neg h2]
        exact whole_j1 k x0 x1 x2
    · rw [if_neg h1]
      exact whole_j1 k x0 x1 x2
  · rw [if_neg h0]
    exact whole_j1 k x0 x1 x2
theorem TermWhole : chantrylaw03_TermWhole.Pure := by
  intro a0 a1 a2 _ _ _
  refine ⟨2, ?_⟩
  unfold chantrylaw03_TermWhole.f
  rw [alive_spec, Option.bind_some, if_pos rfl, whole_j0 0, whole_j0 0]
  split <;> (try rfl)
  split <;> rfl
end Go.Proofs.Ytlpimcjbhbdbhaa.Pure
