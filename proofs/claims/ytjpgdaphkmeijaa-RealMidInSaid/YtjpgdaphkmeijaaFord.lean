/- How two numbers of 64 bits stand, by their bits: as the numbers of their rungs do. -/
import Ieee.Arith
import GoSem.Core.Float
set_option linter.unusedVariables false
set_option linter.unusedSimpArgs false
namespace Go.Proofs.Ytjpgdaphkmeijaa.Fo
open Ieee

/-- The magnitude of a rung, in units of the least one. -/
def mag (r : Nat) : Nat := if r < 4503599627370496 then r else (4503599627370496 + r % 4503599627370496) * 2 ^ (r / 4503599627370496 - 1)

theorem mag_succ (r : Nat) : mag r < mag (r + 1) := by
  unfold mag
  by_cases h1 : r + 1 < 4503599627370496
  · rw [if_pos (by omega), if_pos h1]; omega
  · by_cases h2 : r < 4503599627370496
    · rw [if_pos h2, if_neg h1]
      have e1 : (r + 1) % 4503599627370496 = 0 := by omega
      have e2 : (r + 1) / 4503599627370496 - 1 = 0 := by omega
      rw [e1, e2]; simp; omega
    · rw [if_neg h2, if_neg h1]
      by_cases h3 : r % 4503599627370496 + 1 < 4503599627370496
      · have e1 : (r + 1) % 4503599627370496 = r % 4503599627370496 + 1 := by omega
        have e2 : (r + 1) / 4503599627370496 = r / 4503599627370496 := by omega
        rw [e1, e2]
        exact Nat.mul_lt_mul_of_pos_right (by omega) (Nat.two_pow_pos _)
      · have e1 : (r + 1) % 4503599627370496 = 0 := by omega
        have e2 : (r + 1) / 4503599627370496 - 1 = (r / 4503599627370496 - 1) + 1 := by omega
        rw [e1, e2, Nat.pow_succ]
        have hp := Nat.two_pow_pos (r / 4503599627370496 - 1)
        generalize 2 ^ (r / 4503599627370496 - 1) = p at hp ⊢
        have : r % 4503599627370496 = 4503599627370495 := by omega
        rw [this]; omega
theorem mag_add (r d : Nat) : mag r < mag (r + d + 1) := by
  induction d with
  | zero => exact mag_succ r
  | succ d ih => exact Nat.lt_trans ih (mag_succ _)
theorem mag_lt {r s : Nat} (h : r < s) : mag r < mag s := by
  have := mag_add r (s - r - 1)
  rwa [show r + (s - r - 1) + 1 = s by omega] at this
theorem mag_iff (r s : Nat) : mag r < mag s ↔ r < s := by
  refine ⟨fun h => ?_, mag_lt⟩
  rcases Nat.lt_trichotomy r s with h1 | h1 | h1
  · exact h1
  · subst h1; omega
  · have := mag_lt h1; omega
theorem mag_zero : mag 0 = 0 := by unfold mag; rw [if_pos (by omega)]

/-- The rung of a word with its sign. -/
def sr (a : Nat) : Int := if a < 9223372036854775808 then (a : Int) else -((a : Int) - 9223372036854775808)
theorem cmp_int (x y x' y' : Int) (h1 : x < y ↔ x' < y') (h2 : y < x ↔ y' < x') : compare x y = compare x' y' := by
  simp only [compare, compareOfLessAndEq]
  by_cases c1 : x < y
  · rw [if_pos c1, if_pos (h1.1 c1)]
  · rw [if_neg c1, if_neg (fun h => c1 (h1.2 h))]
    by_cases c2 : x = y
    · rw [if_pos c2, if_pos (by have := fun h => c1 (h1.2 h); have := fun h => (by omega : ¬ y < x) (h2.2 h); omega)]
    · rw [if_neg c2, if_neg (by have := h2.1 (by omega); omega)]

theorem cmp_lt {x y : Int} (h : x < y) : compare x y = .lt := by simp only [compare, compareOfLessAndEq]; rw [if_pos h]
theorem cmp_eq (x : Int) : compare x x = .eq := by unfold compare; show compareOfLessAndEq x x = _; unfold compareOfLessAndEq; rw [if_neg (by omega), if_pos rfl]
theorem cmp_gt {x y : Int} (h : y < x) : compare x y = .gt := by simp only [compare, compareOfLessAndEq]; rw [if_neg (by omega), if_neg (by omega)]

def isN (a : Nat) : Prop := 9218868437227405312 < a % 9223372036854775808
instance (a : Nat) : Decidable (isN a) := by unfold isN; infer_instance

theorem sw : double.signWeight = 9223372036854775808 := rfl
theorem bn : double.binade = 4503599627370496 := rfl
theorem ir : double.infRung = 9218868437227405312 := rfl

/-- What a word reads as: its sign, and where it is finite its digits and their place. -/
theorem read_fin (a : Nat) (ha : a < 18446744073709551616) (h : a % 9223372036854775808 < 9218868437227405312) :
    ∃ m e, double.read a = .number (decide (9223372036854775808 ≤ a)) m (double.leastPlace + (e : Nat)) ∧ m * 2 ^ e = mag (a % 9223372036854775808) := by
  have hs : (a / 9223372036854775808 % 2 == 1) = decide (9223372036854775808 ≤ a) := by
    rw [Bool.eq_iff_iff]; simp; omega
  unfold Format.read
  rw [sw, bn, ir]
  dsimp only
  rw [hs]
  by_cases h1 : a % 9223372036854775808 < 4503599627370496
  · rw [if_pos h1]
    exact ⟨a % 9223372036854775808, 0, by simp, by unfold mag; rw [if_pos h1]; simp⟩
  · rw [if_neg h1, if_pos h]
    exact ⟨_, _, rfl, by unfold mag; rw [if_neg h1]⟩
theorem read_inf (a : Nat) (ha : a < 18446744073709551616) (h : a % 9223372036854775808 = 9218868437227405312) :
    double.read a = .infinity (decide (9223372036854775808 ≤ a)) := by
  have hs : (a / 9223372036854775808 % 2 == 1) = decide (9223372036854775808 ≤ a) := by
    rw [Bool.eq_iff_iff]; simp; omega
  unfold Format.read
  rw [sw, bn, ir]
  dsimp only
  rw [hs, if_neg (by omega), if_neg (by omega), if_pos h]
theorem read_nan (a : Nat) (h : isN a) : ∃ s f, double.read a = .nan s f := by
  unfold isN at h
  unfold Format.read
  rw [sw, bn, ir]
  dsimp only
  rw [if_neg (by omega), if_neg (by omega), if_neg (by omega)]
  exact ⟨_, _, rfl⟩

theorem order_nan (a b : Nat) (h : isN a ∨ isN b) : double.order a b = none := by
  unfold Format.order
  rcases h with h | h
  · obtain ⟨s, f, e⟩ := read_nan a h
    rw [e]; rfl
  · obtain ⟨s, f, e⟩ := read_nan b h
    rw [e]; cases double.read a <;> rfl

theorem signed_mul (s : Bool) (m k C : Nat) (c : Nat) (h : m * 2 ^ k * C = c) : signed s m k * (C : Int) = if s then -(c : Int) else c := by
  unfold signed
  rw [Nat.shiftLeft_eq]
  cases s
  · simp only [Bool.false_eq_true, if_false]; rw [← h]; push_cast; rfl
  · simp only [if_true]; rw [← h]; push_cast; rw [Int.neg_mul]

theorem order_fin (a b : Nat) (ha : a < 18446744073709551616) (hb : b < 18446744073709551616) (h1 : ¬ isN a) (h2 : ¬ isN b) : double.order a b = some (compare (sr a) (sr b)) := by
  unfold isN at h1 h2
  unfold Format.order
  by_cases i1 : a % 9223372036854775808 = 9218868437227405312
  · rw [read_inf a ha i1]
    by_cases i2 : b % 9223372036854775808 = 9218868437227405312
    · rw [read_inf b hb i2]
      by_cases g1 : 9223372036854775808 ≤ a <;> by_cases g2 : 9223372036854775808 ≤ b
      · have : a = b := by omega
        subst this
        simp [Datum.order, g1, compare, compareOfLessAndEq]
      · simp only [Datum.order, decide_eq_true g1, decide_eq_false g2]
        exact congrArg some (cmp_lt (by unfold sr; split <;> split <;> omega)).symm
      · simp only [Datum.order, decide_eq_false g1, decide_eq_true g2]
        exact congrArg some (cmp_gt (by unfold sr; split <;> split <;> omega)).symm
      · have : a = b := by omega
        subst this
        simp [Datum.order, g1, compare, compareOfLessAndEq]
    · obtain ⟨m, e, hr, hm⟩ := read_fin b hb (by omega)
      rw [hr]
      by_cases g1 : 9223372036854775808 ≤ a
      · simp only [Datum.order, decide_eq_true g1, if_true]
        exact congrArg some (cmp_lt (by unfold sr; split <;> split <;> omega)).symm
      · simp only [Datum.order, decide_eq_false g1, Bool.false_eq_true, if_false]
        exact congrArg some (cmp_gt (by unfold sr; split <;> split <;> omega)).symm
  · obtain ⟨m, e, hr, hm⟩ := read_fin a ha (by omega)
    rw [hr]
    by_cases i2 : b % 9223372036854775808 = 9218868437227405312
    · rw [read_inf b hb i2]
      by_cases g2 : 9223372036854775808 ≤ b
      · simp only [Datum.order, decide_eq_true g2, if_true]
        exact congrArg some (cmp_gt (by unfold sr; split <;> split <;> omega)).symm
      · simp only [Datum.order, decide_eq_false g2, Bool.false_eq_true, if_false]
        exact congrArg some (cmp_lt (by unfold sr; split <;> split <;> omega)).symm
    · obtain ⟨m', e', hr', hm'⟩ := read_fin b hb (by omega)
      rw [hr']
      simp only [Datum.order]
      refine congrArg some ?_
      have q1 : (double.leastPlace + (e : Int) - min (double.leastPlace + (e : Int)) (double.leastPlace + (e' : Int))).toNat = e - min e e' := by omega
      have q2 : (double.leastPlace + (e' : Int) - min (double.leastPlace + (e : Int)) (double.leastPlace + (e' : Int))).toNat = e' - min e e' := by omega
      rw [q1, q2]
      have x1 := signed_mul (decide (9223372036854775808 ≤ a)) m (e - min e e') (2 ^ min e e') (mag (a % 9223372036854775808)) (by rw [Nat.mul_assoc, ← Nat.pow_add, Nat.sub_add_cancel (Nat.min_le_left _ _)]; exact hm)
      have x2 := signed_mul (decide (9223372036854775808 ≤ b)) m' (e' - min e e') (2 ^ min e e') (mag (b % 9223372036854775808)) (by rw [Nat.mul_assoc, ← Nat.pow_add, Nat.sub_add_cancel (Nat.min_le_right _ _)]; exact hm')
      have hC : (0 : Int) < ((2 ^ min e e' : Nat) : Int) := by have := Nat.two_pow_pos (min e e'); omega
      generalize ((2 ^ min e e' : Nat) : Int) = C at x1 x2 hC
      generalize signed (decide (9223372036854775808 ≤ a)) m (e - min e e') = X at x1 ⊢
      generalize signed (decide (9223372036854775808 ≤ b)) m' (e' - min e e') = Y at x2 ⊢
      have m1 := mag_iff (a % 9223372036854775808) (b % 9223372036854775808)
      have m2 := mag_iff (b % 9223372036854775808) (a % 9223372036854775808)
      have m3 := mag_iff 0 (a % 9223372036854775808)
      have m4 := mag_iff 0 (b % 9223372036854775808)
      rw [mag_zero] at m3 m4
      obtain ⟨A, hA⟩ : ∃ A, mag (a % 9223372036854775808) = A := ⟨_, rfl⟩
      obtain ⟨B, hB⟩ : ∃ B, mag (b % 9223372036854775808) = B := ⟨_, rfl⟩
      rw [hA] at x1 m1 m2 m3
      rw [hB] at x2 m1 m2 m4
      clear hA hB hm hm' hr hr' q1 q2
      refine cmp_int _ _ _ _ ?_ ?_
      · rw [← Int.mul_lt_mul_right hC, x1, x2]
        unfold sr
        simp only [decide_eq_true_eq]
        repeat' split
        all_goals omega
      · rw [← Int.mul_lt_mul_right hC, x1, x2]
        unfold sr
        simp only [decide_eq_true_eq]
        repeat' split
        all_goals omega
end Go.Proofs.Ytjpgdaphkmeijaa.Fo
