/- What the program's functions on numbers compute, told as the document tells it: by codes. -/
import Derived.Test.YtjpgdaphkmeijaaFord
set_option linter.unusedVariables false
set_option linter.unusedSimpArgs false
namespace Go.Proofs.Ytjpgdaphkmeijaa.Rl

/-- How two numbers stand, by their bits. -/
def ford (a b : Nat) : Option Ordering := FloatKind.f64.format.order a b
def fNaN (a : Nat) : Bool := ford a a != some .eq
def canonF (a : Nat) : Nat := if fNaN a then 9221120237041090561 else if ford a 0 == some .eq then 0 else a
def cmpF (a b : Nat) : Int := if fNaN a then (if fNaN b then 0 else -1) else if fNaN b then 1 else if ford a b == some .lt then -1 else if ford a b == some .gt then 1 else 0
def orderF (a b : Nat) : Int := if fNaN a || fNaN b then - cmpF a b else cmpF a b
def codeF (a : Nat) : Int := if canonF a < 9223372036854775808 then canonF a + 9223372036854775808 else 18446744073709551615 - canonF a
def clampF (x lo hi : Nat) : Nat := if orderF x lo < 0 then canonF lo else if orderF x hi > 0 then canonF hi else canonF x
def decF (c : Nat) : Nat := if c < 9223372036854775808 then 18446744073709551615 - c else c - 9223372036854775808
theorem canonF_lt (a : Nat) (ha : a < 18446744073709551616) : canonF a < 18446744073709551616 := by
  unfold canonF; repeat' split
  all_goals omega

/-- The document's words. -/
def canonR (b : Nat) : Nat := if b = 9223372036854775808 then 0 else if 9218868437227405312 < b % 9223372036854775808 then 9221120237041090561 else b
def codeR (b : Nat) : Nat := if 9223372036854775808 ≤ canonR b then 18446744073709551615 - canonR b else canonR b + 9223372036854775808
def orderR (a b : Nat) : Int := if codeR a < codeR b then -1 else if codeR b < codeR a then 1 else 0

theorem ford_nan {a b : Nat} (h : Fo.isN a ∨ Fo.isN b) : ford a b = none := Fo.order_nan a b h
theorem ford_fin {a b : Nat} (ha : a < 18446744073709551616) (hb : b < 18446744073709551616) (h1 : ¬ Fo.isN a) (h2 : ¬ Fo.isN b) : ford a b = some (compare (Fo.sr a) (Fo.sr b)) := Fo.order_fin a b ha hb h1 h2

open Fo (cmp_lt cmp_eq cmp_gt)

theorem fNaN_eq {a : Nat} (ha : a < 18446744073709551616) : fNaN a = decide (Fo.isN a) := by
  unfold fNaN
  by_cases h : Fo.isN a
  · rw [ford_nan (.inl h), decide_eq_true h]; rfl
  · rw [ford_fin ha ha h h, decide_eq_false h, cmp_eq]; rfl
theorem isN_zero : ¬ Fo.isN 0 := by unfold Fo.isN; omega
theorem canonF_eq {a : Nat} (ha : a < 18446744073709551616) : canonF a = canonR a := by
  unfold canonF canonR
  rw [fNaN_eq ha]
  by_cases h : Fo.isN a
  · rw [if_pos (by simpa using h)]
    unfold Fo.isN at h
    rw [if_neg (by omega), if_pos h]
  · rw [if_neg (by simpa using h), ford_fin ha (by omega) h isN_zero]
    unfold Fo.isN at h
    have hz : Fo.sr 0 = 0 := by unfold Fo.sr; rw [if_pos (by omega)]; rfl
    rw [hz]
    by_cases h0 : a = 9223372036854775808
    · subst h0
      rw [show Fo.sr 9223372036854775808 = 0 by unfold Fo.sr; rw [if_neg (by omega)]; rfl, cmp_eq, if_pos rfl]; rfl
    · rw [if_neg h0, if_neg h]
      by_cases h1 : a = 0
      · subst h1; rw [hz, cmp_eq]; rfl
      · rw [if_neg]
        intro hc
        have h3 : compare (Fo.sr a) 0 = .eq := by simpa using hc
        have : Fo.sr a ≠ 0 := by unfold Fo.sr; split <;> omega
        rcases Int.lt_trichotomy (Fo.sr a) 0 with g | g | g
        · rw [cmp_lt g] at h3; cases h3
        · exact this g
        · rw [cmp_gt g] at h3; cases h3
theorem canonR_lt {a : Nat} (ha : a < 18446744073709551616) : canonR a < 18446744073709551616 := by
  unfold canonR; repeat' split
  all_goals omega
theorem codeR_lt {a : Nat} (ha : a < 18446744073709551616) : codeR a < 18446744073709551616 := by
  have := canonR_lt ha
  unfold codeR; split <;> omega
theorem codeF_eq {a : Nat} (ha : a < 18446744073709551616) : codeF a = (codeR a : Nat) := by
  have := canonR_lt ha
  unfold codeF codeR
  rw [canonF_eq ha]
  split <;> split <;> omega
theorem canon_nan {a : Nat} (h : Fo.isN a) : canonR a = 9221120237041090561 := by
  unfold Fo.isN at h
  unfold canonR
  rw [if_neg (by omega), if_pos h]
theorem canon_fin {a : Nat} (h : ¬ Fo.isN a) : canonR a = if a = 9223372036854775808 then 0 else a := by
  unfold Fo.isN at h
  unfold canonR
  split
  · rfl
  · first | rfl | rw [if_neg h]
theorem code_nan {a : Nat} (h : Fo.isN a) : codeR a = 18444492273895866369 := by
  unfold codeR
  rw [canon_nan h]; rfl
theorem code_fin {a : Nat} (ha : a < 18446744073709551616) (h : ¬ Fo.isN a) : (Fo.sr a < 0 ∧ (codeR a : Int) = 9223372036854775807 + Fo.sr a ∨ 0 ≤ Fo.sr a ∧ (codeR a : Int) = 9223372036854775808 + Fo.sr a) ∧ codeR a < 18444492273895866369 := by
  have hc := canon_fin h
  unfold codeR Fo.sr
  rw [hc]
  unfold Fo.isN at h
  clear hc
  by_cases h0 : a = 9223372036854775808
  · subst h0; refine ⟨.inr ⟨by decide, by decide⟩, by decide⟩
  · rw [if_neg h0]
    split <;> split <;> omega
theorem orderF_eq {a b : Nat} (ha : a < 18446744073709551616) (hb : b < 18446744073709551616) : orderF a b = orderR a b := by
  unfold orderF cmpF orderR
  rw [fNaN_eq ha, fNaN_eq hb]
  by_cases h1 : Fo.isN a
  · have c1 := code_nan h1
    by_cases h2 : Fo.isN b
    · have c2 := code_nan h2
      simp [h1, h2, c1, c2]
    · have c2 := (code_fin hb h2).2
      simp only [h1, h2, c1, decide_true, decide_false, Bool.true_or, if_true, Bool.false_eq_true, if_false]
      rw [if_neg (by omega), if_pos c2]; rfl
  · have c1 := code_fin ha h1
    by_cases h2 : Fo.isN b
    · have c2 := code_nan h2
      simp only [h1, h2, c2, decide_true, decide_false, Bool.false_or, if_true, Bool.false_eq_true, if_false]
      rw [if_pos c1.2]
    · have c2 := code_fin hb h2
      simp only [h1, h2, decide_false, Bool.or_self, Bool.false_eq_true, if_false]
      rw [ford_fin ha hb h1 h2]
      rcases Int.lt_trichotomy (Fo.sr a) (Fo.sr b) with g | g | g
      · rw [cmp_lt g, if_pos (by decide), if_pos (by omega)]
      · rw [g, cmp_eq, if_neg (by decide), if_neg (by decide), if_neg (by omega), if_neg (by omega)]
      · rw [cmp_gt g, if_neg (by decide), if_pos (by decide), if_neg (by omega), if_pos (by omega)]
theorem orderR_range (a b : Nat) : -1 ≤ orderR a b ∧ orderR a b ≤ 1 := by unfold orderR; repeat' split <;> omega
theorem canonR_idem {a : Nat} (ha : a < 18446744073709551616) : canonR (canonR a) = canonR a := by
  unfold canonR; repeat' split
  all_goals omega
theorem codeR_canon {a : Nat} (ha : a < 18446744073709551616) : codeR (canonR a) = codeR a := by
  unfold codeR; rw [canonR_idem ha]
/-- Codes are one where the numbers' kinds are one. -/
theorem codeR_inj {a b : Nat} (ha : a < 18446744073709551616) (hb : b < 18446744073709551616) : codeR a = codeR b ↔ canonR a = canonR b := by
  have := canonR_lt ha
  have := canonR_lt hb
  unfold codeR; constructor
  · intro h; split at h <;> split at h <;> omega
  · intro h; rw [h]
/-- What a code tells: the number of the code. -/
theorem dec_code {b : Nat} (hb : b < 18446744073709551616) : decF (codeR b) = canonR b := by
  have := canonR_lt hb
  unfold decF codeR; split <;> split <;> omega
theorem decF_lt {c : Nat} (hc : c < 18446744073709551616) : decF c < 18446744073709551616 := by
  unfold decF; split <;> omega
end Go.Proofs.Ytjpgdaphkmeijaa.Rl
