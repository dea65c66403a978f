/- RealRising: the walk. -/
import Derived.Test.YtjpgdaphkmeijaaRefs01
set_option linter.unusedVariables false
set_option linter.unusedSimpArgs false
namespace Go.Proofs.Ytjpgdaphkmeijaa.Rl
open Go.RowKit Go.Shelf Go.Proofs.YtjpgdaphkmeijaaW.PrintWords

theorem codeN {a : Nat} (ha : a < 18446744073709551616) : Pure 17 #[.float .f64 a] (.int .u64 (codeR a : Nat)) := by
  have h := code_f a ha
  rwa [codeF_eq ha] at h
theorem ord_nan_eq {a b : Nat} (ha : a < 18446744073709551616) (hb : b < 18446744073709551616) (h : orderR a b ≠ 0) : (FloatKind.f64.format.order a b == some .eq) = false := by
  show (ford a b == some .eq) = false
  by_cases n1 : Fo.isN a ∨ Fo.isN b
  · rw [ford_nan n1]; rfl
  · have n2 : ¬ Fo.isN a := fun h => n1 (.inl h)
    have n3 : ¬ Fo.isN b := fun h => n1 (.inr h)
    rw [ford_fin ha hb n2 n3]
    have c1 := code_fin ha n2
    have c2 := code_fin hb n3
    rcases Int.lt_trichotomy (Fo.sr a) (Fo.sr b) with g | g | g
    · rw [Fo.cmp_lt g]; rfl
    · exact absurd (by unfold orderR; rw [if_neg (by omega), if_neg (by omega)]) h
    · rw [Fo.cmp_gt g]; rfl
theorem ord_not_lt {a b : Nat} (ha : a < 18446744073709551616) (hb : b < 18446744073709551616) (h : ¬ codeR a < codeR b) : (FloatKind.f64.format.order a b == some .lt) = false := by
  show (ford a b == some .lt) = false
  by_cases n1 : Fo.isN a ∨ Fo.isN b
  · rw [ford_nan n1]; rfl
  · have n2 : ¬ Fo.isN a := fun h => n1 (.inl h)
    have n3 : ¬ Fo.isN b := fun h => n1 (.inr h)
    rw [ford_fin ha hb n2 n3]
    have c1 := code_fin ha n2
    have c2 := code_fin hb n3
    rcases Int.lt_trichotomy (Fo.sr a) (Fo.sr b) with g | g | g
    · exact absurd (by omega) h
    · rw [g, Fo.cmp_eq]; rfl
    · rw [Fo.cmp_gt g]; rfl
theorem ord_self {a b : Nat} (ha : a < 18446744073709551616) (hb : b < 18446744073709551616) (h : codeR a < codeR b) : (FloatKind.f64.format.order a a == some .eq) = true := by
  show (ford a a == some .eq) = true
  have n2 : ¬ Fo.isN a := fun n => by
    have e := code_nan n
    by_cases n3 : Fo.isN b
    · rw [code_nan n3] at h; omega
    · have := (code_fin hb n3).2; omega
  rw [ford_fin ha ha n2 n2, Fo.cmp_eq]; rfl

set_option maxRecDepth 100000 in
set_option maxHeartbeats 4000000 in
theorem rising_any (a b : Nat) (ha : a < 18446744073709551616) (hb : b < 18446744073709551616) (w : World) : Calls Try.prog 4 #[.int .u64 a, .int .u64 b] w (True1 w) := by
  have e1 := orderF_eq ha hb
  have e2 := orderF_eq hb ha
  rcases Nat.lt_trichotomy (codeR a) (codeR b) with g | g | g
  · have v1 : orderF a b = -1 := by rw [e1]; unfold orderR; rw [if_pos g]
    have v2 : orderF b a = 1 := by rw [e2]; unfold orderR; rw [if_neg (by omega), if_pos g]
    have v3 := ord_nan_eq ha hb (by rw [← e1, v1]; decide)
    have v4 := ord_self ha hb g
    have v5 : decide ((codeR a : Int) < (codeR b : Int)) = true := decide_eq_true (by omega)
    have v6 : decide (codeR a < codeR b) = true := decide_eq_true (by omega)
    clear e1 e2
    go_enter Try.func4, Try.ntmps4
    go_wp2_with (first | (go_at_call 11; refine (alive_f _).mono ?_; rintro e w' ⟨rfl, hb⟩; have HB := Lib.hid hb; clear hb) | (go_at_call 12; refine (of_f _ _).mono ?_; rintro e w' ⟨rfl, q, rfl⟩) | (go_at_call 14; refine (bits_f _ _).mono ?_; rintro e w' ⟨rfl, q, rfl⟩) | (go_at_call 16; refine (order_f _ _ _).mono ?_; rintro e w' ⟨rfl, q, rfl⟩) | (go_at_call 18; refine (canon_f _ _).mono ?_; rintro e w' ⟨rfl, q, rfl⟩) | (go_at_call 19; refine (same_f _ _ _).mono ?_; rintro e w' ⟨rfl, q, rfl⟩) | (go_at_call 20; refine (clamp_f _ _ _ _).mono ?_; rintro e w' ⟨rfl, q, rfl⟩) | (go_at_call 17; refine (codeN (by first | assumption | exact HD.out) _).mono ?_; rintro e w' ⟨rfl, q, rfl⟩) | (go_at_call 24; refine (decode_g (by first | assumption | exact HD2.out) _).mono ?_; rintro e w' ⟨rfl, q, rfl⟩) | (go_at_call 21; refine (rcanon (by assumption) _).mono ?_; rintro e w' ⟨rfl, q, rfl⟩) | (go_at_call 26; refine (rcodeN (by assumption) _).mono ?_; rintro e w' ⟨rfl, q, rfl⟩) | (go_at_call 22; refine (rorder (by assumption) (by assumption) _).mono ?_; rintro e w' ⟨rfl, q, rfl⟩) | (go_at_call 23; refine (rclamp (by assumption) (by assumption) (by assumption) _).mono ?_; rintro e w' ⟨rfl, q, rfl⟩) | (go_at_call 25; refine (rdecode (by assumption) _).mono ?_; rintro e w' ⟨rfl, q, rfl⟩))
    all_goals (go_ret; exact ⟨rfl, below_drewN HB.out _⟩)
  · have v1 : orderF a b = 0 := by rw [e1]; unfold orderR; rw [if_neg (by omega), if_neg (by omega)]
    have v2 : orderF b a = 0 := by rw [e2]; unfold orderR; rw [if_neg (by omega), if_neg (by omega)]
    have v3 := ord_not_lt ha hb (by omega)
    have v5 : decide ((codeR a : Int) < (codeR b : Int)) = false := decide_eq_false (by omega)
    have v6 : decide (codeR a < codeR b) = false := decide_eq_false (by omega)
    clear e1 e2 g
    go_enter Try.func4, Try.ntmps4
    go_wp2_with (first | (go_at_call 11; refine (alive_f _).mono ?_; rintro e w' ⟨rfl, hb⟩; have HB := Lib.hid hb; clear hb) | (go_at_call 12; refine (of_f _ _).mono ?_; rintro e w' ⟨rfl, q, rfl⟩) | (go_at_call 14; refine (bits_f _ _).mono ?_; rintro e w' ⟨rfl, q, rfl⟩) | (go_at_call 16; refine (order_f _ _ _).mono ?_; rintro e w' ⟨rfl, q, rfl⟩) | (go_at_call 18; refine (canon_f _ _).mono ?_; rintro e w' ⟨rfl, q, rfl⟩) | (go_at_call 19; refine (same_f _ _ _).mono ?_; rintro e w' ⟨rfl, q, rfl⟩) | (go_at_call 20; refine (clamp_f _ _ _ _).mono ?_; rintro e w' ⟨rfl, q, rfl⟩) | (go_at_call 17; refine (codeN (by first | assumption | exact HD.out) _).mono ?_; rintro e w' ⟨rfl, q, rfl⟩) | (go_at_call 24; refine (decode_g (by first | assumption | exact HD2.out) _).mono ?_; rintro e w' ⟨rfl, q, rfl⟩) | (go_at_call 21; refine (rcanon (by assumption) _).mono ?_; rintro e w' ⟨rfl, q, rfl⟩) | (go_at_call 26; refine (rcodeN (by assumption) _).mono ?_; rintro e w' ⟨rfl, q, rfl⟩) | (go_at_call 22; refine (rorder (by assumption) (by assumption) _).mono ?_; rintro e w' ⟨rfl, q, rfl⟩) | (go_at_call 23; refine (rclamp (by assumption) (by assumption) (by assumption) _).mono ?_; rintro e w' ⟨rfl, q, rfl⟩) | (go_at_call 25; refine (rdecode (by assumption) _).mono ?_; rintro e w' ⟨rfl, q, rfl⟩))
    all_goals (go_ret; exact ⟨rfl, below_drewN HB.out _⟩)
  · have v1 : orderF a b = 1 := by rw [e1]; unfold orderR; rw [if_neg (by omega), if_pos g]
    have v2 : orderF b a = -1 := by rw [e2]; unfold orderR; rw [if_pos g]
    have v3 := ord_nan_eq ha hb (by rw [← e1, v1]; decide)
    have v4 := ord_not_lt ha hb (by omega)
    have v5 : decide ((codeR a : Int) < (codeR b : Int)) = false := decide_eq_false (by omega)
    have v6 : decide (codeR a < codeR b) = false := decide_eq_false (by omega)
    clear e1 e2
    go_enter Try.func4, Try.ntmps4
    go_wp2_with (first | (go_at_call 11; refine (alive_f _).mono ?_; rintro e w' ⟨rfl, hb⟩; have HB := Lib.hid hb; clear hb) | (go_at_call 12; refine (of_f _ _).mono ?_; rintro e w' ⟨rfl, q, rfl⟩) | (go_at_call 14; refine (bits_f _ _).mono ?_; rintro e w' ⟨rfl, q, rfl⟩) | (go_at_call 16; refine (order_f _ _ _).mono ?_; rintro e w' ⟨rfl, q, rfl⟩) | (go_at_call 18; refine (canon_f _ _).mono ?_; rintro e w' ⟨rfl, q, rfl⟩) | (go_at_call 19; refine (same_f _ _ _).mono ?_; rintro e w' ⟨rfl, q, rfl⟩) | (go_at_call 20; refine (clamp_f _ _ _ _).mono ?_; rintro e w' ⟨rfl, q, rfl⟩) | (go_at_call 17; refine (codeN (by first | assumption | exact HD.out) _).mono ?_; rintro e w' ⟨rfl, q, rfl⟩) | (go_at_call 24; refine (decode_g (by first | assumption | exact HD2.out) _).mono ?_; rintro e w' ⟨rfl, q, rfl⟩) | (go_at_call 21; refine (rcanon (by assumption) _).mono ?_; rintro e w' ⟨rfl, q, rfl⟩) | (go_at_call 26; refine (rcodeN (by assumption) _).mono ?_; rintro e w' ⟨rfl, q, rfl⟩) | (go_at_call 22; refine (rorder (by assumption) (by assumption) _).mono ?_; rintro e w' ⟨rfl, q, rfl⟩) | (go_at_call 23; refine (rclamp (by assumption) (by assumption) (by assumption) _).mono ?_; rintro e w' ⟨rfl, q, rfl⟩) | (go_at_call 25; refine (rdecode (by assumption) _).mono ?_; rintro e w' ⟨rfl, q, rfl⟩))
    all_goals (go_ret; exact ⟨rfl, below_drewN HB.out _⟩)
end Go.Proofs.Ytjpgdaphkmeijaa.Rl
