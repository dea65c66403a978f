/- RealOrders and RealCanon: the walks. -/
import Derived.Test.YtjpgdaphkmeijaaRefs01
set_option linter.unusedVariables false
set_option linter.unusedSimpArgs false
namespace Go.Proofs.Ytjpgdaphkmeijaa.Rl
open Go.RowKit Go.Shelf Go.Proofs.YtjpgdaphkmeijaaW.PrintWords

set_option maxRecDepth 100000 in
set_option maxHeartbeats 4000000 in
theorem orders_any (a b c : Nat) (ha : a < 18446744073709551616) (hb : b < 18446744073709551616) (hc : c < 18446744073709551616) (w : World) : Calls Try.prog 7 #[.int .u64 a, .int .u64 b, .int .u64 c] w (True1 w) := by
  go_enter Try.func7, Try.ntmps7
  go_wp2_with (first | (go_at_call 11; refine (alive_f _).mono ?_; rintro e w' ⟨rfl, hb⟩; have HB := Lib.hid hb; clear hb) | (go_at_call 12; refine (of_f _ _).mono ?_; rintro e w' ⟨rfl, q, rfl⟩) | (go_at_call 14; refine (bits_f _ _).mono ?_; rintro e w' ⟨rfl, q, rfl⟩) | (go_at_call 16; refine (order_f _ _ _).mono ?_; rintro e w' ⟨rfl, q, rfl⟩) | (go_at_call 18; refine (canon_f _ _).mono ?_; rintro e w' ⟨rfl, q, rfl⟩) | (go_at_call 19; refine (same_f _ _ _).mono ?_; rintro e w' ⟨rfl, q, rfl⟩) | (go_at_call 20; refine (clamp_f _ _ _ _).mono ?_; rintro e w' ⟨rfl, q, rfl⟩) | (go_at_call 17; refine (code_f _ (by first | assumption | exact HD.out) _).mono ?_; rintro e w' ⟨rfl, q, rfl⟩) | (go_at_call 24; refine (decode_g (by first | assumption | exact HD2.out) _).mono ?_; rintro e w' ⟨rfl, q, rfl⟩) | (go_at_call 21; refine (rcanon (by assumption) _).mono ?_; rintro e w' ⟨rfl, q, rfl⟩) | (go_at_call 26; refine (rcode (by assumption) _).mono ?_; rintro e w' ⟨rfl, q, rfl⟩) | (go_at_call 22; refine (rorder (by assumption) (by assumption) _).mono ?_; rintro e w' ⟨rfl, q, rfl⟩) | (go_at_call 23; refine (rclamp (by assumption) (by assumption) (by assumption) _).mono ?_; rintro e w' ⟨rfl, q, rfl⟩) | (go_at_call 25; refine (rdecode (by assumption) _).mono ?_; rintro e w' ⟨rfl, q, rfl⟩))
  all_goals (go_ret; exact ⟨rfl, below_drewN HB.out _⟩)

set_option maxRecDepth 100000 in
set_option maxHeartbeats 4000000 in
theorem canon_any (a b : Nat) (ha : a < 18446744073709551616) (hb : b < 18446744073709551616) (w : World) : Calls Try.prog 5 #[.int .u64 a, .int .u64 b] w (True1 w) := by
  have f1 : orderF a (canonF a) = 0 := by rw [orderF_eq ha (canonF_lt a ha), canonF_eq ha]; unfold orderR; rw [codeR_canon ha, if_neg (by omega), if_neg (by omega)]
  have f2 : canonF (canonF a) = canonF a := by rw [canonF_eq (canonF_lt a ha), canonF_eq ha, canonR_idem ha]
  have f3 : orderF (canonF a) b = orderF a b := by rw [orderF_eq ha hb, orderF_eq (canonF_lt a ha) hb, canonF_eq ha]; unfold orderR; rw [codeR_canon ha]
  have f4 : orderF a b = 0 ↔ canonF a = canonF b := by
    rw [orderF_eq ha hb, canonF_eq ha, canonF_eq hb]
    have := codeR_inj ha hb
    unfold orderR
    by_cases h1 : codeR a < codeR b
    · rw [if_pos h1]; constructor <;> intro h <;> omega
    · rw [if_neg h1]
      by_cases h2 : codeR b < codeR a
      · rw [if_pos h2]; constructor <;> intro h <;> omega
      · rw [if_neg h2]; constructor <;> intro h <;> omega
  by_cases h : canonF a = canonF b
  · have f5 := f4.2 h
    have f7 : orderF (canonF b) b = 0 := by rw [← h, f3]; exact f5
    have f8 : orderF a (canonF b) = 0 := by rw [← h]; exact f1
    have f9 : canonF (canonF b) = canonF b := by rw [← h]; exact f2
    clear f4 f3 f1 f2
    go_enter Try.func5, Try.ntmps5
    go_wp2_with (first | (go_at_call 11; refine (alive_f _).mono ?_; rintro e w' ⟨rfl, hb⟩; have HB := Lib.hid hb; clear hb) | (go_at_call 12; refine (of_f _ _).mono ?_; rintro e w' ⟨rfl, q, rfl⟩) | (go_at_call 14; refine (bits_f _ _).mono ?_; rintro e w' ⟨rfl, q, rfl⟩) | (go_at_call 16; refine (order_f _ _ _).mono ?_; rintro e w' ⟨rfl, q, rfl⟩) | (go_at_call 18; refine (canon_f _ _).mono ?_; rintro e w' ⟨rfl, q, rfl⟩) | (go_at_call 19; refine (same_f _ _ _).mono ?_; rintro e w' ⟨rfl, q, rfl⟩) | (go_at_call 20; refine (clamp_f _ _ _ _).mono ?_; rintro e w' ⟨rfl, q, rfl⟩) | (go_at_call 17; refine (code_f _ (by first | assumption | exact HD.out) _).mono ?_; rintro e w' ⟨rfl, q, rfl⟩) | (go_at_call 24; refine (decode_g (by first | assumption | exact HD2.out) _).mono ?_; rintro e w' ⟨rfl, q, rfl⟩) | (go_at_call 21; refine (rcanon (by assumption) _).mono ?_; rintro e w' ⟨rfl, q, rfl⟩) | (go_at_call 26; refine (rcode (by assumption) _).mono ?_; rintro e w' ⟨rfl, q, rfl⟩) | (go_at_call 22; refine (rorder (by assumption) (by assumption) _).mono ?_; rintro e w' ⟨rfl, q, rfl⟩) | (go_at_call 23; refine (rclamp (by assumption) (by assumption) (by assumption) _).mono ?_; rintro e w' ⟨rfl, q, rfl⟩) | (go_at_call 25; refine (rdecode (by assumption) _).mono ?_; rintro e w' ⟨rfl, q, rfl⟩))
    all_goals (go_ret; exact ⟨rfl, below_drewN HB.out _⟩)
  · have f5 : (orderF a b == 0) = false := by simpa using fun e => h (f4.1 e)
    have f6 : ((canonF a : Int) == (canonF b : Int)) = false := beq_eq_false_iff_ne.mpr (by omega)
    clear f4 h
    go_enter Try.func5, Try.ntmps5
    go_wp2_with (first | (go_at_call 11; refine (alive_f _).mono ?_; rintro e w' ⟨rfl, hb⟩; have HB := Lib.hid hb; clear hb) | (go_at_call 12; refine (of_f _ _).mono ?_; rintro e w' ⟨rfl, q, rfl⟩) | (go_at_call 14; refine (bits_f _ _).mono ?_; rintro e w' ⟨rfl, q, rfl⟩) | (go_at_call 16; refine (order_f _ _ _).mono ?_; rintro e w' ⟨rfl, q, rfl⟩) | (go_at_call 18; refine (canon_f _ _).mono ?_; rintro e w' ⟨rfl, q, rfl⟩) | (go_at_call 19; refine (same_f _ _ _).mono ?_; rintro e w' ⟨rfl, q, rfl⟩) | (go_at_call 20; refine (clamp_f _ _ _ _).mono ?_; rintro e w' ⟨rfl, q, rfl⟩) | (go_at_call 17; refine (code_f _ (by first | assumption | exact HD.out) _).mono ?_; rintro e w' ⟨rfl, q, rfl⟩) | (go_at_call 24; refine (decode_g (by first | assumption | exact HD2.out) _).mono ?_; rintro e w' ⟨rfl, q, rfl⟩) | (go_at_call 21; refine (rcanon (by assumption) _).mono ?_; rintro e w' ⟨rfl, q, rfl⟩) | (go_at_call 26; refine (rcode (by assumption) _).mono ?_; rintro e w' ⟨rfl, q, rfl⟩) | (go_at_call 22; refine (rorder (by assumption) (by assumption) _).mono ?_; rintro e w' ⟨rfl, q, rfl⟩) | (go_at_call 23; refine (rclamp (by assumption) (by assumption) (by assumption) _).mono ?_; rintro e w' ⟨rfl, q, rfl⟩) | (go_at_call 25; refine (rdecode (by assumption) _).mono ?_; rintro e w' ⟨rfl, q, rfl⟩))
    all_goals (go_ret; exact ⟨rfl, below_drewN HB.out _⟩)
end Go.Proofs.Ytjpgdaphkmeijaa.Rl
