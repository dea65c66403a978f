/- RealCodes: the walk. -/
import Derived.Test.YtjpgdaphkmeijaaRising01
set_option linter.unusedVariables false
set_option linter.unusedSimpArgs false
namespace Go.Proofs.Ytjpgdaphkmeijaa.Rl
open Go.RowKit Go.Shelf Go.Proofs.YtjpgdaphkmeijaaW.PrintWords

theorem rcodeN {a : Nat} (ha : a < 18446744073709551616) : Pure 26 #[.int .u64 a] (.int .u64 (codeR a : Nat)) := by
  have h := rcode ha
  rwa [codeF_eq ha] at h
theorem decV_code {b : Nat} (hb : b < 18446744073709551616) : decV (codeR b) = canonF b ∧ decB (codeR b) = true := by
  have hd := dec_code hb
  have hl := canonR_lt hb
  have e : codeF (decF (codeR b)) = (codeR b : Nat) := by rw [hd, codeF_eq hl, codeR_canon hb]
  unfold decV decB
  rw [if_pos e, decide_eq_true e, hd, canonF_eq hb]
  exact ⟨rfl, rfl⟩

set_option maxRecDepth 100000 in
set_option maxHeartbeats 4000000 in
theorem codes_any (b c : Nat) (hb : b < 18446744073709551616) (hc : c < 18446744073709551616) (w : World) : Calls Try.prog 10 #[.int .u64 b, .int .u64 c] w (True1 w) := by
  have hd : decF c < 18446744073709551616 := decF_lt hc
  have hv : decV c < 18446744073709551616 := by unfold decV; split <;> omega
  have hk : codeR b < 18446744073709551616 := codeR_lt hb
  obtain ⟨v1, v2⟩ := decV_code hb
  by_cases g : decB c = true
  · have v3 : codeR (decV c) = c := by
      have h := of_decide_eq_true (show decide (codeF (decF c) = c) = true from g)
      unfold decV
      rw [if_pos h]
      rw [codeF_eq hd] at h
      omega
    clear hd
    go_enter Try.func10, Try.ntmps10
    go_wp2_with (first | (go_at_call 11; refine (alive_f _).mono ?_; rintro e w' ⟨rfl, hb⟩; have HB := Lib.hid hb; clear hb) | (go_at_call 12; refine (of_f _ _).mono ?_; rintro e w' ⟨rfl, q, rfl⟩) | (go_at_call 14; refine (bits_f _ _).mono ?_; rintro e w' ⟨rfl, q, rfl⟩) | (go_at_call 16; refine (order_f _ _ _).mono ?_; rintro e w' ⟨rfl, q, rfl⟩) | (go_at_call 18; refine (canon_f _ _).mono ?_; rintro e w' ⟨rfl, q, rfl⟩) | (go_at_call 19; refine (same_f _ _ _).mono ?_; rintro e w' ⟨rfl, q, rfl⟩) | (go_at_call 20; refine (clamp_f _ _ _ _).mono ?_; rintro e w' ⟨rfl, q, rfl⟩) | (go_at_call 17; refine (codeN (by first | assumption | exact HD.out) _).mono ?_; rintro e w' ⟨rfl, q, rfl⟩) | (go_at_call 24; refine (decode_g (by first | assumption | exact HD2.out) _).mono ?_; rintro e w' ⟨rfl, q, rfl⟩) | (go_at_call 21; refine (rcanon (by assumption) _).mono ?_; rintro e w' ⟨rfl, q, rfl⟩) | (go_at_call 26; refine (rcodeN (by assumption) _).mono ?_; rintro e w' ⟨rfl, q, rfl⟩) | (go_at_call 22; refine (rorder (by assumption) (by assumption) _).mono ?_; rintro e w' ⟨rfl, q, rfl⟩) | (go_at_call 23; refine (rclamp (by assumption) (by assumption) (by assumption) _).mono ?_; rintro e w' ⟨rfl, q, rfl⟩) | (go_at_call 25; refine (rdecode (by assumption) _).mono ?_; rintro e w' ⟨rfl, q, rfl⟩))
    all_goals (go_ret; exact ⟨rfl, below_drewN HB.out _⟩)
  · have g' : decB c = false := by simpa using g
    clear g hd
    go_enter Try.func10, Try.ntmps10
    go_wp2_with (first | (go_at_call 11; refine (alive_f _).mono ?_; rintro e w' ⟨rfl, hb⟩; have HB := Lib.hid hb; clear hb) | (go_at_call 12; refine (of_f _ _).mono ?_; rintro e w' ⟨rfl, q, rfl⟩) | (go_at_call 14; refine (bits_f _ _).mono ?_; rintro e w' ⟨rfl, q, rfl⟩) | (go_at_call 16; refine (order_f _ _ _).mono ?_; rintro e w' ⟨rfl, q, rfl⟩) | (go_at_call 18; refine (canon_f _ _).mono ?_; rintro e w' ⟨rfl, q, rfl⟩) | (go_at_call 19; refine (same_f _ _ _).mono ?_; rintro e w' ⟨rfl, q, rfl⟩) | (go_at_call 20; refine (clamp_f _ _ _ _).mono ?_; rintro e w' ⟨rfl, q, rfl⟩) | (go_at_call 17; refine (codeN (by first | assumption | exact HD.out) _).mono ?_; rintro e w' ⟨rfl, q, rfl⟩) | (go_at_call 24; refine (decode_g (by first | assumption | exact HD2.out) _).mono ?_; rintro e w' ⟨rfl, q, rfl⟩) | (go_at_call 21; refine (rcanon (by assumption) _).mono ?_; rintro e w' ⟨rfl, q, rfl⟩) | (go_at_call 26; refine (rcodeN (by assumption) _).mono ?_; rintro e w' ⟨rfl, q, rfl⟩) | (go_at_call 22; refine (rorder (by assumption) (by assumption) _).mono ?_; rintro e w' ⟨rfl, q, rfl⟩) | (go_at_call 23; refine (rclamp (by assumption) (by assumption) (by assumption) _).mono ?_; rintro e w' ⟨rfl, q, rfl⟩) | (go_at_call 25; refine (rdecode (by assumption) _).mono ?_; rintro e w' ⟨rfl, q, rfl⟩))
    all_goals (go_ret; exact ⟨rfl, below_drewN HB.out _⟩)
end Go.Proofs.Ytjpgdaphkmeijaa.Rl
