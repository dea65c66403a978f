/- RealClampIn: the walk. -/
import Derived.Test.YtjpgdaphkmeijaaRefs01
set_option linter.unusedVariables false
set_option linter.unusedSimpArgs false
namespace Go.Proofs.Ytjpgdaphkmeijaa.Rl
open Go.RowKit Go.Shelf Go.Proofs.YtjpgdaphkmeijaaW.PrintWords

theorem cmp_le {a b : Nat} (ha : a < 18446744073709551616) (hb : b < 18446744073709551616) : orderF a b ≤ 0 ↔ codeR a ≤ codeR b := by
  rw [orderF_eq ha hb]; unfold orderR
  by_cases h1 : codeR a < codeR b
  · rw [if_pos h1]; constructor <;> intro h <;> omega
  · rw [if_neg h1]
    by_cases h2 : codeR b < codeR a
    · rw [if_pos h2]; constructor <;> intro h <;> omega
    · rw [if_neg h2]; constructor <;> intro h <;> omega
theorem cmp_lt0 {a b : Nat} (ha : a < 18446744073709551616) (hb : b < 18446744073709551616) : orderF a b < 0 ↔ codeR a < codeR b := by
  rw [orderF_eq ha hb]; unfold orderR
  by_cases h1 : codeR a < codeR b
  · rw [if_pos h1]; constructor <;> intro h <;> omega
  · rw [if_neg h1]
    by_cases h2 : codeR b < codeR a
    · rw [if_pos h2]; constructor <;> intro h <;> omega
    · rw [if_neg h2]; constructor <;> intro h <;> omega
theorem cmp_eq0 {a b : Nat} (ha : a < 18446744073709551616) (hb : b < 18446744073709551616) : orderF a b = 0 ↔ codeR a = codeR b := by
  rw [orderF_eq ha hb]; unfold orderR
  by_cases h1 : codeR a < codeR b
  · rw [if_pos h1]; constructor <;> intro h <;> omega
  · rw [if_neg h1]
    by_cases h2 : codeR b < codeR a
    · rw [if_pos h2]; constructor <;> intro h <;> omega
    · rw [if_neg h2]; constructor <;> intro h <;> omega
theorem clamp_lt {a b c : Nat} (ha : a < 18446744073709551616) (hb : b < 18446744073709551616) (hc : c < 18446744073709551616) : clampF a b c < 18446744073709551616 := by
  unfold clampF; split
  · exact canonF_lt b hb
  · split
    · exact canonF_lt c hc
    · exact canonF_lt a ha
theorem clamp_code {a b c : Nat} (ha : a < 18446744073709551616) (hb : b < 18446744073709551616) (hc : c < 18446744073709551616) :
    codeR (clampF a b c) = if codeR a < codeR b then codeR b else if codeR c < codeR a then codeR c else codeR a := by
  have e1 := cmp_lt0 ha hb
  have e2 := cmp_le ha hc
  unfold clampF
  by_cases h1 : codeR a < codeR b
  · rw [if_pos (e1.2 h1), if_pos h1, canonF_eq hb, codeR_canon hb]
  · rw [if_neg (fun h => h1 (e1.1 h)), if_neg h1]
    by_cases h2 : codeR c < codeR a
    · rw [if_pos (by have := mt e2.1 (by omega); omega), if_pos h2, canonF_eq hc, codeR_canon hc]
    · rw [if_neg (by have := e2.2 (by omega); omega), if_neg h2, canonF_eq ha, codeR_canon ha]

set_option maxRecDepth 100000 in
set_option maxHeartbeats 4000000 in
theorem clampin_any (a b c : Nat) (ha : a < 18446744073709551616) (hb : b < 18446744073709551616) (hc : c < 18446744073709551616) (w : World) : Calls Try.prog 9 #[.int .u64 a, .int .u64 b, .int .u64 c] w (True1 w) := by
  by_cases h0 : orderF b c ≤ 0
  · have hy := clamp_lt ha hb hc
    have hcy := clamp_code ha hb hc
    have hz := clamp_code hy hb hc
    have hzl := clamp_lt hy hb hc
    have hbc := (cmp_le hb hc).1 h0
    have v1 : orderF b (clampF a b c) ≤ 0 := (cmp_le hb hy).2 (by rw [hcy]; split <;> (try split) <;> omega)
    have v2 : orderF (clampF a b c) c ≤ 0 := (cmp_le hy hc).2 (by rw [hcy]; split <;> (try split) <;> omega)
    have v3 : orderF (clampF (clampF a b c) b c) (clampF a b c) = 0 := (cmp_eq0 hzl hy).2 (by
      rw [hz]
      clear hz v1 v2 hzl
      generalize codeR (clampF a b c) = Y at hcy ⊢
      split at hcy
      · split <;> (try split) <;> omega
      · split at hcy <;> split <;> (try split) <;> omega)
    have v4 : ¬ orderF a b < 0 → ¬ orderF a c > 0 → orderF a (clampF a b c) = 0 := fun g1 g2 => (cmp_eq0 ha hy).2 (by
      have q1 := mt (cmp_lt0 ha hb).2 g1
      have q2 := (cmp_le ha hc).1 (by omega)
      rw [hcy, if_neg q1, if_neg (by omega)])
    have s1 := decide_eq_true v1
    have s2 := decide_eq_true v2
    clear hcy hz hbc
    generalize hyd : clampF a b c = y at *
    have HY := Lib.hid hyd
    clear hyd
    by_cases g1 : orderF a b < 0
    · clear v4
      go_enter Try.func9, Try.ntmps9
      have hyd := HY.out
      go_wp2_with (first | (go_at_call 11; refine (alive_f _).mono ?_; rintro e w' ⟨rfl, hb⟩; have HB := Lib.hid hb; clear hb) | (go_at_call 12; refine (of_f _ _).mono ?_; rintro e w' ⟨rfl, q, rfl⟩) | (go_at_call 14; refine (bits_f _ _).mono ?_; rintro e w' ⟨rfl, q, rfl⟩) | (go_at_call 16; refine (order_f _ _ _).mono ?_; rintro e w' ⟨rfl, q, rfl⟩) | (go_at_call 18; refine (canon_f _ _).mono ?_; rintro e w' ⟨rfl, q, rfl⟩) | (go_at_call 19; refine (same_f _ _ _).mono ?_; rintro e w' ⟨rfl, q, rfl⟩) | (go_at_call 20; refine (clamp_f _ _ _ _).mono ?_; rintro e w' ⟨rfl, q, rfl⟩) | (go_at_call 17; refine (code_f _ (by first | assumption | exact HD.out) _).mono ?_; rintro e w' ⟨rfl, q, rfl⟩) | (go_at_call 24; refine (decode_g (by first | assumption | exact HD2.out) _).mono ?_; rintro e w' ⟨rfl, q, rfl⟩) | (go_at_call 21; refine (rcanon (by assumption) _).mono ?_; rintro e w' ⟨rfl, q, rfl⟩) | (go_at_call 26; refine (rcode (by assumption) _).mono ?_; rintro e w' ⟨rfl, q, rfl⟩) | (go_at_call 22; refine (rorder (by assumption) (by assumption) _).mono ?_; rintro e w' ⟨rfl, q, rfl⟩) | (go_at_call 23; refine (rclamp (by assumption) (by assumption) (by assumption) _).mono ?_; rintro e w' ⟨rfl, q, rfl⟩) | (go_at_call 25; refine (rdecode (by assumption) _).mono ?_; rintro e w' ⟨rfl, q, rfl⟩))
      all_goals (go_ret; exact ⟨rfl, below_drewN HB.out _⟩)
    · by_cases g2 : orderF a c > 0
      · clear v4
        go_enter Try.func9, Try.ntmps9
        have hyd := HY.out
        go_wp2_with (first | (go_at_call 11; refine (alive_f _).mono ?_; rintro e w' ⟨rfl, hb⟩; have HB := Lib.hid hb; clear hb) | (go_at_call 12; refine (of_f _ _).mono ?_; rintro e w' ⟨rfl, q, rfl⟩) | (go_at_call 14; refine (bits_f _ _).mono ?_; rintro e w' ⟨rfl, q, rfl⟩) | (go_at_call 16; refine (order_f _ _ _).mono ?_; rintro e w' ⟨rfl, q, rfl⟩) | (go_at_call 18; refine (canon_f _ _).mono ?_; rintro e w' ⟨rfl, q, rfl⟩) | (go_at_call 19; refine (same_f _ _ _).mono ?_; rintro e w' ⟨rfl, q, rfl⟩) | (go_at_call 20; refine (clamp_f _ _ _ _).mono ?_; rintro e w' ⟨rfl, q, rfl⟩) | (go_at_call 17; refine (code_f _ (by first | assumption | exact HD.out) _).mono ?_; rintro e w' ⟨rfl, q, rfl⟩) | (go_at_call 24; refine (decode_g (by first | assumption | exact HD2.out) _).mono ?_; rintro e w' ⟨rfl, q, rfl⟩) | (go_at_call 21; refine (rcanon (by assumption) _).mono ?_; rintro e w' ⟨rfl, q, rfl⟩) | (go_at_call 26; refine (rcode (by assumption) _).mono ?_; rintro e w' ⟨rfl, q, rfl⟩) | (go_at_call 22; refine (rorder (by assumption) (by assumption) _).mono ?_; rintro e w' ⟨rfl, q, rfl⟩) | (go_at_call 23; refine (rclamp (by assumption) (by assumption) (by assumption) _).mono ?_; rintro e w' ⟨rfl, q, rfl⟩) | (go_at_call 25; refine (rdecode (by assumption) _).mono ?_; rintro e w' ⟨rfl, q, rfl⟩))
        all_goals (go_ret; exact ⟨rfl, below_drewN HB.out _⟩)
      · have v5 := v4 g1 g2
        clear v4
        go_enter Try.func9, Try.ntmps9
        have hyd := HY.out
        go_wp2_with (first | (go_at_call 11; refine (alive_f _).mono ?_; rintro e w' ⟨rfl, hb⟩; have HB := Lib.hid hb; clear hb) | (go_at_call 12; refine (of_f _ _).mono ?_; rintro e w' ⟨rfl, q, rfl⟩) | (go_at_call 14; refine (bits_f _ _).mono ?_; rintro e w' ⟨rfl, q, rfl⟩) | (go_at_call 16; refine (order_f _ _ _).mono ?_; rintro e w' ⟨rfl, q, rfl⟩) | (go_at_call 18; refine (canon_f _ _).mono ?_; rintro e w' ⟨rfl, q, rfl⟩) | (go_at_call 19; refine (same_f _ _ _).mono ?_; rintro e w' ⟨rfl, q, rfl⟩) | (go_at_call 20; refine (clamp_f _ _ _ _).mono ?_; rintro e w' ⟨rfl, q, rfl⟩) | (go_at_call 17; refine (code_f _ (by first | assumption | exact HD.out) _).mono ?_; rintro e w' ⟨rfl, q, rfl⟩) | (go_at_call 24; refine (decode_g (by first | assumption | exact HD2.out) _).mono ?_; rintro e w' ⟨rfl, q, rfl⟩) | (go_at_call 21; refine (rcanon (by assumption) _).mono ?_; rintro e w' ⟨rfl, q, rfl⟩) | (go_at_call 26; refine (rcode (by assumption) _).mono ?_; rintro e w' ⟨rfl, q, rfl⟩) | (go_at_call 22; refine (rorder (by assumption) (by assumption) _).mono ?_; rintro e w' ⟨rfl, q, rfl⟩) | (go_at_call 23; refine (rclamp (by assumption) (by assumption) (by assumption) _).mono ?_; rintro e w' ⟨rfl, q, rfl⟩) | (go_at_call 25; refine (rdecode (by assumption) _).mono ?_; rintro e w' ⟨rfl, q, rfl⟩))
        all_goals (go_ret; exact ⟨rfl, below_drewN HB.out _⟩)
  · have h1 : 0 < orderF b c := by omega
    go_enter Try.func9, Try.ntmps9
    go_wp2_with (first | (go_at_call 11; refine (alive_f _).mono ?_; rintro e w' ⟨rfl, hb⟩; have HB := Lib.hid hb; clear hb) | (go_at_call 12; refine (of_f _ _).mono ?_; rintro e w' ⟨rfl, q, rfl⟩) | (go_at_call 14; refine (bits_f _ _).mono ?_; rintro e w' ⟨rfl, q, rfl⟩) | (go_at_call 16; refine (order_f _ _ _).mono ?_; rintro e w' ⟨rfl, q, rfl⟩) | (go_at_call 18; refine (canon_f _ _).mono ?_; rintro e w' ⟨rfl, q, rfl⟩) | (go_at_call 19; refine (same_f _ _ _).mono ?_; rintro e w' ⟨rfl, q, rfl⟩) | (go_at_call 20; refine (clamp_f _ _ _ _).mono ?_; rintro e w' ⟨rfl, q, rfl⟩) | (go_at_call 17; refine (code_f _ (by first | assumption | exact HD.out) _).mono ?_; rintro e w' ⟨rfl, q, rfl⟩) | (go_at_call 24; refine (decode_g (by first | assumption | exact HD2.out) _).mono ?_; rintro e w' ⟨rfl, q, rfl⟩) | (go_at_call 21; refine (rcanon (by assumption) _).mono ?_; rintro e w' ⟨rfl, q, rfl⟩) | (go_at_call 26; refine (rcode (by assumption) _).mono ?_; rintro e w' ⟨rfl, q, rfl⟩) | (go_at_call 22; refine (rorder (by assumption) (by assumption) _).mono ?_; rintro e w' ⟨rfl, q, rfl⟩) | (go_at_call 23; refine (rclamp (by assumption) (by assumption) (by assumption) _).mono ?_; rintro e w' ⟨rfl, q, rfl⟩) | (go_at_call 25; refine (rdecode (by assumption) _).mono ?_; rintro e w' ⟨rfl, q, rfl⟩))
    all_goals (go_ret; exact ⟨rfl, below_drewN HB.out _⟩)
end Go.Proofs.Ytjpgdaphkmeijaa.Rl
