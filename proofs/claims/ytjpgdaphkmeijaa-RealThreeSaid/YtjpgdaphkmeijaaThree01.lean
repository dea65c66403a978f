/- RealThree: the walk. -/
import Derived.Test.YtjpgdaphkmeijaaMidPlain
import Derived.Test.YtjpgdaphkmeijaaClamp01
set_option linter.unusedVariables false
set_option linter.unusedSimpArgs false
namespace Go.Proofs.Ytjpgdaphkmeijaa.Rl
open Go.RowKit Go.Shelf Go.Proofs.YtjpgdaphkmeijaaW.PrintWords

theorem mid3 {a b c : Nat} (ha : a < 18446744073709551616) (hb : b < 18446744073709551616) (hc : c < 18446744073709551616) (h1 : codeR a ≤ codeR b) (h2 : codeR b ≤ codeR c) : midF [c, a, b] = canonR b := by
  have h : codes [c, a, b] = [codeR a, codeR b, codeR c] := by
    refine List.Perm.eq_of_pairwise (le := fun x y => decide (x ≤ y) = true) (fun a b _ _ h1 h2 => by simp at h1 h2; omega) (List.pairwise_mergeSort (fun a b c h1 h2 => by simp at *; omega) (fun a b => by simp; omega) _) (by simp; omega) ((List.mergeSort_perm _ _).trans ?_)
    show List.Perm [codeR c, codeR a, codeR b] _
    exact (List.Perm.swap _ _ _).trans (List.Perm.cons _ (List.Perm.swap _ _ _))
  unfold midF
  rw [if_neg (by simp), h, show [codeR a, codeR b, codeR c].getD (([c, a, b].length - 1) / 2) 0 = codeR b by simp]
  exact dec_code hb

set_option maxRecDepth 100000 in
set_option maxHeartbeats 4000000 in
theorem three_any (a b c : Nat) (ha : a < 18446744073709551616) (hb : b < 18446744073709551616) (hc : c < 18446744073709551616) (w : World) : Calls Try.prog 8 #[.int .u64 a, .int .u64 b, .int .u64 c] w (True1 w) := by
  have hm : ∀ (g : Nat) (W : World), g < W.heap.size → FCells W g 0 [c, a, b] → Calls Try.prog 13 #[.slice (some ⟨g, 0, none⟩) 3 3] W (MidPost [c, a, b] W) := fun g W hg hI => mid_some g 0 3 [c, a, b] (by simp; omega) (by simp) (by simp) W hg hI
  by_cases g1 : orderF a b ≤ 0
  · by_cases g2 : orderF b c ≤ 0
    · have k1 := (cmp_le ha hb).1 g1
      have k2 := (cmp_le hb hc).1 g2
      have v1 : orderF a c ≤ 0 := (cmp_le ha hc).2 (by omega)
      have e1 : midF [c, a, b] = canonF b := by rw [mid3 ha hb hc k1 k2, canonF_eq hb]
      have v2 : orderF (canonF b) b = 0 := (cmp_eq0 (canonF_lt b hb) hb).2 (by rw [canonF_eq hb, codeR_canon hb])
      have v3 : orderF (clampF b a c) b = 0 := (cmp_eq0 (clamp_lt hb ha hc) hb).2 (by rw [clamp_code hb ha hc, if_neg (by omega), if_neg (by omega)])
      have v4 : orderF (clampF a b c) b = 0 := (cmp_eq0 (clamp_lt ha hb hc) hb).2 (by rw [clamp_code ha hb hc]; split <;> (try split) <;> omega)
      clear k1 k2
      go_enter Try.func8, Try.ntmps8
      go_wp2_with (first | (go_at_call 11; refine (alive_f _).mono ?_; rintro e w' ⟨rfl, hb⟩; have HB := Lib.hid hb; clear hb) | (go_at_call 12; refine (of_f _ _).mono ?_; rintro e w' ⟨rfl, q, rfl⟩) | (go_at_call 14; refine (bits_f _ _).mono ?_; rintro e w' ⟨rfl, q, rfl⟩) | (go_at_call 16; refine (order_f _ _ _).mono ?_; rintro e w' ⟨rfl, q, rfl⟩) | (go_at_call 18; refine (canon_f _ _).mono ?_; rintro e w' ⟨rfl, q, rfl⟩) | (go_at_call 19; refine (same_f _ _ _).mono ?_; rintro e w' ⟨rfl, q, rfl⟩) | (go_at_call 20; refine (clamp_f _ _ _ _).mono ?_; rintro e w' ⟨rfl, q, rfl⟩) | (go_at_call 17; refine (code_f _ (by first | assumption | exact HD.out) _).mono ?_; rintro e w' ⟨rfl, q, rfl⟩) | (go_at_call 24; refine (decode_g (by first | assumption | exact HD2.out) _).mono ?_; rintro e w' ⟨rfl, q, rfl⟩) | (go_at_call 21; refine (rcanon (by assumption) _).mono ?_; rintro e w' ⟨rfl, q, rfl⟩) | (go_at_call 26; refine (rcode (by assumption) _).mono ?_; rintro e w' ⟨rfl, q, rfl⟩) | (go_at_call 22; refine (rorder (by assumption) (by assumption) _).mono ?_; rintro e w' ⟨rfl, q, rfl⟩) | (go_at_call 23; refine (rclamp (by assumption) (by assumption) (by assumption) _).mono ?_; rintro e w' ⟨rfl, q, rfl⟩) | (go_at_call 25; refine (rdecode (by assumption) _).mono ?_; rintro e w' ⟨rfl, q, rfl⟩) | (go_at_call 13; refine (hm _ _ ?_ ?_).mono ?_; rotate_left 2; unfold MidPost; rintro e w' ⟨rfl, hbm⟩; have HBM := Lib.hid hbm; clear hbm))
      · go_ret
        exact ⟨rfl, below_drewN ((((below_drewN HB.out _).alloc (by have := HB.out.size; simpa using this) _).trans (show RowKit.Below w.heap.size _ _ from HBM.out.mono (by have := HB.out.size; simp; omega)))) _⟩
      · have := HB.out.size; simp
      · intro j hj
        have hj3 : j = 0 ∨ j = 1 ∨ j = 2 := by simp at hj; omega
        rcases hj3 with rfl | rfl | rfl <;> simp [World.cell?, World.alloc]
    · have h1 : 0 < orderF b c := by omega
      go_enter Try.func8, Try.ntmps8
      go_wp2_with (first | (go_at_call 11; refine (alive_f _).mono ?_; rintro e w' ⟨rfl, hb⟩; have HB := Lib.hid hb; clear hb) | (go_at_call 12; refine (of_f _ _).mono ?_; rintro e w' ⟨rfl, q, rfl⟩) | (go_at_call 14; refine (bits_f _ _).mono ?_; rintro e w' ⟨rfl, q, rfl⟩) | (go_at_call 16; refine (order_f _ _ _).mono ?_; rintro e w' ⟨rfl, q, rfl⟩) | (go_at_call 18; refine (canon_f _ _).mono ?_; rintro e w' ⟨rfl, q, rfl⟩) | (go_at_call 19; refine (same_f _ _ _).mono ?_; rintro e w' ⟨rfl, q, rfl⟩) | (go_at_call 20; refine (clamp_f _ _ _ _).mono ?_; rintro e w' ⟨rfl, q, rfl⟩) | (go_at_call 17; refine (code_f _ (by first | assumption | exact HD.out) _).mono ?_; rintro e w' ⟨rfl, q, rfl⟩) | (go_at_call 24; refine (decode_g (by first | assumption | exact HD2.out) _).mono ?_; rintro e w' ⟨rfl, q, rfl⟩) | (go_at_call 21; refine (rcanon (by assumption) _).mono ?_; rintro e w' ⟨rfl, q, rfl⟩) | (go_at_call 26; refine (rcode (by assumption) _).mono ?_; rintro e w' ⟨rfl, q, rfl⟩) | (go_at_call 22; refine (rorder (by assumption) (by assumption) _).mono ?_; rintro e w' ⟨rfl, q, rfl⟩) | (go_at_call 23; refine (rclamp (by assumption) (by assumption) (by assumption) _).mono ?_; rintro e w' ⟨rfl, q, rfl⟩) | (go_at_call 25; refine (rdecode (by assumption) _).mono ?_; rintro e w' ⟨rfl, q, rfl⟩) | (go_at_call 13; refine (hm _ _ ?_ ?_).mono ?_; rotate_left 2; unfold MidPost; rintro e w' ⟨rfl, hbm⟩; have HBM := Lib.hid hbm; clear hbm))
      all_goals (go_ret; exact ⟨rfl, below_drewN HB.out _⟩)
  · have h1 : 0 < orderF a b := by omega
    go_enter Try.func8, Try.ntmps8
    go_wp2_with (first | (go_at_call 11; refine (alive_f _).mono ?_; rintro e w' ⟨rfl, hb⟩; have HB := Lib.hid hb; clear hb) | (go_at_call 12; refine (of_f _ _).mono ?_; rintro e w' ⟨rfl, q, rfl⟩) | (go_at_call 14; refine (bits_f _ _).mono ?_; rintro e w' ⟨rfl, q, rfl⟩) | (go_at_call 16; refine (order_f _ _ _).mono ?_; rintro e w' ⟨rfl, q, rfl⟩) | (go_at_call 18; refine (canon_f _ _).mono ?_; rintro e w' ⟨rfl, q, rfl⟩) | (go_at_call 19; refine (same_f _ _ _).mono ?_; rintro e w' ⟨rfl, q, rfl⟩) | (go_at_call 20; refine (clamp_f _ _ _ _).mono ?_; rintro e w' ⟨rfl, q, rfl⟩) | (go_at_call 17; refine (code_f _ (by first | assumption | exact HD.out) _).mono ?_; rintro e w' ⟨rfl, q, rfl⟩) | (go_at_call 24; refine (decode_g (by first | assumption | exact HD2.out) _).mono ?_; rintro e w' ⟨rfl, q, rfl⟩) | (go_at_call 21; refine (rcanon (by assumption) _).mono ?_; rintro e w' ⟨rfl, q, rfl⟩) | (go_at_call 26; refine (rcode (by assumption) _).mono ?_; rintro e w' ⟨rfl, q, rfl⟩) | (go_at_call 22; refine (rorder (by assumption) (by assumption) _).mono ?_; rintro e w' ⟨rfl, q, rfl⟩) | (go_at_call 23; refine (rclamp (by assumption) (by assumption) (by assumption) _).mono ?_; rintro e w' ⟨rfl, q, rfl⟩) | (go_at_call 25; refine (rdecode (by assumption) _).mono ?_; rintro e w' ⟨rfl, q, rfl⟩) | (go_at_call 13; refine (hm _ _ ?_ ?_).mono ?_; rotate_left 2; unfold MidPost; rintro e w' ⟨rfl, hbm⟩; have HBM := Lib.hid hbm; clear hbm))
    all_goals (go_ret; exact ⟨rfl, below_drewN HB.out _⟩)
end Go.Proofs.Ytjpgdaphkmeijaa.Rl
