import Derived.Test.YtkmpfmhbkflgpaaGreatDoorCPrx0
-- Written by a program of this repo (wip/printx.py) out of the translation; Lean checks it.
namespace Go.Proofs.YtkmpfmhbkflgpaaGreatDoor.Pr
open Go.RowKit Go.Proofs.YtkmpfmhbkflgpaaGreatDoorW.PrintWords Go.Proofs.YtkmpfmhbkflgpaaGreatDoorW.PrintLast Go.Proofs.YtkmpfmhbkflgpaaGreatDoorW.PrintMore
attribute [local go_sem] max2_int min2_int max_two min_two max_three min_three max_four min_four   -- for this text's walks alone
set_option linter.unusedVariables false
set_option linter.unusedSimpArgs false

-- NOT PRINTED: function 71 (vote_Ballot_71)

-- NOT PRINTED: function 47 (vote_Case_own)
/-! ### chantryref05_value: function 31 -/
def chantryref05_value.l0 : Nat → Int → Int → Int → Option (Int)
  | 0, _, _, _ => none
  | k + 1, x0, x3, x4 => if x4 < (wrap64 (x0)) then (chantryref05_value.l0 k x0 (IntKind.u16.wrap (x3 * 2)) (wrap64 (x4 + 1))) else (some x3)
def chantryref05_value.f (k : Nat) (a0 : Int) : Option (Int) := if a0 > 15 then (some 0) else (chantryref05_value.l0 k a0 1 0)
theorem chantryref05_value.mono_l : ∀ k, (∀ y0 y1 y2, LeO (chantryref05_value.l0 k y0 y1 y2) (chantryref05_value.l0 (k + 1) y0 y1 y2))
  | 0 => fun _ _ _ r h => by simp [chantryref05_value.l0] at h
  | k + 1 => by
    have ih0 := chantryref05_value.mono_l k
    · intro y0 y1 y2
      unfold chantryref05_value.l0
      repeat' first
      | (with_reducible exact ih0 _ _ _)
      | (with_reducible exact LeO.refl _)
      | (with_reducible exact LeO.none _)
      | (with_reducible refine LeO.ite ?_ ?_)
      | (with_reducible refine LeO.bind ?_ (fun _ => ?_))
      | exact ih0 _ _ _
      | exact LeO.none _
      | refine LeO.ite ?_ ?_
      | refine LeO.bind ?_ (fun _ => ?_)
theorem chantryref05_value.mono : ∀ a0 k, LeO (chantryref05_value.f k a0) (chantryref05_value.f (k + 1) a0) := by
  intro a0 k
  have ih0 := chantryref05_value.mono_l k
  unfold chantryref05_value.f
  repeat' first
      | (with_reducible exact ih0 _ _ _)
      | (with_reducible exact LeO.refl _)
      | (with_reducible exact LeO.none _)
      | (with_reducible refine LeO.ite ?_ ?_)
      | (with_reducible refine LeO.bind ?_ (fun _ => ?_))
      | exact ih0 _ _ _
      | exact LeO.none _
      | refine LeO.ite ?_ ?_
      | refine LeO.bind ?_ (fun _ => ?_)
set_option maxHeartbeats 8000000 in
set_option maxRecDepth 100000 in
theorem chantryref05_value.calls (k : Nat) (a0 : Int) (r : Int) (w : World) (h : chantryref05_value.f k a0 = some r) :
    Calls Tryz.prog 31 #[.int .u8 a0] w fun e w' => e = .returned (.int .u16 r) ∧ Drawn0 w w' := by
  have H : (if a0 > 15 then (some 0) else (chantryref05_value.l0 k a0 1 0)) = some r := h
  clear h
  by_cases c2 : a0 > 15
  · rw [if_pos c2] at H
    have c2b0 : decide (15 < a0) = true := decide_eq_true c2
    clear c2
    obtain rfl := Option.some.inj H
    go_enter Tryz.func31, Tryz.ntmps31
    go_wp2
    go_ret
    exact ⟨by first | rfl | (simp; done) | (simp [*]; done), by repeat (first | exact Drawn0.refl _ | apply Drawn0.step)⟩
  · rw [if_neg c2] at H
    have c2b0 : decide (15 < a0) = false := decide_eq_false c2
    clear c2
    have H' := Aside0.mk H
    clear H
    go_enter Tryz.func31, Tryz.ntmps31
    go_wp2
    go_loopg [3, 4] k (fun kq v3 v4 w' => ∃ (x3_1 : Int) (x4_1 : Int), v3 = .int .u16 x3_1 ∧ v4 = .int .i64 x4_1 ∧ Aside0 (chantryref05_value.l0 kq a0 x3_1 x4_1 = some r) ∧ Aside0 (kq ≤ k) ∧ Drawn0 w w')
    case atStart => exact ⟨(1), (0), (by first | rfl | (simp; done) | (simp [*]; done)), (by first | rfl | (simp; done) | (simp [*]; done)), H', ⟨Nat.le_refl _⟩, by repeat (first | exact Drawn0.refl _ | apply Drawn0.step)⟩
    case round =>
      clear H'
      try clear c2
      try clear c2b0
      try clear p2
      obtain ⟨x3_1, x4_1, rfl, rfl, HA, HK1, ⟨m1, rfl⟩⟩ := hrel
      cases gk with
      | zero => exact absurd HA.out (by simp [chantryref05_value.l0])
      | succ k1 =>
        have H := HA.out
        clear HA
        simp only [chantryref05_value.l0] at H
        by_cases c3 : x4_1 < (wrap64 (a0))
        · rw [if_pos c3] at H
          have c3b0 : decide (x4_1 < (wrap64 (a0))) = true := decide_eq_true c3
          clear c3
          have H' := Aside0.mk H
          clear H
          go_wp2
          go_roundg k1
          case measure => have := HK1.out; omega
          case rel => exact ⟨(IntKind.u16.wrap (x3_1 * 2)), (wrap64 (x4_1 + 1)), (by first | rfl | (simp; done) | (simp [*]; done)), (by first | rfl | (simp; done) | (simp [*]; done)), H', ⟨by have := HK1.out; omega⟩, by repeat (first | exact Drawn0.refl _ | apply Drawn0.step)⟩
        · rw [if_neg c3] at H
          have c3b0 : decide (x4_1 < (wrap64 (a0))) = false := decide_eq_false c3
          clear c3
          obtain rfl := Option.some.inj H
          go_wp2
          go_ret
          exact ⟨by first | rfl | (simp; done) | (simp [*]; done), by repeat (first | exact Drawn0.refl _ | apply Drawn0.step)⟩

/-! ### chantryref05_Has: function 11 -/
def chantryref05_Has.f (k : Nat) (a0 : Int) (a1 : Int) : Option (Bool) := if a1 ≤ 15 then ((chantryref05_value.f k a1).bind fun t212 => (if t212 = 0 then (none) else (some ((Int.tmod (IntKind.u16.wrap (Int.tdiv a0 t212)) 2) == 1)))) else (some false)
theorem chantryref05_Has.mono : ∀ a0 a1 k, LeO (chantryref05_Has.f k a0 a1) (chantryref05_Has.f (k + 1) a0 a1) := by
  intro a0 a1 k
  unfold chantryref05_Has.f
  repeat' first
      | (with_reducible exact chantryref05_value.mono _ _)
      | (with_reducible exact LeO.refl _)
      | (with_reducible exact LeO.none _)
      | (with_reducible refine LeO.ite ?_ ?_)
      | (with_reducible refine LeO.bind ?_ (fun _ => ?_))
      | exact chantryref05_value.mono _ _
      | exact LeO.none _
      | refine LeO.ite ?_ ?_
      | refine LeO.bind ?_ (fun _ => ?_)
set_option maxHeartbeats 8000000 in
set_option maxRecDepth 100000 in
theorem chantryref05_Has.calls (k : Nat) (a0 : Int) (a1 : Int) (r : Bool) (w : World) (h : chantryref05_Has.f k a0 a1 = some r) :
    Calls Tryz.prog 11 #[.int .u16 a0, .int .u8 a1] w fun e w' => e = .returned (.bool r) ∧ Drawn0 w w' := by
  have H : (if a1 ≤ 15 then ((chantryref05_value.f k a1).bind fun t212 => (if t212 = 0 then (none) else (some ((Int.tmod (IntKind.u16.wrap (Int.tdiv a0 t212)) 2) == 1)))) else (some false)) = some r := h
  clear h
  by_cases c3 : a1 ≤ 15
  · rw [if_pos c3] at H
    have c3b0 : decide (a1 ≤ 15) = true := decide_eq_true c3
    clear c3
    replace H := Option.bind_eq_some_iff.mp H
    obtain ⟨t212, A40, H⟩ := H
    replace H : (if t212 = 0 then (none) else (some ((Int.tmod (IntKind.u16.wrap (Int.tdiv a0 t212)) 2) == 1))) = some r := H
    have A4 := Aside0.mk A40
    clear A40
    by_cases c5 : t212 = 0
    · rw [if_pos c5] at H
      exact absurd H (by simp)
    · rw [if_neg c5] at H
      have c5b0 : (t212 == 0) = false := beq_eq_false_iff_ne.mpr c5
      have c5b1 : (t212 != 0) = true := bne_iff_ne.mpr c5
      obtain rfl := Option.some.inj H
      go_enter Tryz.func11, Tryz.ntmps11
      go_wp2_with (first | (go_at_call 31; (with_reducible refine (chantryref05_value.calls k a1 t212 _ A4.out).mono ?_); rintro e w' ⟨rfl, ⟨nd, rfl⟩⟩))
      go_ret
      exact ⟨by first | rfl | (simp; done) | (simp [*]; done), by repeat (first | exact Drawn0.refl _ | apply Drawn0.step)⟩
  · rw [if_neg c3] at H
    have c3b0 : decide (a1 ≤ 15) = false := decide_eq_false c3
    clear c3
    obtain rfl := Option.some.inj H
    go_enter Tryz.func11, Tryz.ntmps11
    go_wp2
    go_ret
    exact ⟨by first | rfl | (simp; done) | (simp [*]; done), by repeat (first | exact Drawn0.refl _ | apply Drawn0.step)⟩

-- NOT PRINTED: function 65 (api_Term_65)

-- NOT PRINTED: function 32 (api_Term_32)

-- NOT PRINTED: function 33 (api_Term_33)

-- NOT PRINTED: function 12 (path_Have)
end Go.Proofs.YtkmpfmhbkflgpaaGreatDoor.Pr

