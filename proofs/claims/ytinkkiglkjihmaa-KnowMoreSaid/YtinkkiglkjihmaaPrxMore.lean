-- Written by a program of this repo (wip/printx.py) out of the translation; Lean checks it.
import Derived.Test.YtinkkiglkjihmaaPrxB
namespace Go.Proofs.Ytinkkiglkjihmaa.Pr
open Go.RowKit Go.Proofs.YtinkkiglkjihmaaW.PrintWords Go.Proofs.YtinkkiglkjihmaaW.PrintLast Go.Proofs.YtinkkiglkjihmaaW.PrintMore
attribute [local go_sem] max2_int min2_int max_two min_two max_three min_three max_four min_four   -- for this text's walks alone
set_option linter.unusedVariables false
set_option linter.unusedSimpArgs false

/-! ### chantrylaw04_KnowMore: function 4 -/
mutual
def chantrylaw04_KnowMore.j0 : Nat → List ByteArray → ByteArray → ByteArray → Bool → Option (Bool)
  | 0, _, _, _, _ => none
  | k + 1, x0, x1, x2, x48 => if x48 = true then (some true) else ((know_Derives.f x0 x2).bind fun bt124 => (if ([] : List ByteArray).length + x0.length < 8796093022208 then ((some (([] : List ByteArray) ++ x0 : List ByteArray)).bind fun y126 => (if y126.length < 8796093022208 then ((know_Derives.f (y126 ++ [x1]) x2).bind fun bt132 => ((know_Known.f x0).bind fun bt134 => (if bt124.2 = 0 then (if bt132.2 = 0 then (if bt134.2 = 0 then (if bt124.1 = true then (if bt132.1 = true then (chantrylaw04_KnowMore.j1 k x0 x2 bt124.1 bt124.2 bt132.1 bt132.2 bt134.1 bt134.2 (decide ((bt134.1.length : Int) > 200))) else (chantrylaw04_KnowMore.j1 k x0 x2 bt124.1 bt124.2 bt132.1 bt132.2 bt134.1 bt134.2 true)) else (chantrylaw04_KnowMore.j1 k x0 x2 bt124.1 bt124.2 bt132.1 bt132.2 bt134.1 bt134.2 (decide ((bt134.1.length : Int) > 200)))) else (chantrylaw04_KnowMore.j1 k x0 x2 bt124.1 bt124.2 bt132.1 bt132.2 bt134.1 bt134.2 true)) else (chantrylaw04_KnowMore.j1 k x0 x2 bt124.1 bt124.2 bt132.1 bt132.2 bt134.1 bt134.2 true)) else (chantrylaw04_KnowMore.j1 k x0 x2 bt124.1 bt124.2 bt132.1 bt132.2 bt134.1 bt134.2 true)))) else (none))) else (none)))
def chantrylaw04_KnowMore.j1 : Nat → List ByteArray → ByteArray → Bool → Int → Bool → Int → List ByteArray → Int → Bool → Option (Bool)
  | 0, _, _, _, _, _, _, _, _, _ => none
  | k + 1, x0, x2, x7, x8, x9, x10, x11, x12, x91 => if x91 = true then (if x8 = 0 then (if x10 = 0 then (if x12 = 0 then (if x7 = true then (some x9) else (some true)) else (some false)) else (some false)) else (some false)) else ((know_Derives.f x11 x2).bind fun bt138 => (chantrylaw04_KnowMore.l0 k x0 x7 bt138.1 bt138.2 x11 (x11.length : Int) 0))
def chantrylaw04_KnowMore.l0 : Nat → List ByteArray → Bool → Bool → Int → List ByteArray → Int → Int → Option (Bool)
  | 0, _, _, _, _, _, _, _ => none
  | k + 1, x0, x7, x13, x14, x115, x116, x117 => if x117 < x116 then (if 0 ≤ x117 then (if x117 < (x115.length : Int) then ((know_Derives.f x0 (rdOf ByteArray.empty x115 x117)).bind fun bt141 => (if bt141.1 = true then (if bt141.2 = 0 then (chantrylaw04_KnowMore.l0 k x0 x7 x13 x14 x115 x116 (wrap64 (x117 + 1))) else (some false)) else (some false))) else (none)) else (none)) else (if x14 = 0 then (some (x13 == x7)) else (some false))
end
def chantrylaw04_KnowMore.f (k : Nat) (l0 : List ByteArray) (a1 : ByteArray) (a2 : ByteArray) : Option (Bool) := (chantrylaw04_alive.f).bind fun t119 => (if t119 = true then ((chantrylaw04_Few.f k l0).bind fun t120 => (if t120 = true then ((chantrylaw04_right.f k l0).bind fun t121 => (if t121 = true then (if (a1.size : Int) > 400 then (chantrylaw04_KnowMore.j0 k l0 a1 a2 true) else (if (a2.size : Int) > 400 then (chantrylaw04_KnowMore.j0 k l0 a1 a2 true) else ((chantryref03_Check.f k a1).bind fun t122 => (if t122 = 0 then ((chantryref03_Check.f k a2).bind fun t123 => (chantrylaw04_KnowMore.j0 k l0 a1 a2 (t123 != 0))) else (chantrylaw04_KnowMore.j0 k l0 a1 a2 true))))) else (chantrylaw04_KnowMore.j0 k l0 a1 a2 true))) else (chantrylaw04_KnowMore.j0 k l0 a1 a2 true))) else (some false))
theorem chantrylaw04_KnowMore.mono_l : ∀ k, (∀ y0 y1 y2 y3, LeO (chantrylaw04_KnowMore.j0 k y0 y1 y2 y3) (chantrylaw04_KnowMore.j0 (k + 1) y0 y1 y2 y3)) ∧ (∀ y0 y1 y2 y3 y4 y5 y6 y7 y8, LeO (chantrylaw04_KnowMore.j1 k y0 y1 y2 y3 y4 y5 y6 y7 y8) (chantrylaw04_KnowMore.j1 (k + 1) y0 y1 y2 y3 y4 y5 y6 y7 y8)) ∧ (∀ y0 y1 y2 y3 y4 y5 y6, LeO (chantrylaw04_KnowMore.l0 k y0 y1 y2 y3 y4 y5 y6) (chantrylaw04_KnowMore.l0 (k + 1) y0 y1 y2 y3 y4 y5 y6))
  | 0 => ⟨fun _ _ _ _ r h => by simp [chantrylaw04_KnowMore.j0] at h, fun _ _ _ _ _ _ _ _ _ r h => by simp [chantrylaw04_KnowMore.j1] at h, fun _ _ _ _ _ _ _ r h => by simp [chantrylaw04_KnowMore.l0] at h⟩
  | k + 1 => by
    obtain ⟨ih0, ih1, ih2⟩ := chantrylaw04_KnowMore.mono_l k
    refine ⟨?_, ?_, ?_⟩
    · intro y0 y1 y2 y3
      unfold chantrylaw04_KnowMore.j0
      repeat' first
      | (with_reducible exact ih0 _ _ _ _)
      | (with_reducible exact ih1 _ _ _ _ _ _ _ _ _)
      | (with_reducible exact ih2 _ _ _ _ _ _ _)
      | (with_reducible exact chantrylaw04_Few.mono _ _)
      | (with_reducible exact chantrylaw04_right.mono _ _)
      | (with_reducible exact chantryref03_Check.mono _ _)
      | (with_reducible exact LeO.refl _)
      | (with_reducible exact LeO.none _)
      | (with_reducible refine LeO.ite ?_ ?_)
      | (with_reducible refine LeO.bind ?_ (fun _ => ?_))
      | exact ih0 _ _ _ _
      | exact ih1 _ _ _ _ _ _ _ _ _
      | exact ih2 _ _ _ _ _ _ _
      | exact chantrylaw04_Few.mono _ _
      | exact chantrylaw04_right.mono _ _
      | exact chantryref03_Check.mono _ _
      | exact LeO.none _
      | refine LeO.ite ?_ ?_
      | refine LeO.bind ?_ (fun _ => ?_)
    · intro y0 y1 y2 y3 y4 y5 y6 y7 y8
      unfold chantrylaw04_KnowMore.j1
      repeat' first
      | (with_reducible exact ih0 _ _ _ _)
      | (with_reducible exact ih1 _ _ _ _ _ _ _ _ _)
      | (with_reducible exact ih2 _ _ _ _ _ _ _)
      | (with_reducible exact chantrylaw04_Few.mono _ _)
      | (with_reducible exact chantrylaw04_right.mono _ _)
      | (with_reducible exact chantryref03_Check.mono _ _)
      | (with_reducible exact LeO.refl _)
      | (with_reducible exact LeO.none _)
      | (with_reducible refine LeO.ite ?_ ?_)
      | (with_reducible refine LeO.bind ?_ (fun _ => ?_))
      | exact ih0 _ _ _ _
      | exact ih1 _ _ _ _ _ _ _ _ _
      | exact ih2 _ _ _ _ _ _ _
      | exact chantrylaw04_Few.mono _ _
      | exact chantrylaw04_right.mono _ _
      | exact chantryref03_Check.mono _ _
      | exact LeO.none _
      | refine LeO.ite ?_ ?_
      | refine LeO.bind ?_ (fun _ => ?_)
    · intro y0 y1 y2 y3 y4 y5 y6
      unfold chantrylaw04_KnowMore.l0
      repeat' first
      | (with_reducible exact ih0 _ _ _ _)
      | (with_reducible exact ih1 _ _ _ _ _ _ _ _ _)
      | (with_reducible exact ih2 _ _ _ _ _ _ _)
      | (with_reducible exact chantrylaw04_Few.mono _ _)
      | (with_reducible exact chantrylaw04_right.mono _ _)
      | (with_reducible exact chantryref03_Check.mono _ _)
      | (with_reducible exact LeO.refl _)
      | (with_reducible exact LeO.none _)
      | (with_reducible refine LeO.ite ?_ ?_)
      | (with_reducible refine LeO.bind ?_ (fun _ => ?_))
      | exact ih0 _ _ _ _
      | exact ih1 _ _ _ _ _ _ _ _ _
      | exact ih2 _ _ _ _ _ _ _
      | exact chantrylaw04_Few.mono _ _
      | exact chantrylaw04_right.mono _ _
      | exact chantryref03_Check.mono _ _
      | exact LeO.none _
      | refine LeO.ite ?_ ?_
      | refine LeO.bind ?_ (fun _ => ?_)
theorem chantrylaw04_KnowMore.mono : ∀ a0 a1 a2 k, LeO (chantrylaw04_KnowMore.f k a0 a1 a2) (chantrylaw04_KnowMore.f (k + 1) a0 a1 a2) := by
  intro a0 a1 a2 k
  obtain ⟨ih0, ih1, ih2⟩ := chantrylaw04_KnowMore.mono_l k
  unfold chantrylaw04_KnowMore.f
  repeat' first
      | (with_reducible exact ih0 _ _ _ _)
      | (with_reducible exact ih1 _ _ _ _ _ _ _ _ _)
      | (with_reducible exact ih2 _ _ _ _ _ _ _)
      | (with_reducible exact chantrylaw04_Few.mono _ _)
      | (with_reducible exact chantrylaw04_right.mono _ _)
      | (with_reducible exact chantryref03_Check.mono _ _)
      | (with_reducible exact LeO.refl _)
      | (with_reducible exact LeO.none _)
      | (with_reducible refine LeO.ite ?_ ?_)
      | (with_reducible refine LeO.bind ?_ (fun _ => ?_))
      | exact ih0 _ _ _ _
      | exact ih1 _ _ _ _ _ _ _ _ _
      | exact ih2 _ _ _ _ _ _ _
      | exact chantrylaw04_Few.mono _ _
      | exact chantrylaw04_right.mono _ _
      | exact chantryref03_Check.mono _ _
      | exact LeO.none _
      | refine LeO.ite ?_ ?_
      | refine LeO.bind ?_ (fun _ => ?_)
set_option maxHeartbeats 8000000 in
set_option maxRecDepth 100000 in
theorem chantrylaw04_KnowMore.calls (k : Nat) (A0 : Option Addr) (c0 : Nat) (l0 : List ByteArray) (a1 : ByteArray) (a2 : ByteArray) (r : Bool) (w : World) (hr0 : Kd.C Kd.string w A0 l0.length l0) (hc0 : l0.length ≤ c0) (h : chantrylaw04_KnowMore.f k l0 a1 a2 = some r) (HTRUE : Aside0 (r = true) := by exact ⟨rfl⟩) :
    Calls Try.prog 4 #[.slice A0 l0.length c0, .string a1, .string a2] w fun e w' => e = .returned (.bool r) ∧ Below w.heap.size w w' := by
  have HR0 := Aside0.mk hr0
  have HC0 := Aside0.mk hc0
  clear hr0 hc0
  have HB := Aside0.mk (Below.refl w.heap.size w)
  have H : ((chantrylaw04_alive.f).bind fun t119 => (if t119 = true then ((chantrylaw04_Few.f k l0).bind fun t120 => (if t120 = true then ((chantrylaw04_right.f k l0).bind fun t121 => (if t121 = true then (if (a1.size : Int) > 400 then (chantrylaw04_KnowMore.j0 k l0 a1 a2 true) else (if (a2.size : Int) > 400 then (chantrylaw04_KnowMore.j0 k l0 a1 a2 true) else ((chantryref03_Check.f k a1).bind fun t122 => (if t122 = 0 then ((chantryref03_Check.f k a2).bind fun t123 => (chantrylaw04_KnowMore.j0 k l0 a1 a2 (t123 != 0))) else (chantrylaw04_KnowMore.j0 k l0 a1 a2 true))))) else (chantrylaw04_KnowMore.j0 k l0 a1 a2 true))) else (chantrylaw04_KnowMore.j0 k l0 a1 a2 true))) else (some false))) = some r := h
  clear h
  replace H := Option.bind_eq_some_iff.mp H
  obtain ⟨t119, A40, H⟩ := H
  replace H : (if t119 = true then ((chantrylaw04_Few.f k l0).bind fun t120 => (if t120 = true then ((chantrylaw04_right.f k l0).bind fun t121 => (if t121 = true then (if (a1.size : Int) > 400 then (chantrylaw04_KnowMore.j0 k l0 a1 a2 true) else (if (a2.size : Int) > 400 then (chantrylaw04_KnowMore.j0 k l0 a1 a2 true) else ((chantryref03_Check.f k a1).bind fun t122 => (if t122 = 0 then ((chantryref03_Check.f k a2).bind fun t123 => (chantrylaw04_KnowMore.j0 k l0 a1 a2 (t123 != 0))) else (chantrylaw04_KnowMore.j0 k l0 a1 a2 true))))) else (chantrylaw04_KnowMore.j0 k l0 a1 a2 true))) else (chantrylaw04_KnowMore.j0 k l0 a1 a2 true))) else (some false)) = some r := H
  have A4 := Aside0.mk A40
  clear A40
  by_cases c5 : t119 = true
  · subst c5
    have H1 : ((chantrylaw04_Few.f k l0).bind fun t120 => (if t120 = true then ((chantrylaw04_right.f k l0).bind fun t121 => (if t121 = true then (if (a1.size : Int) > 400 then (chantrylaw04_KnowMore.j0 k l0 a1 a2 true) else (if (a2.size : Int) > 400 then (chantrylaw04_KnowMore.j0 k l0 a1 a2 true) else ((chantryref03_Check.f k a1).bind fun t122 => (if t122 = 0 then ((chantryref03_Check.f k a2).bind fun t123 => (chantrylaw04_KnowMore.j0 k l0 a1 a2 (t123 != 0))) else (chantrylaw04_KnowMore.j0 k l0 a1 a2 true))))) else (chantrylaw04_KnowMore.j0 k l0 a1 a2 true))) else (chantrylaw04_KnowMore.j0 k l0 a1 a2 true))) = some r := by rw [if_pos rfl] at H; exact H
    clear H
    have H := H1
    clear H1
    have HC6 := Aside0.mk H
    clear H
    go_enter Try.func4, Try.ntmps4
    go_upto_region 3 with (first | ((with_reducible refine gate_callee (f := 11) rfl ?_); refine goesL_ (some 19) rfl rfl Try.func11 (by kernel_rfl) rfl #[] rfl (by (try simp only [List.map_toArray, List.map_cons, List.map_nil]); first | done | rfl | (simp only [List.length_drop, List.length_take]; rfl)) ?_; (with_reducible refine (chantrylaw04_alive.calls  true _ A4.out).mono ?_); rintro e w7 ⟨rfl, hb⟩; refine ⟨_, rfl, ?_⟩; have n0_ := Aside0.mk (below_step (by repeat (first | (with_reducible first | exact HB.out | apply below_alloc | apply pw_below_drewN | apply below_drew1) | exact HB.out)) hb); clear HB; have HB := n0_; clear n0_; (try clear hb); (try clear hb2); (try clear hk); (try clear hi)))
    (try simp only [Act.put, List.setIfInBounds_toArray, List.set_cons_zero, List.set_cons_succ])
    go_cut [48] (fun v48 wc => ∃ (kq : Nat) (x48_5 : Bool), v48 = .bool x48_5 ∧ Aside0 (chantrylaw04_KnowMore.j0 kq l0 a1 a2 x48_5 = some r) ∧ Aside0 (kq ≤ k) ∧ Aside0 (Below w.heap.size w wc))
    case first =>
      have H := HC6.out
      clear HC6
      replace H := Option.bind_eq_some_iff.mp H
      obtain ⟨t120, A80, H⟩ := H
      replace H : (if t120 = true then ((chantrylaw04_right.f k l0).bind fun t121 => (if t121 = true then (if (a1.size : Int) > 400 then (chantrylaw04_KnowMore.j0 k l0 a1 a2 true) else (if (a2.size : Int) > 400 then (chantrylaw04_KnowMore.j0 k l0 a1 a2 true) else ((chantryref03_Check.f k a1).bind fun t122 => (if t122 = 0 then ((chantryref03_Check.f k a2).bind fun t123 => (chantrylaw04_KnowMore.j0 k l0 a1 a2 (t123 != 0))) else (chantrylaw04_KnowMore.j0 k l0 a1 a2 true))))) else (chantrylaw04_KnowMore.j0 k l0 a1 a2 true))) else (chantrylaw04_KnowMore.j0 k l0 a1 a2 true)) = some r := H
      have A8 := Aside0.mk A80
      clear A80
      by_cases c9 : t120 = true
      · subst c9
        have H1 : ((chantrylaw04_right.f k l0).bind fun t121 => (if t121 = true then (if (a1.size : Int) > 400 then (chantrylaw04_KnowMore.j0 k l0 a1 a2 true) else (if (a2.size : Int) > 400 then (chantrylaw04_KnowMore.j0 k l0 a1 a2 true) else ((chantryref03_Check.f k a1).bind fun t122 => (if t122 = 0 then ((chantryref03_Check.f k a2).bind fun t123 => (chantrylaw04_KnowMore.j0 k l0 a1 a2 (t123 != 0))) else (chantrylaw04_KnowMore.j0 k l0 a1 a2 true))))) else (chantrylaw04_KnowMore.j0 k l0 a1 a2 true))) = some r := by rw [if_pos rfl] at H; exact H
        clear H
        have H := H1
        clear H1
        replace H := Option.bind_eq_some_iff.mp H
        obtain ⟨t121, A100, H⟩ := H
        replace H : (if t121 = true then (if (a1.size : Int) > 400 then (chantrylaw04_KnowMore.j0 k l0 a1 a2 true) else (if (a2.size : Int) > 400 then (chantrylaw04_KnowMore.j0 k l0 a1 a2 true) else ((chantryref03_Check.f k a1).bind fun t122 => (if t122 = 0 then ((chantryref03_Check.f k a2).bind fun t123 => (chantrylaw04_KnowMore.j0 k l0 a1 a2 (t123 != 0))) else (chantrylaw04_KnowMore.j0 k l0 a1 a2 true))))) else (chantrylaw04_KnowMore.j0 k l0 a1 a2 true)) = some r := H
        have A10 := Aside0.mk A100
        clear A100
        by_cases c11 : t121 = true
        · subst c11
          have H1 : (if (a1.size : Int) > 400 then (chantrylaw04_KnowMore.j0 k l0 a1 a2 true) else (if (a2.size : Int) > 400 then (chantrylaw04_KnowMore.j0 k l0 a1 a2 true) else ((chantryref03_Check.f k a1).bind fun t122 => (if t122 = 0 then ((chantryref03_Check.f k a2).bind fun t123 => (chantrylaw04_KnowMore.j0 k l0 a1 a2 (t123 != 0))) else (chantrylaw04_KnowMore.j0 k l0 a1 a2 true))))) = some r := by rw [if_pos rfl] at H; exact H
          clear H
          have H := H1
          clear H1
          by_cases c12 : (a1.size : Int) > 400
          · rw [if_pos c12] at H
            have c12b0 : decide (400 < (a1.size : Int)) = true := decide_eq_true c12
            have c12b1 : decide (400 < a1.size) = true := decide_eq_true (by omega)
            clear c12
            (first | rw [c12b0] | (simp only [i64_w, i32_w]; rw [c12b0]) | skip)
            have H' := Aside0.mk H
            clear H
            go_wp2_with (first | ((with_reducible refine gate_callee (f := 12) rfl ?_); refine goesL_ (some 22) rfl rfl Try.func12 (by kernel_rfl) rfl #[.slice A0 l0.length c0] rfl (by (try simp only [List.map_toArray, List.map_cons, List.map_nil]); first | done | rfl | (simp only [List.length_drop, List.length_take]; rfl)) ?_; (with_reducible refine (chantrylaw04_Few.calls k _ _ l0 true _ ?side1 ?side2 A8.out).mono ?_); (case side1 => repeat (first | exact (Kd.C_below HR0.out HB.out) | (with_reducible refine Kd.C_alloc ?_ _) | (with_reducible refine Kd.C_drewN ?_ _) | (with_reducible refine Kd.C_drew ?_))); (case side2 => exact HC0.out); rintro e w' ⟨rfl, ⟨nd, rfl⟩⟩; refine ⟨_, rfl, ?_⟩) | (go_at_call 18; (with_reducible refine (chantrylaw04_right.calls k _ _ l0 true _ ?side1 ?side2 A10.out).mono ?_); (case side1 => repeat (first | exact (Kd.C_below HR0.out (by repeat (first | (with_reducible first | exact HB.out | apply below_alloc | apply pw_below_drewN | apply below_drew1) | exact HB.out))) | (with_reducible refine Kd.C_alloc ?_ _) | (with_reducible refine Kd.C_drewN ?_ _) | (with_reducible refine Kd.C_drew ?_))); (case side2 => exact HC0.out); rintro e w13 ⟨rfl, hb⟩; have n0_ := Aside0.mk (below_step (by repeat (first | (with_reducible first | exact HB.out | apply below_alloc | apply pw_below_drewN | apply below_drew1) | exact HB.out)) hb); clear HB; have HB := n0_; clear n0_; (try clear hb); (try clear hb2); (try clear hk); (try clear hi)))
            go_meet
            case rel => exact ⟨_, (true), (by first | rfl | (simp; done) | (simp [*]; done)), H', ⟨by first | omega | exact Nat.le_refl _⟩, ⟨by repeat (first | (with_reducible first | exact HB.out | apply below_alloc | apply pw_below_drewN | apply below_drew1) | exact HB.out)⟩⟩
          · rw [if_neg c12] at H
            have c12b0 : decide (400 < (a1.size : Int)) = false := decide_eq_false c12
            have c12b1 : decide (400 < a1.size) = false := decide_eq_false (by omega)
            clear c12
            (first | rw [c12b0] | (simp only [i64_w, i32_w]; rw [c12b0]) | skip)
            by_cases c14 : (a2.size : Int) > 400
            · rw [if_pos c14] at H
              have c14b0 : decide (400 < (a2.size : Int)) = true := decide_eq_true c14
              have c14b1 : decide (400 < a2.size) = true := decide_eq_true (by omega)
              clear c14
              have H' := Aside0.mk H
              clear H
              go_wp2_with (first | ((with_reducible refine gate_callee (f := 12) rfl ?_); refine goesL_ (some 22) rfl rfl Try.func12 (by kernel_rfl) rfl #[.slice A0 l0.length c0] rfl (by (try simp only [List.map_toArray, List.map_cons, List.map_nil]); first | done | rfl | (simp only [List.length_drop, List.length_take]; rfl)) ?_; (with_reducible refine (chantrylaw04_Few.calls k _ _ l0 true _ ?side1 ?side2 A8.out).mono ?_); (case side1 => repeat (first | exact (Kd.C_below HR0.out HB.out) | (with_reducible refine Kd.C_alloc ?_ _) | (with_reducible refine Kd.C_drewN ?_ _) | (with_reducible refine Kd.C_drew ?_))); (case side2 => exact HC0.out); rintro e w' ⟨rfl, ⟨nd, rfl⟩⟩; refine ⟨_, rfl, ?_⟩) | (go_at_call 18; (with_reducible refine (chantrylaw04_right.calls k _ _ l0 true _ ?side1 ?side2 A10.out).mono ?_); (case side1 => repeat (first | exact (Kd.C_below HR0.out (by repeat (first | (with_reducible first | exact HB.out | apply below_alloc | apply pw_below_drewN | apply below_drew1) | exact HB.out))) | (with_reducible refine Kd.C_alloc ?_ _) | (with_reducible refine Kd.C_drewN ?_ _) | (with_reducible refine Kd.C_drew ?_))); (case side2 => exact HC0.out); rintro e w15 ⟨rfl, hb⟩; have n0_ := Aside0.mk (below_step (by repeat (first | (with_reducible first | exact HB.out | apply below_alloc | apply pw_below_drewN | apply below_drew1) | exact HB.out)) hb); clear HB; have HB := n0_; clear n0_; (try clear hb); (try clear hb2); (try clear hk); (try clear hi)))
              go_meet
              case rel => exact ⟨_, (true), (by first | rfl | (simp; done) | (simp [*]; done)), H', ⟨by first | omega | exact Nat.le_refl _⟩, ⟨by repeat (first | (with_reducible first | exact HB.out | apply below_alloc | apply pw_below_drewN | apply below_drew1) | exact HB.out)⟩⟩
            · rw [if_neg c14] at H
              have c14b0 : decide (400 < (a2.size : Int)) = false := decide_eq_false c14
              have c14b1 : decide (400 < a2.size) = false := decide_eq_false (by omega)
              clear c14
              replace H := Option.bind_eq_some_iff.mp H
              obtain ⟨t122, A160, H⟩ := H
              replace H : (if t122 = 0 then ((chantryref03_Check.f k a2).bind fun t123 => (chantrylaw04_KnowMore.j0 k l0 a1 a2 (t123 != 0))) else (chantrylaw04_KnowMore.j0 k l0 a1 a2 true)) = some r := H
              have A16 := Aside0.mk A160
              clear A160
              by_cases c17 : t122 = 0
              · rw [if_pos c17] at H
                have c17b0 : (t122 == 0) = true := beq_iff_eq.mpr c17
                have c17b1 : (t122 != 0) = false := bne_eq_false_iff_eq.mpr c17
                clear c17
                replace H := Option.bind_eq_some_iff.mp H
                obtain ⟨t123, A180, H⟩ := H
                replace H : (chantrylaw04_KnowMore.j0 k l0 a1 a2 (t123 != 0)) = some r := H
                have A18 := Aside0.mk A180
                clear A180
                have H' := Aside0.mk H
                clear H
                go_wp2_with (first | ((with_reducible refine gate_callee (f := 12) rfl ?_); refine goesL_ (some 22) rfl rfl Try.func12 (by kernel_rfl) rfl #[.slice A0 l0.length c0] rfl (by (try simp only [List.map_toArray, List.map_cons, List.map_nil]); first | done | rfl | (simp only [List.length_drop, List.length_take]; rfl)) ?_; (with_reducible refine (chantrylaw04_Few.calls k _ _ l0 true _ ?side1 ?side2 A8.out).mono ?_); (case side1 => repeat (first | exact (Kd.C_below HR0.out HB.out) | (with_reducible refine Kd.C_alloc ?_ _) | (with_reducible refine Kd.C_drewN ?_ _) | (with_reducible refine Kd.C_drew ?_))); (case side2 => exact HC0.out); rintro e w' ⟨rfl, ⟨nd, rfl⟩⟩; refine ⟨_, rfl, ?_⟩) | (go_at_call 18; (with_reducible refine (chantrylaw04_right.calls k _ _ l0 true _ ?side1 ?side2 A10.out).mono ?_); (case side1 => repeat (first | exact (Kd.C_below HR0.out (by repeat (first | (with_reducible first | exact HB.out | apply below_alloc | apply pw_below_drewN | apply below_drew1) | exact HB.out))) | (with_reducible refine Kd.C_alloc ?_ _) | (with_reducible refine Kd.C_drewN ?_ _) | (with_reducible refine Kd.C_drew ?_))); (case side2 => exact HC0.out); rintro e w19 ⟨rfl, hb⟩; have n0_ := Aside0.mk (below_step (by repeat (first | (with_reducible first | exact HB.out | apply below_alloc | apply pw_below_drewN | apply below_drew1) | exact HB.out)) hb); clear HB; have HB := n0_; clear n0_; (try clear hb); (try clear hb2); (try clear hk); (try clear hi)) | (go_at_call 19; (with_reducible refine (chantryref03_Check.calls k a1 t122 _ A16.out).mono ?_); rintro e w20 ⟨rfl, hb⟩; have n0_ := Aside0.mk (below_step (by repeat (first | (with_reducible first | exact HB.out | apply below_alloc | apply pw_below_drewN | apply below_drew1) | exact HB.out)) hb); clear HB; have HB := n0_; clear n0_; (try clear hb); (try clear hb2); (try clear hk); (try clear hi)) | (go_at_call 19; (with_reducible refine (chantryref03_Check.calls k a2 t123 _ A18.out).mono ?_); rintro e w21 ⟨rfl, hb⟩; have n0_ := Aside0.mk (below_step (by repeat (first | (with_reducible first | exact HB.out | apply below_alloc | apply pw_below_drewN | apply below_drew1) | exact HB.out)) hb); clear HB; have HB := n0_; clear n0_; (try clear hb); (try clear hb2); (try clear hk); (try clear hi)))
                go_meet
                case rel => exact ⟨_, ((t123 != 0)), (by first | rfl | (simp; done) | (simp [*]; done)), H', ⟨by first | omega | exact Nat.le_refl _⟩, ⟨by repeat (first | (with_reducible first | exact HB.out | apply below_alloc | apply pw_below_drewN | apply below_drew1) | exact HB.out)⟩⟩
              · rw [if_neg c17] at H
                have c17b0 : (t122 == 0) = false := beq_eq_false_iff_ne.mpr c17
                have c17b1 : (t122 != 0) = true := bne_iff_ne.mpr c17
                have H' := Aside0.mk H
                clear H
                go_wp2_with (first | ((with_reducible refine gate_callee (f := 12) rfl ?_); refine goesL_ (some 22) rfl rfl Try.func12 (by kernel_rfl) rfl #[.slice A0 l0.length c0] rfl (by (try simp only [List.map_toArray, List.map_cons, List.map_nil]); first | done | rfl | (simp only [List.length_drop, List.length_take]; rfl)) ?_; (with_reducible refine (chantrylaw04_Few.calls k _ _ l0 true _ ?side1 ?side2 A8.out).mono ?_); (case side1 => repeat (first | exact (Kd.C_below HR0.out HB.out) | (with_reducible refine Kd.C_alloc ?_ _) | (with_reducible refine Kd.C_drewN ?_ _) | (with_reducible refine Kd.C_drew ?_))); (case side2 => exact HC0.out); rintro e w' ⟨rfl, ⟨nd, rfl⟩⟩; refine ⟨_, rfl, ?_⟩) | (go_at_call 18; (with_reducible refine (chantrylaw04_right.calls k _ _ l0 true _ ?side1 ?side2 A10.out).mono ?_); (case side1 => repeat (first | exact (Kd.C_below HR0.out (by repeat (first | (with_reducible first | exact HB.out | apply below_alloc | apply pw_below_drewN | apply below_drew1) | exact HB.out))) | (with_reducible refine Kd.C_alloc ?_ _) | (with_reducible refine Kd.C_drewN ?_ _) | (with_reducible refine Kd.C_drew ?_))); (case side2 => exact HC0.out); rintro e w22 ⟨rfl, hb⟩; have n0_ := Aside0.mk (below_step (by repeat (first | (with_reducible first | exact HB.out | apply below_alloc | apply pw_below_drewN | apply below_drew1) | exact HB.out)) hb); clear HB; have HB := n0_; clear n0_; (try clear hb); (try clear hb2); (try clear hk); (try clear hi)) | (go_at_call 19; (with_reducible refine (chantryref03_Check.calls k a1 t122 _ A16.out).mono ?_); rintro e w23 ⟨rfl, hb⟩; have n0_ := Aside0.mk (below_step (by repeat (first | (with_reducible first | exact HB.out | apply below_alloc | apply pw_below_drewN | apply below_drew1) | exact HB.out)) hb); clear HB; have HB := n0_; clear n0_; (try clear hb); (try clear hb2); (try clear hk); (try clear hi)))
                go_meet
                case rel => exact ⟨_, (true), (by first | rfl | (simp; done) | (simp [*]; done)), H', ⟨by first | omega | exact Nat.le_refl _⟩, ⟨by repeat (first | (with_reducible first | exact HB.out | apply below_alloc | apply pw_below_drewN | apply below_drew1) | exact HB.out)⟩⟩
        · replace c11 := Bool.eq_false_iff.mpr c11
          subst c11
          have H1 : (chantrylaw04_KnowMore.j0 k l0 a1 a2 true) = some r := by rw [if_neg (show ¬ (false = true) by decide)] at H; exact H
          clear H
          have H := H1
          clear H1
          have H' := Aside0.mk H
          clear H
          go_wp2_with (first | ((with_reducible refine gate_callee (f := 12) rfl ?_); refine goesL_ (some 22) rfl rfl Try.func12 (by kernel_rfl) rfl #[.slice A0 l0.length c0] rfl (by (try simp only [List.map_toArray, List.map_cons, List.map_nil]); first | done | rfl | (simp only [List.length_drop, List.length_take]; rfl)) ?_; (with_reducible refine (chantrylaw04_Few.calls k _ _ l0 true _ ?side1 ?side2 A8.out).mono ?_); (case side1 => repeat (first | exact (Kd.C_below HR0.out HB.out) | (with_reducible refine Kd.C_alloc ?_ _) | (with_reducible refine Kd.C_drewN ?_ _) | (with_reducible refine Kd.C_drew ?_))); (case side2 => exact HC0.out); rintro e w' ⟨rfl, ⟨nd, rfl⟩⟩; refine ⟨_, rfl, ?_⟩) | (go_at_call 18; (with_reducible refine (chantrylaw04_right.calls k _ _ l0 false _ ?side1 ?side2 A10.out).mono ?_); (case side1 => repeat (first | exact (Kd.C_below HR0.out (by repeat (first | (with_reducible first | exact HB.out | apply below_alloc | apply pw_below_drewN | apply below_drew1) | exact HB.out))) | (with_reducible refine Kd.C_alloc ?_ _) | (with_reducible refine Kd.C_drewN ?_ _) | (with_reducible refine Kd.C_drew ?_))); (case side2 => exact HC0.out); rintro e w24 ⟨rfl, hb⟩; have n0_ := Aside0.mk (below_step (by repeat (first | (with_reducible first | exact HB.out | apply below_alloc | apply pw_below_drewN | apply below_drew1) | exact HB.out)) hb); clear HB; have HB := n0_; clear n0_; (try clear hb); (try clear hb2); (try clear hk); (try clear hi)))
          go_meet
          case rel => exact ⟨_, (true), (by first | rfl | (simp; done) | (simp [*]; done)), H', ⟨by first | omega | exact Nat.le_refl _⟩, ⟨by repeat (first | (with_reducible first | exact HB.out | apply below_alloc | apply pw_below_drewN | apply below_drew1) | exact HB.out)⟩⟩
      · replace c9 := Bool.eq_false_iff.mpr c9
        subst c9
        have H1 : (chantrylaw04_KnowMore.j0 k l0 a1 a2 true) = some r := by rw [if_neg (show ¬ (false = true) by decide)] at H; exact H
        clear H
        have H := H1
        clear H1
        have H' := Aside0.mk H
        clear H
        go_wp2_with (first | ((with_reducible refine gate_callee (f := 12) rfl ?_); refine goesL_ (some 22) rfl rfl Try.func12 (by kernel_rfl) rfl #[.slice A0 l0.length c0] rfl (by (try simp only [List.map_toArray, List.map_cons, List.map_nil]); first | done | rfl | (simp only [List.length_drop, List.length_take]; rfl)) ?_; (with_reducible refine (chantrylaw04_Few.calls k _ _ l0 false _ ?side1 ?side2 A8.out).mono ?_); (case side1 => repeat (first | exact (Kd.C_below HR0.out HB.out) | (with_reducible refine Kd.C_alloc ?_ _) | (with_reducible refine Kd.C_drewN ?_ _) | (with_reducible refine Kd.C_drew ?_))); (case side2 => exact HC0.out); rintro e w' ⟨rfl, ⟨nd, rfl⟩⟩; refine ⟨_, rfl, ?_⟩))
        go_meet
        case rel => exact ⟨_, (true), (by first | rfl | (simp; done) | (simp [*]; done)), H', ⟨by first | omega | exact Nat.le_refl _⟩, ⟨by repeat (first | (with_reducible first | exact HB.out | apply below_alloc | apply pw_below_drewN | apply below_drew1) | exact HB.out)⟩⟩
    case rest =>
      clear HC6
      try clear c1
      try clear p2
      try clear c4
      try clear c5
      try clear c9
      try clear c11
      try clear c12
      try clear c12b0
      try clear c12b1
      try clear c14
      try clear c14b0
      try clear c14b1
      try clear c17
      try clear c17b0
      try clear c17b1
      obtain ⟨kq, x48_5, rfl, HA, HJ5, HB⟩ := hcut
      cases kq with
      | zero => exact absurd HA.out (by simp [chantrylaw04_KnowMore.j0])
      | succ kj5 =>
        have H := HA.out
        clear HA
        simp only [chantrylaw04_KnowMore.j0] at H
        by_cases c25 : x48_5 = true
        · subst c25
          have H1 : (some true) = some r := by rw [if_pos rfl] at H; exact H
          clear H
          have H := H1
          clear H1
          obtain rfl := Option.some.inj H
          go_wp2
          go_ret
          exact ⟨by first | rfl | (simp [errW_none, errW_some] <;> rfl) | (simp [*, errW_none, errW_some] <;> rfl), by repeat (first | (with_reducible first | exact HB.out | apply below_alloc | apply pw_below_drewN | apply below_drew1) | exact HB.out)⟩
        · replace c25 := Bool.eq_false_iff.mpr c25
          subst c25
          have H1 : ((know_Derives.f l0 a2).bind fun bt124 => (if ([] : List ByteArray).length + l0.length < 8796093022208 then ((some (([] : List ByteArray) ++ l0 : List ByteArray)).bind fun y126 => (if y126.length < 8796093022208 then ((know_Derives.f (y126 ++ [a1]) a2).bind fun bt132 => ((know_Known.f l0).bind fun bt134 => (if bt124.2 = 0 then (if bt132.2 = 0 then (if bt134.2 = 0 then (if bt124.1 = true then (if bt132.1 = true then (chantrylaw04_KnowMore.j1 kj5 l0 a2 bt124.1 bt124.2 bt132.1 bt132.2 bt134.1 bt134.2 (decide ((bt134.1.length : Int) > 200))) else (chantrylaw04_KnowMore.j1 kj5 l0 a2 bt124.1 bt124.2 bt132.1 bt132.2 bt134.1 bt134.2 true)) else (chantrylaw04_KnowMore.j1 kj5 l0 a2 bt124.1 bt124.2 bt132.1 bt132.2 bt134.1 bt134.2 (decide ((bt134.1.length : Int) > 200)))) else (chantrylaw04_KnowMore.j1 kj5 l0 a2 bt124.1 bt124.2 bt132.1 bt132.2 bt134.1 bt134.2 true)) else (chantrylaw04_KnowMore.j1 kj5 l0 a2 bt124.1 bt124.2 bt132.1 bt132.2 bt134.1 bt134.2 true)) else (chantrylaw04_KnowMore.j1 kj5 l0 a2 bt124.1 bt124.2 bt132.1 bt132.2 bt134.1 bt134.2 true)))) else (none))) else (none))) = some r := by rw [if_neg (show ¬ (false = true) by decide)] at H; exact H
          clear H
          have H := H1
          clear H1
          replace H := Option.bind_eq_some_iff.mp H
          obtain ⟨⟨t124, t125⟩, A260, H⟩ := H
          replace H : (if ([] : List ByteArray).length + l0.length < 8796093022208 then ((some (([] : List ByteArray) ++ l0 : List ByteArray)).bind fun y126 => (if y126.length < 8796093022208 then ((know_Derives.f (y126 ++ [a1]) a2).bind fun bt132 => ((know_Known.f l0).bind fun bt134 => (if t125 = 0 then (if bt132.2 = 0 then (if bt134.2 = 0 then (if t124 = true then (if bt132.1 = true then (chantrylaw04_KnowMore.j1 kj5 l0 a2 t124 t125 bt132.1 bt132.2 bt134.1 bt134.2 (decide ((bt134.1.length : Int) > 200))) else (chantrylaw04_KnowMore.j1 kj5 l0 a2 t124 t125 bt132.1 bt132.2 bt134.1 bt134.2 true)) else (chantrylaw04_KnowMore.j1 kj5 l0 a2 t124 t125 bt132.1 bt132.2 bt134.1 bt134.2 (decide ((bt134.1.length : Int) > 200)))) else (chantrylaw04_KnowMore.j1 kj5 l0 a2 t124 t125 bt132.1 bt132.2 bt134.1 bt134.2 true)) else (chantrylaw04_KnowMore.j1 kj5 l0 a2 t124 t125 bt132.1 bt132.2 bt134.1 bt134.2 true)) else (chantrylaw04_KnowMore.j1 kj5 l0 a2 t124 t125 bt132.1 bt132.2 bt134.1 bt134.2 true)))) else (none))) else (none)) = some r := H
          have A26 := Aside0.mk A260
          clear A260
          by_cases c27 : ([] : List ByteArray).length + l0.length < 8796093022208
          · rw [if_pos c27] at H
            have LMc27 := Aside0.mk c27
            clear c27
            obtain ⟨y126, hy126⟩ : ∃ y_ : List ByteArray, y_ = (([] : List ByteArray) ++ l0) := ⟨_, rfl⟩
            replace H : (if y126.length < 8796093022208 then ((know_Derives.f (y126 ++ [a1]) a2).bind fun bt132 => ((know_Known.f l0).bind fun bt134 => (if t125 = 0 then (if bt132.2 = 0 then (if bt134.2 = 0 then (if t124 = true then (if bt132.1 = true then (chantrylaw04_KnowMore.j1 kj5 l0 a2 t124 t125 bt132.1 bt132.2 bt134.1 bt134.2 (decide ((bt134.1.length : Int) > 200))) else (chantrylaw04_KnowMore.j1 kj5 l0 a2 t124 t125 bt132.1 bt132.2 bt134.1 bt134.2 true)) else (chantrylaw04_KnowMore.j1 kj5 l0 a2 t124 t125 bt132.1 bt132.2 bt134.1 bt134.2 (decide ((bt134.1.length : Int) > 200)))) else (chantrylaw04_KnowMore.j1 kj5 l0 a2 t124 t125 bt132.1 bt132.2 bt134.1 bt134.2 true)) else (chantrylaw04_KnowMore.j1 kj5 l0 a2 t124 t125 bt132.1 bt132.2 bt134.1 bt134.2 true)) else (chantrylaw04_KnowMore.j1 kj5 l0 a2 t124 t125 bt132.1 bt132.2 bt134.1 bt134.2 true)))) else (none)) = some r := by first | (rw [hy126]; with_reducible exact H) | (have H2_ := (Option.bind_some _ _).symm.trans H; rw [hy126]; with_reducible exact H2_) | (have H2_ := (Option.bind_some _ _).symm.trans H; with_reducible exact H2_) | with_reducible exact H | (rw [hy126]; exact H) | exact H
            have Ny126 := Aside0.mk hy126
            clear hy126
            by_cases c28 : y126.length < 8796093022208
            · rw [if_pos c28] at H
              have LMc28 := Aside0.mk c28
              clear c28
              obtain ⟨y129, hy129⟩ : ∃ y_ : List ByteArray, y_ = (y126 ++ [a1]) := ⟨_, rfl⟩
              replace H : ((know_Derives.f y129 a2).bind fun bt132 => ((know_Known.f l0).bind fun bt134 => (if t125 = 0 then (if bt132.2 = 0 then (if bt134.2 = 0 then (if t124 = true then (if bt132.1 = true then (chantrylaw04_KnowMore.j1 kj5 l0 a2 t124 t125 bt132.1 bt132.2 bt134.1 bt134.2 (decide ((bt134.1.length : Int) > 200))) else (chantrylaw04_KnowMore.j1 kj5 l0 a2 t124 t125 bt132.1 bt132.2 bt134.1 bt134.2 true)) else (chantrylaw04_KnowMore.j1 kj5 l0 a2 t124 t125 bt132.1 bt132.2 bt134.1 bt134.2 (decide ((bt134.1.length : Int) > 200)))) else (chantrylaw04_KnowMore.j1 kj5 l0 a2 t124 t125 bt132.1 bt132.2 bt134.1 bt134.2 true)) else (chantrylaw04_KnowMore.j1 kj5 l0 a2 t124 t125 bt132.1 bt132.2 bt134.1 bt134.2 true)) else (chantrylaw04_KnowMore.j1 kj5 l0 a2 t124 t125 bt132.1 bt132.2 bt134.1 bt134.2 true)))) = some r := by first | (rw [hy129]; with_reducible exact H) | (have H2_ := (Option.bind_some _ _).symm.trans H; rw [hy129]; with_reducible exact H2_) | (have H2_ := (Option.bind_some _ _).symm.trans H; with_reducible exact H2_) | with_reducible exact H | (rw [hy129]; exact H) | exact H
              have Ny129 := Aside0.mk hy129
              clear hy129
              replace H := Option.bind_eq_some_iff.mp H
              obtain ⟨⟨t132, t133⟩, A290, H⟩ := H
              replace H : ((know_Known.f l0).bind fun bt134 => (if t125 = 0 then (if t133 = 0 then (if bt134.2 = 0 then (if t124 = true then (if t132 = true then (chantrylaw04_KnowMore.j1 kj5 l0 a2 t124 t125 t132 t133 bt134.1 bt134.2 (decide ((bt134.1.length : Int) > 200))) else (chantrylaw04_KnowMore.j1 kj5 l0 a2 t124 t125 t132 t133 bt134.1 bt134.2 true)) else (chantrylaw04_KnowMore.j1 kj5 l0 a2 t124 t125 t132 t133 bt134.1 bt134.2 (decide ((bt134.1.length : Int) > 200)))) else (chantrylaw04_KnowMore.j1 kj5 l0 a2 t124 t125 t132 t133 bt134.1 bt134.2 true)) else (chantrylaw04_KnowMore.j1 kj5 l0 a2 t124 t125 t132 t133 bt134.1 bt134.2 true)) else (chantrylaw04_KnowMore.j1 kj5 l0 a2 t124 t125 t132 t133 bt134.1 bt134.2 true))) = some r := H
              have A29 := Aside0.mk A290
              clear A290
              replace H := Option.bind_eq_some_iff.mp H
              obtain ⟨⟨t134, t135⟩, A300, H⟩ := H
              replace H : (if t125 = 0 then (if t133 = 0 then (if t135 = 0 then (if t124 = true then (if t132 = true then (chantrylaw04_KnowMore.j1 kj5 l0 a2 t124 t125 t132 t133 t134 t135 (decide ((t134.length : Int) > 200))) else (chantrylaw04_KnowMore.j1 kj5 l0 a2 t124 t125 t132 t133 t134 t135 true)) else (chantrylaw04_KnowMore.j1 kj5 l0 a2 t124 t125 t132 t133 t134 t135 (decide ((t134.length : Int) > 200)))) else (chantrylaw04_KnowMore.j1 kj5 l0 a2 t124 t125 t132 t133 t134 t135 true)) else (chantrylaw04_KnowMore.j1 kj5 l0 a2 t124 t125 t132 t133 t134 t135 true)) else (chantrylaw04_KnowMore.j1 kj5 l0 a2 t124 t125 t132 t133 t134 t135 true)) = some r := H
              have A30 := Aside0.mk A300
              clear A300
              have HC31 := Aside0.mk H
              clear H
              go_upto_region 8 with (first | ((with_reducible refine gate_callee (f := 15) rfl ?_); refine goesL_ (some 52) rfl rfl Try.func15 (by kernel_rfl) rfl #[.slice A0 l0.length c0, .string a2] rfl (by (try simp only [List.map_toArray, List.map_cons, List.map_nil]); first | done | rfl | (simp only [List.length_drop, List.length_take]; rfl)) ?_; (with_reducible refine (know_Derives.calls _ _ l0 a2 t124 t125 _ ?side1 ?side2 A26.out).mono ?_); (case side1 => repeat (first | exact (Kd.C_below HR0.out HB.out) | (with_reducible refine Kd.C_alloc ?_ _) | (with_reducible refine Kd.C_drewN ?_ _) | (with_reducible refine Kd.C_drew ?_))); (case side2 => exact HC0.out); rintro e w32 ⟨rfl, hb⟩; refine ⟨_, rfl, ?_⟩; have n0_ := Aside0.mk (below_step (by repeat (first | (with_reducible first | exact HB.out | apply below_alloc | apply pw_below_drewN | apply below_drew1) | exact HB.out)) hb); clear HB; have HB := n0_; clear n0_; (try clear hb); (try clear hb2); (try clear hk); (try clear hi)) | ((with_reducible refine gate_builtin (b := .append) (xs := #[.const (.slice none 0 0), .tmp 56]) rfl ?_); (try (refine gate_guard (by rfl) ?_; dsimp only)); at_builtin; refine Kd.R_append_rows Kd.string (w0 := w) w.heap.size rfl (.const (.slice none 0 0)) (.tmp 56) 22 23 (.string ⟨#[]⟩) 16 rfl Try.underlying22 info23 rfl (by decide) (by omega) (.slice none 0 0) ([] : List ByteArray) l0 _ _ _ (fun _ => True) (fun _ => False) rfl rfl ?aO ?aR (fun _ _ h => h) (fun _ h => h.elim) ?aF ?aB ?aS ?aL ?_; (case aR => repeat (first | exact (Kd.C_below HR0.out HB.out) | (with_reducible refine Kd.C_alloc ?_ _) | (with_reducible refine Kd.C_drewN ?_ _) | (with_reducible refine Kd.C_drew ?_))); (case aB => exact (by repeat (first | (with_reducible first | exact HB.out | apply below_alloc | apply pw_below_drewN | apply below_drew1) | exact HB.out))); (case aF => exact (fun _ _ => trivial)); (case aO => exact ((Kd.R_nil _ _ _ _ (fun _ => True)))); (case aS => exact (below_size (by repeat (first | (with_reducible first | exact HB.out | apply below_alloc | apply pw_below_drewN | apply below_drew1) | exact HB.out)))); (case aL => have := LMc27.out; omega); intro v127 w33 ho hb hg hat; rw [← Ny126.out] at ho; have n0_ := Aside0.mk (hb); have n1_ := Aside0.mk (ho); clear HB; have HB := n0_; have HO128 := n1_; clear n0_ n1_; clear ho hb hg hat) | ((with_reducible refine gate_builtin (b := .append) (xs := #[.tmp 57, .tmp 59]) rfl ?_); (try (refine gate_guard (by rfl) ?_; dsimp only)); at_builtin; refine Kd.R_append Kd.string (w0 := w) w.heap.size rfl (.tmp 57) (.tmp 59) 22 23 (.string ⟨#[]⟩) 16 rfl Try.underlying22 info23 rfl (by decide) (by omega) v127 y126 a1 [.string a1] (fun _ => True) (fun _ => False) rfl rfl ?aP (fun _ hk => hk.elim) ?aF ?aO ?aB ?aS ?aL ?_; (case aP => exact rfl); (case aB => exact (by repeat (first | (with_reducible first | exact HB.out | apply below_alloc | apply pw_below_drewN | apply below_drew1) | exact HB.out))); (case aF => exact (fun _ _ => trivial)); (case aO => exact (by (with_reducible repeat (first | apply Kd.R_alloc | apply Kd.R_drewN | apply Kd.R_drew)); exact HO128.out)); (case aS => exact (below_size (by repeat (first | (with_reducible first | exact HB.out | apply below_alloc | apply pw_below_drewN | apply below_drew1) | exact HB.out)))); (case aL => have := LMc28.out; omega); intro v130 w34 ho hb hg hat; rw [← Ny129.out] at ho; have n0_ := Aside0.mk (hb); have n1_ := Aside0.mk (ho); clear HB; clear HO128; have HB := n0_; have HO131 := n1_; clear n0_ n1_; clear ho hb hg hat; obtain ⟨Ao35, co35, eo35⟩ := Kd.R_slice HO131.out; subst eo35) | ((with_reducible refine gate_callee (f := 15) rfl ?_); refine goesL_ (some 62) rfl rfl Try.func15 (by kernel_rfl) rfl #[.slice Ao35 y129.length co35, .string a2] rfl (by (try simp only [List.map_toArray, List.map_cons, List.map_nil]); first | done | rfl | (simp only [List.length_drop, List.length_take]; rfl)) ?_; (with_reducible refine (know_Derives.calls _ _ y129 a2 t132 t133 _ ?side1 ?side2 A29.out).mono ?_); (case side1 => repeat (first | exact (Kd.R_reads' HO131.out).2.2 | (with_reducible refine Kd.C_alloc ?_ _) | (with_reducible refine Kd.C_drewN ?_ _) | (with_reducible refine Kd.C_drew ?_))); (case side2 => exact (Kd.R_reads' HO131.out).2.1); rintro e w36 ⟨rfl, hb⟩; refine ⟨_, rfl, ?_⟩; have n0_ := Aside0.mk (Kd.R_below (by (with_reducible repeat (first | apply Kd.R_alloc | apply Kd.R_drewN | apply Kd.R_drew)); exact HO131.out) hb); have n1_ := Aside0.mk (below_step (by repeat (first | (with_reducible first | exact HB.out | apply below_alloc | apply pw_below_drewN | apply below_drew1) | exact HB.out)) hb); clear HO131; clear HB; have HO131 := n0_; have HB := n1_; clear n0_ n1_; (try clear hb); (try clear hb2); (try clear hk); (try clear hi)) | ((with_reducible refine gate_callee (f := 13) rfl ?_); refine goesL_ (some 67) rfl rfl Try.func13 (by kernel_rfl) rfl #[.slice A0 l0.length c0] rfl (by (try simp only [List.map_toArray, List.map_cons, List.map_nil]); first | done | rfl | (simp only [List.length_drop, List.length_take]; rfl)) ?_; (with_reducible refine (know_Known.calls _ _ l0 t134 t135 _ ?side1 ?side2 A30.out).mono ?_); (case side1 => repeat (first | exact (Kd.C_below HR0.out HB.out) | (with_reducible refine Kd.C_alloc ?_ _) | (with_reducible refine Kd.C_drewN ?_ _) | (with_reducible refine Kd.C_drew ?_))); (case side2 => exact HC0.out); rintro e w37 ⟨v136, rfl, ho0, hb⟩; refine ⟨_, rfl, ?_⟩; have n0_ := Aside0.mk (Kd.R_elder' (by (with_reducible repeat (first | apply Kd.R_alloc | apply Kd.R_drewN | apply Kd.R_drew)); exact HO131.out) (Kd.R_base ho0) hb); have n1_ := Aside0.mk (Kd.R_lower (Kd.R_new' ho0 (Kd.R_lt (by (with_reducible repeat (first | apply Kd.R_alloc | apply Kd.R_drewN | apply Kd.R_drew)); exact HO131.out))) (below_size (by repeat (first | (with_reducible first | exact HB.out | apply below_alloc | apply pw_below_drewN | apply below_drew1) | exact HB.out)))); have n2_ := Aside0.mk (below_step (by repeat (first | (with_reducible first | exact HB.out | apply below_alloc | apply pw_below_drewN | apply below_drew1) | exact HB.out)) hb); clear HO131; clear HB; have HO131 := n0_; have HO137 := n1_; have HB := n2_; clear n0_ n1_ n2_; (try clear hb); (try clear hb2); (try clear hk); (try clear hi); (try clear ho0)))
              (try simp only [Act.put, List.setIfInBounds_toArray, List.set_cons_zero, List.set_cons_succ])
              go_cut [91] (fun v91 wc => ∃ (kq : Nat) (x91_30 : Bool), v91 = .bool x91_30 ∧ Aside0 (chantrylaw04_KnowMore.j1 kq l0 a2 t124 t125 t132 t133 t134 t135 x91_30 = some r) ∧ Aside0 (kq ≤ kj5) ∧ Aside0 (Kd.R Kd.string 23 wc w.heap.size (fun _ => True) v136 t134) ∧ Aside0 (Below w.heap.size w wc))
              case first =>
                have H := HC31.out
                clear HC31
                by_cases c38 : t125 = 0
                · rw [if_pos c38] at H
                  have c38b0 : (t125 == 0) = true := beq_iff_eq.mpr c38
                  have c38b1 : (t125 != 0) = false := bne_eq_false_iff_eq.mpr c38
                  clear c38
                  (first | rw [c38b0] | (simp only [i64_w, i32_w]; rw [c38b0]) | skip)
                  by_cases c39 : t133 = 0
                  · rw [if_pos c39] at H
                    have c39b0 : (t133 == 0) = true := beq_iff_eq.mpr c39
                    have c39b1 : (t133 != 0) = false := bne_eq_false_iff_eq.mpr c39
                    clear c39
                    by_cases c40 : t135 = 0
                    · rw [if_pos c40] at H
                      have c40b0 : (t135 == 0) = true := beq_iff_eq.mpr c40
                      have c40b1 : (t135 != 0) = false := bne_eq_false_iff_eq.mpr c40
                      clear c40
                      by_cases c41 : t124 = true
                      · subst c41
                        have H1 : (if t132 = true then (chantrylaw04_KnowMore.j1 kj5 l0 a2 true t125 t132 t133 t134 t135 (decide ((t134.length : Int) > 200))) else (chantrylaw04_KnowMore.j1 kj5 l0 a2 true t125 t132 t133 t134 t135 true)) = some r := by rw [if_pos rfl] at H; exact H
                        clear H
                        have H := H1
                        clear H1
                        by_cases c42 : t132 = true
                        · subst c42
                          have H1 : (chantrylaw04_KnowMore.j1 kj5 l0 a2 true t125 true t133 t134 t135 (decide ((t134.length : Int) > 200))) = some r := by rw [if_pos rfl] at H; exact H
                          clear H
                          have H := H1
                          clear H1
                          have H' := Aside0.mk H
                          clear H
                          obtain ⟨Ao43, co43, eo43⟩ := Kd.R_slice HO137.out
                          subst eo43
                          go_wp2
                          go_meet
                          case rel => exact ⟨_, (decide ((t134.length : Int) > 200)), (by first | rfl | (simp; done) | (simp [*]; done)), H', ⟨by have := HJ5.out; first | omega | exact Nat.le_refl _⟩, ⟨by (with_reducible repeat (first | apply Kd.R_alloc | apply Kd.R_drewN | apply Kd.R_drew)); exact Kd.R_mono HO137.out (fun _ hk => trivial)⟩, ⟨by repeat (first | (with_reducible first | exact HB.out | apply below_alloc | apply pw_below_drewN | apply below_drew1) | exact HB.out)⟩⟩
                        · replace c42 := Bool.eq_false_iff.mpr c42
                          subst c42
                          have H1 : (chantrylaw04_KnowMore.j1 kj5 l0 a2 true t125 false t133 t134 t135 true) = some r := by rw [if_neg (show ¬ (false = true) by decide)] at H; exact H
                          clear H
                          have H := H1
                          clear H1
                          have H' := Aside0.mk H
                          clear H
                          go_wp2
                          go_meet
                          case rel => exact ⟨_, (true), (by first | rfl | (simp; done) | (simp [*]; done)), H', ⟨by have := HJ5.out; first | omega | exact Nat.le_refl _⟩, ⟨by (with_reducible repeat (first | apply Kd.R_alloc | apply Kd.R_drewN | apply Kd.R_drew)); exact Kd.R_mono HO137.out (fun _ hk => trivial)⟩, ⟨by repeat (first | (with_reducible first | exact HB.out | apply below_alloc | apply pw_below_drewN | apply below_drew1) | exact HB.out)⟩⟩
                      · replace c41 := Bool.eq_false_iff.mpr c41
                        subst c41
                        have H1 : (chantrylaw04_KnowMore.j1 kj5 l0 a2 false t125 t132 t133 t134 t135 (decide ((t134.length : Int) > 200))) = some r := by rw [if_neg (show ¬ (false = true) by decide)] at H; exact H
                        clear H
                        have H := H1
                        clear H1
                        have H' := Aside0.mk H
                        clear H
                        obtain ⟨Ao44, co44, eo44⟩ := Kd.R_slice HO137.out
                        subst eo44
                        go_wp2
                        go_meet
                        case rel => exact ⟨_, (decide ((t134.length : Int) > 200)), (by first | rfl | (simp; done) | (simp [*]; done)), H', ⟨by have := HJ5.out; first | omega | exact Nat.le_refl _⟩, ⟨by (with_reducible repeat (first | apply Kd.R_alloc | apply Kd.R_drewN | apply Kd.R_drew)); exact Kd.R_mono HO137.out (fun _ hk => trivial)⟩, ⟨by repeat (first | (with_reducible first | exact HB.out | apply below_alloc | apply pw_below_drewN | apply below_drew1) | exact HB.out)⟩⟩
                    · rw [if_neg c40] at H
                      have c40b0 : (t135 == 0) = false := beq_eq_false_iff_ne.mpr c40
                      have c40b1 : (t135 != 0) = true := bne_iff_ne.mpr c40
                      have H' := Aside0.mk H
                      clear H
                      go_wp2
                      go_meet
                      case rel => exact ⟨_, (true), (by first | rfl | (simp; done) | (simp [*]; done)), H', ⟨by have := HJ5.out; first | omega | exact Nat.le_refl _⟩, ⟨by (with_reducible repeat (first | apply Kd.R_alloc | apply Kd.R_drewN | apply Kd.R_drew)); exact Kd.R_mono HO137.out (fun _ hk => trivial)⟩, ⟨by repeat (first | (with_reducible first | exact HB.out | apply below_alloc | apply pw_below_drewN | apply below_drew1) | exact HB.out)⟩⟩
                  · rw [if_neg c39] at H
                    have c39b0 : (t133 == 0) = false := beq_eq_false_iff_ne.mpr c39
                    have c39b1 : (t133 != 0) = true := bne_iff_ne.mpr c39
                    have H' := Aside0.mk H
                    clear H
                    go_wp2
                    go_meet
                    case rel => exact ⟨_, (true), (by first | rfl | (simp; done) | (simp [*]; done)), H', ⟨by have := HJ5.out; first | omega | exact Nat.le_refl _⟩, ⟨by (with_reducible repeat (first | apply Kd.R_alloc | apply Kd.R_drewN | apply Kd.R_drew)); exact Kd.R_mono HO137.out (fun _ hk => trivial)⟩, ⟨by repeat (first | (with_reducible first | exact HB.out | apply below_alloc | apply pw_below_drewN | apply below_drew1) | exact HB.out)⟩⟩
                · rw [if_neg c38] at H
                  have c38b0 : (t125 == 0) = false := beq_eq_false_iff_ne.mpr c38
                  have c38b1 : (t125 != 0) = true := bne_iff_ne.mpr c38
                  (first | rw [c38b0] | (simp only [i64_w, i32_w]; rw [c38b0]) | skip)
                  have H' := Aside0.mk H
                  clear H
                  go_wp2
                  go_meet
                  case rel => exact ⟨_, (true), (by first | rfl | (simp; done) | (simp [*]; done)), H', ⟨by have := HJ5.out; first | omega | exact Nat.le_refl _⟩, ⟨by (with_reducible repeat (first | apply Kd.R_alloc | apply Kd.R_drewN | apply Kd.R_drew)); exact Kd.R_mono HO137.out (fun _ hk => trivial)⟩, ⟨by repeat (first | (with_reducible first | exact HB.out | apply below_alloc | apply pw_below_drewN | apply below_drew1) | exact HB.out)⟩⟩
              case rest =>
                clear HC31
                try clear c1
                try clear c2
                try clear p2
                try clear c3
                try clear c4
                try clear c5
                try clear c9
                try clear c11
                try clear c12
                try clear c12b0
                try clear c12b1
                try clear c13
                try clear c14
                try clear c14b0
                try clear c14b1
                try clear c15
                try clear c17
                try clear c17b0
                try clear c17b1
                try clear c25
                try clear c27
                try clear c28
                try clear c38
                try clear c38b0
                try clear c38b1
                try clear c39
                try clear c39b0
                try clear c39b1
                try clear c40
                try clear c40b0
                try clear c40b1
                try clear c41
                try clear c42
                try clear p2
                obtain ⟨kq, x91_30, rfl, HA, HJ30, HO_11, HB⟩ := hcut
                cases kq with
                | zero => exact absurd HA.out (by simp [chantrylaw04_KnowMore.j1])
                | succ kj30 =>
                  have H := HA.out
                  clear HA
                  simp only [chantrylaw04_KnowMore.j1] at H
                  by_cases c45 : x91_30 = true
                  · subst c45
                    have H1 : (if t125 = 0 then (if t133 = 0 then (if t135 = 0 then (if t124 = true then (some t132) else (some true)) else (some false)) else (some false)) else (some false)) = some r := by rw [if_pos rfl] at H; exact H
                    clear H
                    have H := H1
                    clear H1
                    by_cases c46 : t125 = 0
                    · rw [if_pos c46] at H
                      have c46b0 : (t125 == 0) = true := beq_iff_eq.mpr c46
                      have c46b1 : (t125 != 0) = false := bne_eq_false_iff_eq.mpr c46
                      clear c46
                      by_cases c47 : t133 = 0
                      · rw [if_pos c47] at H
                        have c47b0 : (t133 == 0) = true := beq_iff_eq.mpr c47
                        have c47b1 : (t133 != 0) = false := bne_eq_false_iff_eq.mpr c47
                        clear c47
                        by_cases c48 : t135 = 0
                        · rw [if_pos c48] at H
                          have c48b0 : (t135 == 0) = true := beq_iff_eq.mpr c48
                          have c48b1 : (t135 != 0) = false := bne_eq_false_iff_eq.mpr c48
                          clear c48
                          by_cases c49 : t124 = true
                          · subst c49
                            have H1 : (some t132) = some r := by rw [if_pos rfl] at H; exact H
                            clear H
                            have H := H1
                            clear H1
                            obtain rfl := Option.some.inj H
                            go_wp2
                            go_ret
                            exact ⟨by first | rfl | (simp [errW_none, errW_some] <;> rfl) | (simp [*, errW_none, errW_some] <;> rfl), by repeat (first | (with_reducible first | exact HB.out | apply below_alloc | apply pw_below_drewN | apply below_drew1) | exact HB.out)⟩
                          · replace c49 := Bool.eq_false_iff.mpr c49
                            subst c49
                            have H1 : (some true) = some r := by rw [if_neg (show ¬ (false = true) by decide)] at H; exact H
                            clear H
                            have H := H1
                            clear H1
                            obtain rfl := Option.some.inj H
                            go_wp2
                            go_ret
                            exact ⟨by first | rfl | (simp [errW_none, errW_some] <;> rfl) | (simp [*, errW_none, errW_some] <;> rfl), by repeat (first | (with_reducible first | exact HB.out | apply below_alloc | apply pw_below_drewN | apply below_drew1) | exact HB.out)⟩
                        · rw [if_neg c48] at H
                          have c48b0 : (t135 == 0) = false := beq_eq_false_iff_ne.mpr c48
                          have c48b1 : (t135 != 0) = true := bne_iff_ne.mpr c48
                          obtain rfl := Option.some.inj H
                          go_wp2
                          go_ret
                          exact ⟨by first | rfl | (simp [errW_none, errW_some] <;> rfl) | (simp [*, errW_none, errW_some] <;> rfl), by repeat (first | (with_reducible first | exact HB.out | apply below_alloc | apply pw_below_drewN | apply below_drew1) | exact HB.out)⟩
                      · rw [if_neg c47] at H
                        have c47b0 : (t133 == 0) = false := beq_eq_false_iff_ne.mpr c47
                        have c47b1 : (t133 != 0) = true := bne_iff_ne.mpr c47
                        obtain rfl := Option.some.inj H
                        go_wp2
                        go_ret
                        exact ⟨by first | rfl | (simp [errW_none, errW_some] <;> rfl) | (simp [*, errW_none, errW_some] <;> rfl), by repeat (first | (with_reducible first | exact HB.out | apply below_alloc | apply pw_below_drewN | apply below_drew1) | exact HB.out)⟩
                    · rw [if_neg c46] at H
                      have c46b0 : (t125 == 0) = false := beq_eq_false_iff_ne.mpr c46
                      have c46b1 : (t125 != 0) = true := bne_iff_ne.mpr c46
                      obtain rfl := Option.some.inj H
                      go_wp2
                      go_ret
                      exact ⟨by first | rfl | (simp [errW_none, errW_some] <;> rfl) | (simp [*, errW_none, errW_some] <;> rfl), by repeat (first | (with_reducible first | exact HB.out | apply below_alloc | apply pw_below_drewN | apply below_drew1) | exact HB.out)⟩
                  · replace c45 := Bool.eq_false_iff.mpr c45
                    subst c45
                    have H1 : ((know_Derives.f t134 a2).bind fun bt138 => (chantrylaw04_KnowMore.l0 kj30 l0 t124 bt138.1 bt138.2 t134 (t134.length : Int) 0)) = some r := by rw [if_neg (show ¬ (false = true) by decide)] at H; exact H
                    clear H
                    have H := H1
                    clear H1
                    replace H := Option.bind_eq_some_iff.mp H
                    obtain ⟨⟨t138, t139⟩, A500, H⟩ := H
                    replace H : (chantrylaw04_KnowMore.l0 kj30 l0 t124 t138 t139 t134 (t134.length : Int) 0) = some r := H
                    have A50 := Aside0.mk A500
                    clear A500
                    have H' := Aside0.mk H
                    clear H
                    obtain ⟨Ao51, co51, eo51⟩ := Kd.R_slice HO_11.out
                    subst eo51
                    go_wp2_with (first | ((with_reducible refine gate_callee (f := 15) rfl ?_); refine goesL_ (some 112) rfl rfl Try.func15 (by kernel_rfl) rfl #[.slice Ao51 t134.length co51, .string a2] rfl (by (try simp only [List.map_toArray, List.map_cons, List.map_nil]); first | done | rfl | (simp only [List.length_drop, List.length_take]; rfl)) ?_; (with_reducible refine (know_Derives.calls _ _ t134 a2 t138 t139 _ ?side1 ?side2 A50.out).mono ?_); (case side1 => repeat (first | exact (Kd.R_reads' HO_11.out).2.2 | (with_reducible refine Kd.C_alloc ?_ _) | (with_reducible refine Kd.C_drewN ?_ _) | (with_reducible refine Kd.C_drew ?_))); (case side2 => exact (Kd.R_reads' HO_11.out).2.1); rintro e w52 ⟨rfl, hb⟩; refine ⟨_, rfl, ?_⟩; have n0_ := Aside0.mk (Kd.R_below (by (with_reducible repeat (first | apply Kd.R_alloc | apply Kd.R_drewN | apply Kd.R_drew)); exact HO_11.out) hb); have n1_ := Aside0.mk (below_step (by repeat (first | (with_reducible first | exact HB.out | apply below_alloc | apply pw_below_drewN | apply below_drew1) | exact HB.out)) hb); clear HO_11; clear HB; have HO_11 := n0_; have HB := n1_; clear n0_ n1_; (try clear hb); (try clear hb2); (try clear hk); (try clear hi)))
                    go_loopg [117] kj30 (fun kq v117 w' => ∃ (x117_3 : Int), v117 = .int .i64 x117_3 ∧ Aside0 (chantrylaw04_KnowMore.l0 kq l0 t124 t138 t139 t134 (t134.length : Int) x117_3 = some r) ∧ Aside0 (kq ≤ kj30) ∧ Aside0 (Kd.R Kd.string 23 w' w.heap.size (fun _ => True) (.slice Ao51 t134.length co51) t134) ∧ Aside0 (Below w.heap.size w w'))
                    case atStart => exact ⟨(0), (by first | rfl | (simp; done) | (simp [*]; done)), H', ⟨Nat.le_refl _⟩, ⟨by (with_reducible repeat (first | apply Kd.R_alloc | apply Kd.R_drewN | apply Kd.R_drew)); exact HO_11.out⟩, ⟨by repeat (first | (with_reducible first | exact HB.out | apply below_alloc | apply pw_below_drewN | apply below_drew1) | exact HB.out)⟩⟩
                    case round =>
                      clear H'
                      try clear c1
                      try clear c2
                      try clear p2
                      try clear c3
                      try clear c4
                      try clear c5
                      try clear c9
                      try clear c11
                      try clear c12
                      try clear c12b0
                      try clear c12b1
                      try clear c13
                      try clear c14
                      try clear c14b0
                      try clear c14b1
                      try clear c15
                      try clear c17
                      try clear c17b0
                      try clear c17b1
                      try clear c25
                      try clear c27
                      try clear c28
                      try clear c38
                      try clear c38b0
                      try clear c38b1
                      try clear c39
                      try clear c39b0
                      try clear c39b1
                      try clear c40
                      try clear c40b0
                      try clear c40b1
                      try clear c41
                      try clear c42
                      try clear c45
                      try clear c46
                      try clear c46b0
                      try clear c46b1
                      try clear c47
                      try clear c47b0
                      try clear c47b1
                      try clear c48
                      try clear c48b0
                      try clear c48b1
                      try clear c49
                      try clear p2
                      obtain ⟨x117_3, rfl, HA, HK3, HO_115, HB⟩ := hrel
                      cases gk with
                      | zero => exact absurd HA.out (by simp [chantrylaw04_KnowMore.l0])
                      | succ k3 =>
                        have H := HA.out
                        clear HA
                        simp only [chantrylaw04_KnowMore.l0] at H
                        by_cases c53 : x117_3 < (t134.length : Int)
                        · rw [if_pos c53] at H
                          have c53b0 : decide (x117_3 < (t134.length : Int)) = true := decide_eq_true c53
                          clear c53
                          by_cases c54 : 0 ≤ x117_3
                          · rw [if_pos c54] at H
                            have c54b0 : decide (0 ≤ x117_3) = true := decide_eq_true c54
                            clear c54
                            by_cases c55 : x117_3 < (t134.length : Int)
                            · rw [if_pos c55] at H
                              have c55b0 : decide (x117_3 < (t134.length : Int)) = true := decide_eq_true c55
                              clear c55
                              replace H := Option.bind_eq_some_iff.mp H
                              obtain ⟨⟨t141, t142⟩, A560, H⟩ := H
                              replace H : (if t141 = true then (if t142 = 0 then (chantrylaw04_KnowMore.l0 k3 l0 t124 t138 t139 t134 (t134.length : Int) (wrap64 (x117_3 + 1))) else (some false)) else (some false)) = some r := H
                              have A56 := Aside0.mk A560
                              clear A560
                              by_cases c57 : t141 = true
                              · subst c57
                                have H1 : (if t142 = 0 then (chantrylaw04_KnowMore.l0 k3 l0 t124 t138 t139 t134 (t134.length : Int) (wrap64 (x117_3 + 1))) else (some false)) = some r := by rw [if_pos rfl] at H; exact H
                                clear H
                                have H := H1
                                clear H1
                                by_cases c58 : t142 = 0
                                · rw [if_pos c58] at H
                                  have c58b0 : (t142 == 0) = true := beq_iff_eq.mpr c58
                                  have c58b1 : (t142 != 0) = false := bne_eq_false_iff_eq.mpr c58
                                  clear c58
                                  have H' := Aside0.mk H
                                  clear H
                                  have p140 : 0 ≤ (x117_3 : Int) := of_decide_eq_true (by first | (with_reducible assumption) | assumption)
                                  have q140 : x117_3 < (t134.length : Int) := of_decide_eq_true (by first | (with_reducible assumption) | assumption)
                                  obtain ⟨ad140, e140, hx140_0⟩ := Kd.at_string (Kd.R_reads' HO_115.out).2.2 x117_3 p140 q140
                                  cases e140
                                  replace p140 := eq_true p140
                                  replace q140 := eq_true q140
                                  go_wp2_with (first | ((with_reducible refine gate_callee (f := 15) rfl ?_); refine goesL_ (some 124) rfl rfl Try.func15 (by kernel_rfl) rfl #[.slice A0 l0.length c0, .string (rdOf ByteArray.empty t134 x117_3)] rfl (by (try simp only [List.map_toArray, List.map_cons, List.map_nil]); first | done | rfl | (simp only [List.length_drop, List.length_take]; rfl)) ?_; (with_reducible refine (know_Derives.calls _ _ l0 (rdOf ByteArray.empty t134 x117_3) true t142 _ ?side1 ?side2 A56.out).mono ?_); (case side1 => repeat (first | exact (Kd.C_below HR0.out HB.out) | (with_reducible refine Kd.C_alloc ?_ _) | (with_reducible refine Kd.C_drewN ?_ _) | (with_reducible refine Kd.C_drew ?_))); (case side2 => exact HC0.out); rintro e w59 ⟨rfl, hb⟩; refine ⟨_, rfl, ?_⟩; have n0_ := Aside0.mk (Kd.R_below (by (with_reducible repeat (first | apply Kd.R_alloc | apply Kd.R_drewN | apply Kd.R_drew)); exact HO_115.out) hb); have n1_ := Aside0.mk (below_step (by repeat (first | (with_reducible first | exact HB.out | apply below_alloc | apply pw_below_drewN | apply below_drew1) | exact HB.out)) hb); clear HO_115; clear HB; have HO_115 := n0_; have HB := n1_; clear n0_ n1_; (try clear hb); (try clear hb2); (try clear hk); (try clear hi)))
                                  go_roundg k3
                                  case measure => have := HJ5.out; have := HJ30.out; have := HK3.out; omega
                                  case rel => exact ⟨(wrap64 (x117_3 + 1)), (by first | rfl | (simp; done) | (simp [*]; done)), H', ⟨by have := HJ5.out; have := HJ30.out; have := HK3.out; omega⟩, ⟨by (with_reducible repeat (first | apply Kd.R_alloc | apply Kd.R_drewN | apply Kd.R_drew)); exact HO_115.out⟩, ⟨by repeat (first | (with_reducible first | exact HB.out | apply below_alloc | apply pw_below_drewN | apply below_drew1) | exact HB.out)⟩⟩
                                · rw [if_neg c58] at H
                                  have c58b0 : (t142 == 0) = false := beq_eq_false_iff_ne.mpr c58
                                  have c58b1 : (t142 != 0) = true := bne_iff_ne.mpr c58
                                  obtain rfl := Option.some.inj H
                                  have p140 : 0 ≤ (x117_3 : Int) := of_decide_eq_true (by first | (with_reducible assumption) | assumption)
                                  have q140 : x117_3 < (t134.length : Int) := of_decide_eq_true (by first | (with_reducible assumption) | assumption)
                                  obtain ⟨ad140, e140, hx140_0⟩ := Kd.at_string (Kd.R_reads' HO_115.out).2.2 x117_3 p140 q140
                                  cases e140
                                  replace p140 := eq_true p140
                                  replace q140 := eq_true q140
                                  go_wp2_with (first | ((with_reducible refine gate_callee (f := 15) rfl ?_); refine goesL_ (some 124) rfl rfl Try.func15 (by kernel_rfl) rfl #[.slice A0 l0.length c0, .string (rdOf ByteArray.empty t134 x117_3)] rfl (by (try simp only [List.map_toArray, List.map_cons, List.map_nil]); first | done | rfl | (simp only [List.length_drop, List.length_take]; rfl)) ?_; (with_reducible refine (know_Derives.calls _ _ l0 (rdOf ByteArray.empty t134 x117_3) true t142 _ ?side1 ?side2 A56.out).mono ?_); (case side1 => repeat (first | exact (Kd.C_below HR0.out HB.out) | (with_reducible refine Kd.C_alloc ?_ _) | (with_reducible refine Kd.C_drewN ?_ _) | (with_reducible refine Kd.C_drew ?_))); (case side2 => exact HC0.out); rintro e w60 ⟨rfl, hb⟩; refine ⟨_, rfl, ?_⟩; have n0_ := Aside0.mk (Kd.R_below (by (with_reducible repeat (first | apply Kd.R_alloc | apply Kd.R_drewN | apply Kd.R_drew)); exact HO_115.out) hb); have n1_ := Aside0.mk (below_step (by repeat (first | (with_reducible first | exact HB.out | apply below_alloc | apply pw_below_drewN | apply below_drew1) | exact HB.out)) hb); clear HO_115; clear HB; have HO_115 := n0_; have HB := n1_; clear n0_ n1_; (try clear hb); (try clear hb2); (try clear hk); (try clear hi)))
                                  go_ret
                                  exact ⟨by first | rfl | (simp [errW_none, errW_some] <;> rfl) | (simp [*, errW_none, errW_some] <;> rfl), by repeat (first | (with_reducible first | exact HB.out | apply below_alloc | apply pw_below_drewN | apply below_drew1) | exact HB.out)⟩
                              · replace c57 := Bool.eq_false_iff.mpr c57
                                subst c57
                                have H1 : (some false) = some r := by rw [if_neg (show ¬ (false = true) by decide)] at H; exact H
                                clear H
                                have H := H1
                                clear H1
                                obtain rfl := Option.some.inj H
                                have p140 : 0 ≤ (x117_3 : Int) := of_decide_eq_true (by first | (with_reducible assumption) | assumption)
                                have q140 : x117_3 < (t134.length : Int) := of_decide_eq_true (by first | (with_reducible assumption) | assumption)
                                obtain ⟨ad140, e140, hx140_0⟩ := Kd.at_string (Kd.R_reads' HO_115.out).2.2 x117_3 p140 q140
                                cases e140
                                replace p140 := eq_true p140
                                replace q140 := eq_true q140
                                go_wp2_with (first | ((with_reducible refine gate_callee (f := 15) rfl ?_); refine goesL_ (some 124) rfl rfl Try.func15 (by kernel_rfl) rfl #[.slice A0 l0.length c0, .string (rdOf ByteArray.empty t134 x117_3)] rfl (by (try simp only [List.map_toArray, List.map_cons, List.map_nil]); first | done | rfl | (simp only [List.length_drop, List.length_take]; rfl)) ?_; (with_reducible refine (know_Derives.calls _ _ l0 (rdOf ByteArray.empty t134 x117_3) false t142 _ ?side1 ?side2 A56.out).mono ?_); (case side1 => repeat (first | exact (Kd.C_below HR0.out HB.out) | (with_reducible refine Kd.C_alloc ?_ _) | (with_reducible refine Kd.C_drewN ?_ _) | (with_reducible refine Kd.C_drew ?_))); (case side2 => exact HC0.out); rintro e w61 ⟨rfl, hb⟩; refine ⟨_, rfl, ?_⟩; have n0_ := Aside0.mk (Kd.R_below (by (with_reducible repeat (first | apply Kd.R_alloc | apply Kd.R_drewN | apply Kd.R_drew)); exact HO_115.out) hb); have n1_ := Aside0.mk (below_step (by repeat (first | (with_reducible first | exact HB.out | apply below_alloc | apply pw_below_drewN | apply below_drew1) | exact HB.out)) hb); clear HO_115; clear HB; have HO_115 := n0_; have HB := n1_; clear n0_ n1_; (try clear hb); (try clear hb2); (try clear hk); (try clear hi)))
                                go_ret
                                exact ⟨by first | rfl | (simp [errW_none, errW_some] <;> rfl) | (simp [*, errW_none, errW_some] <;> rfl), by repeat (first | (with_reducible first | exact HB.out | apply below_alloc | apply pw_below_drewN | apply below_drew1) | exact HB.out)⟩
                            · rw [if_neg c55] at H
                              exact absurd H (by simp)
                          · rw [if_neg c54] at H
                            exact absurd H (by simp)
                        · rw [if_neg c53] at H
                          have c53b0 : decide (x117_3 < (t134.length : Int)) = false := decide_eq_false c53
                          clear c53
                          by_cases c62 : t139 = 0
                          · rw [if_pos c62] at H
                            have c62b0 : (t139 == 0) = true := beq_iff_eq.mpr c62
                            have c62b1 : (t139 != 0) = false := bne_eq_false_iff_eq.mpr c62
                            clear c62
                            obtain rfl := Option.some.inj H
                            go_wp2
                            go_ret
                            exact ⟨by first | rfl | (simp [errW_none, errW_some] <;> rfl) | (simp [*, errW_none, errW_some] <;> rfl), by repeat (first | (with_reducible first | exact HB.out | apply below_alloc | apply pw_below_drewN | apply below_drew1) | exact HB.out)⟩
                          · rw [if_neg c62] at H
                            have c62b0 : (t139 == 0) = false := beq_eq_false_iff_ne.mpr c62
                            have c62b1 : (t139 != 0) = true := bne_iff_ne.mpr c62
                            obtain rfl := Option.some.inj H
                            go_wp2
                            go_ret
                            exact ⟨by first | rfl | (simp [errW_none, errW_some] <;> rfl) | (simp [*, errW_none, errW_some] <;> rfl), by repeat (first | (with_reducible first | exact HB.out | apply below_alloc | apply pw_below_drewN | apply below_drew1) | exact HB.out)⟩
            · rw [if_neg c28] at H
              exact absurd H (by simp)
          · rw [if_neg c27] at H
            exact absurd H (by simp)
  · exact absurd ((Option.some.inj (show (some false : Option Bool) = some r by rw [if_neg c5] at H; exact H)).trans HTRUE.out) (by decide)

end Go.Proofs.Ytinkkiglkjihmaa.Pr
