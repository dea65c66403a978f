-- Written by a program of this repo (wip/printx.py) out of the translation; Lean checks it.
import Derived.Test.YtnpabhoflkppaaaDoorPrx0
import Derived.Test.YtnpabhoflkppaaaDoorPrx1
import Derived.Test.YtnpabhoflkppaaaDoorFresh14
import Derived.Test.YtnpabhoflkppaaaDoorPrx3
import Derived.Test.YtnpabhoflkppaaaDoorPrx4
namespace Go.Proofs.YtnpabhoflkppaaaDoor.Pr
open Go.RowKit Go.Proofs.YtnpabhoflkppaaaDoorW.PrintWords Go.Proofs.YtnpabhoflkppaaaDoorW.PrintLast Go.Proofs.YtnpabhoflkppaaaDoorW.PrintMore
attribute [local go_sem] max2_int min2_int max_two min_two max_three min_three max_four min_four   -- for this text's walks alone
set_option linter.unusedVariables false
set_option linter.unusedSimpArgs false

attribute [local go_sem high] eqA38
/-! ### chantrylaw14_TreeSteps: function 4 -/
mutual
def chantrylaw14_TreeSteps.j0 : Nat → List (S38) → List (S37) → Bool → Option (Bool)
  | 0, _, _, _ => none
  | k + 1, x5, x6, x30 => if x30 = true then (some false) else (chantrylaw14_TreeSteps.l0 k x5 x6 (x5.length : Int) 0)
def chantrylaw14_TreeSteps.l0 : Nat → List (S38) → List (S37) → Int → Int → Option (Bool)
  | 0, _, _, _, _ => none
  | k + 1, x5, x6, x32, x33 => if x33 < x32 then (if 0 ≤ x33 then (if x33 < (x5.length : Int) then (if x33 < (x6.length : Int) then (if (!(((rd_T38 x5 x33).f0) == ((rd_T37 x6 x33).f0)) || (!(((rd_T38 x5 x33).f1) == ((rd_T37 x6 x33).f1)))) = true then (some false) else (chantrylaw14_TreeSteps.l0 k x5 x6 x32 (wrap64 (x33 + 1)))) else (none)) else (none)) else (none)) else (some true)
end
def chantrylaw14_TreeSteps.f (k : Nat) (a0 : Int) (a1 : Int) : Option (Bool) := (chantrylaw14_alive.f k).bind fun t202 => (if t202 = true then ((tree_Steps.f k a0 a1).bind fun t203 => ((chantryref14_Steps.f k a0 a1).bind fun t206 => (if (t203.length : Int) = (t206.length : Int) then ((tree_Fresh.f k a0 a1).bind fun t209 => ((chantryref14_Fresh.f k a0 a1).bind fun t212 => ((chantrylaw14_same.f k t209 t212).bind fun t215 => (chantrylaw14_TreeSteps.j0 k t203 t206 (!t215))))) else (chantrylaw14_TreeSteps.j0 k t203 t206 true)))) else (some false))
theorem chantrylaw14_TreeSteps.mono_l : ∀ k, (∀ y0 y1 y2, LeO (chantrylaw14_TreeSteps.j0 k y0 y1 y2) (chantrylaw14_TreeSteps.j0 (k + 1) y0 y1 y2)) ∧ (∀ y0 y1 y2 y3, LeO (chantrylaw14_TreeSteps.l0 k y0 y1 y2 y3) (chantrylaw14_TreeSteps.l0 (k + 1) y0 y1 y2 y3))
  | 0 => ⟨fun _ _ _ r h => by simp [chantrylaw14_TreeSteps.j0] at h, fun _ _ _ _ r h => by simp [chantrylaw14_TreeSteps.l0] at h⟩
  | k + 1 => by
    obtain ⟨ih0, ih1⟩ := chantrylaw14_TreeSteps.mono_l k
    refine ⟨?_, ?_⟩
    · intro y0 y1 y2
      unfold chantrylaw14_TreeSteps.j0
      repeat' first
      | (with_reducible exact ih0 _ _ _)
      | (with_reducible exact ih1 _ _ _ _)
      | (with_reducible exact chantrylaw14_alive.mono _)
      | (with_reducible exact chantrylaw14_same.mono _ _ _)
      | (with_reducible exact chantryref14_Fresh.mono _ _ _)
      | (with_reducible exact chantryref14_Steps.mono _ _ _)
      | (with_reducible exact tree_Fresh.mono _ _ _)
      | (with_reducible exact tree_Steps.mono _ _ _)
      | (with_reducible exact LeO.refl _)
      | (with_reducible exact LeO.none _)
      | (with_reducible refine LeO.ite ?_ ?_)
      | (with_reducible refine LeO.bind ?_ (fun _ => ?_))
      | exact ih0 _ _ _
      | exact ih1 _ _ _ _
      | exact chantrylaw14_alive.mono _
      | exact chantrylaw14_same.mono _ _ _
      | exact chantryref14_Fresh.mono _ _ _
      | exact chantryref14_Steps.mono _ _ _
      | exact tree_Fresh.mono _ _ _
      | exact tree_Steps.mono _ _ _
      | exact LeO.none _
      | refine LeO.ite ?_ ?_
      | refine LeO.bind ?_ (fun _ => ?_)
    · intro y0 y1 y2 y3
      unfold chantrylaw14_TreeSteps.l0
      repeat' first
      | (with_reducible exact ih0 _ _ _)
      | (with_reducible exact ih1 _ _ _ _)
      | (with_reducible exact chantrylaw14_alive.mono _)
      | (with_reducible exact chantrylaw14_same.mono _ _ _)
      | (with_reducible exact chantryref14_Fresh.mono _ _ _)
      | (with_reducible exact chantryref14_Steps.mono _ _ _)
      | (with_reducible exact tree_Fresh.mono _ _ _)
      | (with_reducible exact tree_Steps.mono _ _ _)
      | (with_reducible exact LeO.refl _)
      | (with_reducible exact LeO.none _)
      | (with_reducible refine LeO.ite ?_ ?_)
      | (with_reducible refine LeO.bind ?_ (fun _ => ?_))
      | exact ih0 _ _ _
      | exact ih1 _ _ _ _
      | exact chantrylaw14_alive.mono _
      | exact chantrylaw14_same.mono _ _ _
      | exact chantryref14_Fresh.mono _ _ _
      | exact chantryref14_Steps.mono _ _ _
      | exact tree_Fresh.mono _ _ _
      | exact tree_Steps.mono _ _ _
      | exact LeO.none _
      | refine LeO.ite ?_ ?_
      | refine LeO.bind ?_ (fun _ => ?_)
theorem chantrylaw14_TreeSteps.mono : ∀ a0 a1 k, LeO (chantrylaw14_TreeSteps.f k a0 a1) (chantrylaw14_TreeSteps.f (k + 1) a0 a1) := by
  intro a0 a1 k
  obtain ⟨ih0, ih1⟩ := chantrylaw14_TreeSteps.mono_l k
  unfold chantrylaw14_TreeSteps.f
  repeat' first
      | (with_reducible exact ih0 _ _ _)
      | (with_reducible exact ih1 _ _ _ _)
      | (with_reducible exact chantrylaw14_alive.mono _)
      | (with_reducible exact chantrylaw14_same.mono _ _ _)
      | (with_reducible exact chantryref14_Fresh.mono _ _ _)
      | (with_reducible exact chantryref14_Steps.mono _ _ _)
      | (with_reducible exact tree_Fresh.mono _ _ _)
      | (with_reducible exact tree_Steps.mono _ _ _)
      | (with_reducible exact LeO.refl _)
      | (with_reducible exact LeO.none _)
      | (with_reducible refine LeO.ite ?_ ?_)
      | (with_reducible refine LeO.bind ?_ (fun _ => ?_))
      | exact ih0 _ _ _
      | exact ih1 _ _ _ _
      | exact chantrylaw14_alive.mono _
      | exact chantrylaw14_same.mono _ _ _
      | exact chantryref14_Fresh.mono _ _ _
      | exact chantryref14_Steps.mono _ _ _
      | exact tree_Fresh.mono _ _ _
      | exact tree_Steps.mono _ _ _
      | exact LeO.none _
      | refine LeO.ite ?_ ?_
      | refine LeO.bind ?_ (fun _ => ?_)
set_option maxHeartbeats 8000000 in
set_option maxRecDepth 100000 in
theorem chantrylaw14_TreeSteps.calls (k : Nat) (a0 : Int) (a1 : Int) (r : Bool) (w : World) (h : chantrylaw14_TreeSteps.f k a0 a1 = some r) (HT0 : TabAt w) (HTRUE : r = true := by rfl) :
    Calls Tryd.prog 4 #[.int .u16 a0, .int .u16 a1] w fun e w' => e = .returned (.bool r) ∧ Below w.heap.size w w' := by
  have HTA := Aside0.mk HT0
  clear HT0
  have hu38 := Tryd.underlying38
  have hu37 := Tryd.underlying37
  have HB := Aside0.mk (Below.refl w.heap.size w)
  have H : ((chantrylaw14_alive.f k).bind fun t202 => (if t202 = true then ((tree_Steps.f k a0 a1).bind fun t203 => ((chantryref14_Steps.f k a0 a1).bind fun t206 => (if (t203.length : Int) = (t206.length : Int) then ((tree_Fresh.f k a0 a1).bind fun t209 => ((chantryref14_Fresh.f k a0 a1).bind fun t212 => ((chantrylaw14_same.f k t209 t212).bind fun t215 => (chantrylaw14_TreeSteps.j0 k t203 t206 (!t215))))) else (chantrylaw14_TreeSteps.j0 k t203 t206 true)))) else (some false))) = some r := h
  clear h
  replace H := Option.bind_eq_some_iff.mp H
  obtain ⟨t202, A30, H⟩ := H
  replace H : (if t202 = true then ((tree_Steps.f k a0 a1).bind fun t203 => ((chantryref14_Steps.f k a0 a1).bind fun t206 => (if (t203.length : Int) = (t206.length : Int) then ((tree_Fresh.f k a0 a1).bind fun t209 => ((chantryref14_Fresh.f k a0 a1).bind fun t212 => ((chantrylaw14_same.f k t209 t212).bind fun t215 => (chantrylaw14_TreeSteps.j0 k t203 t206 (!t215))))) else (chantrylaw14_TreeSteps.j0 k t203 t206 true)))) else (some false)) = some r := H
  have A3 := Aside0.mk A30
  clear A30
  by_cases c4 : t202 = true
  · subst c4
    have H1 : ((tree_Steps.f k a0 a1).bind fun t203 => ((chantryref14_Steps.f k a0 a1).bind fun t206 => (if (t203.length : Int) = (t206.length : Int) then ((tree_Fresh.f k a0 a1).bind fun t209 => ((chantryref14_Fresh.f k a0 a1).bind fun t212 => ((chantrylaw14_same.f k t209 t212).bind fun t215 => (chantrylaw14_TreeSteps.j0 k t203 t206 (!t215))))) else (chantrylaw14_TreeSteps.j0 k t203 t206 true)))) = some r := by rw [if_pos rfl] at H; exact H
    clear H
    have H := H1
    clear H1
    replace H := Option.bind_eq_some_iff.mp H
    obtain ⟨t203, A50, H⟩ := H
    replace H : ((chantryref14_Steps.f k a0 a1).bind fun t206 => (if (t203.length : Int) = (t206.length : Int) then ((tree_Fresh.f k a0 a1).bind fun t209 => ((chantryref14_Fresh.f k a0 a1).bind fun t212 => ((chantrylaw14_same.f k t209 t212).bind fun t215 => (chantrylaw14_TreeSteps.j0 k t203 t206 (!t215))))) else (chantrylaw14_TreeSteps.j0 k t203 t206 true))) = some r := H
    have A5 := Aside0.mk A50
    clear A50
    replace H := Option.bind_eq_some_iff.mp H
    obtain ⟨t206, A60, H⟩ := H
    replace H : (if (t203.length : Int) = (t206.length : Int) then ((tree_Fresh.f k a0 a1).bind fun t209 => ((chantryref14_Fresh.f k a0 a1).bind fun t212 => ((chantrylaw14_same.f k t209 t212).bind fun t215 => (chantrylaw14_TreeSteps.j0 k t203 t206 (!t215))))) else (chantrylaw14_TreeSteps.j0 k t203 t206 true)) = some r := H
    have A6 := Aside0.mk A60
    clear A60
    have HC7 := Aside0.mk H
    clear H
    go_enter Tryd.func4, Tryd.ntmps4
    go_upto_region 4 with (first | (go_at_call 9; (with_reducible refine (chantrylaw14_alive.calls k  true _ A3.out ?sideT).mono ?_); (case sideT => exact TabAt.below HTA.out (Nat.le_refl _) (by repeat (first | (with_reducible first | exact HB.out | apply below_alloc | apply pw_below_drewN | apply below_drew1) | exact HB.out))); rintro e w8 ⟨rfl, hb⟩; have n0_ := Aside0.mk (below_step (by repeat (first | (with_reducible first | exact HB.out | apply below_alloc | apply pw_below_drewN | apply below_drew1) | exact HB.out)) hb); clear HB; have HB := n0_; clear n0_; (try clear hb); (try clear hb2); (try clear hk); (try clear hi)) | (go_at_call 17; (with_reducible refine (tree_Steps.calls k a0 a1 t203 _ A5.out ?sideT).mono ?_); (case sideT => exact TabAt.below HTA.out (Nat.le_refl _) (by repeat (first | (with_reducible first | exact HB.out | apply below_alloc | apply pw_below_drewN | apply below_drew1) | exact HB.out))); rintro e w9 ⟨v204, rfl, ho0, hb⟩; have n0_ := Aside0.mk (Kd.R_lower ho0 (below_size (by repeat (first | (with_reducible first | exact HB.out | apply below_alloc | apply pw_below_drewN | apply below_drew1) | exact HB.out)))); have n1_ := Aside0.mk (below_step (by repeat (first | (with_reducible first | exact HB.out | apply below_alloc | apply pw_below_drewN | apply below_drew1) | exact HB.out)) hb); clear HB; have HO205 := n0_; have HB := n1_; clear n0_ n1_; (try clear hb); (try clear hb2); (try clear hk); (try clear hi); (try clear ho0)) | (go_at_call 18; (with_reducible refine (chantryref14_Steps.calls k a0 a1 t206 _ A6.out).mono ?_); rintro e w10 ⟨v207, rfl, ho0, hb⟩; have n0_ := Aside0.mk (Kd.R_below (by (with_reducible repeat (first | apply Kd.R_alloc | apply Kd.R_drewN | apply Kd.R_drew)); exact HO205.out) hb); have n1_ := Aside0.mk (Kd.R_lower ho0 (below_size (by repeat (first | (with_reducible first | exact HB.out | apply below_alloc | apply pw_below_drewN | apply below_drew1) | exact HB.out)))); have n2_ := Aside0.mk (below_step (by repeat (first | (with_reducible first | exact HB.out | apply below_alloc | apply pw_below_drewN | apply below_drew1) | exact HB.out)) hb); clear HO205; clear HB; have HO205 := n0_; have HO208 := n1_; have HB := n2_; clear n0_ n1_ n2_; (try clear hb); (try clear hb2); (try clear hk); (try clear hi); (try clear ho0)))
    repeat (go_quiet (first | (go_at_call 9; (with_reducible refine (chantrylaw14_alive.calls k  true _ A3.out ?sideT).mono ?_); (case sideT => exact TabAt.below HTA.out (Nat.le_refl _) (by repeat (first | (with_reducible first | exact HB.out | apply below_alloc | apply pw_below_drewN | apply below_drew1) | exact HB.out))); rintro e w8 ⟨rfl, hb⟩; have n0_ := Aside0.mk (below_step (by repeat (first | (with_reducible first | exact HB.out | apply below_alloc | apply pw_below_drewN | apply below_drew1) | exact HB.out)) hb); clear HB; have HB := n0_; clear n0_; (try clear hb); (try clear hb2); (try clear hk); (try clear hi)) | (go_at_call 17; (with_reducible refine (tree_Steps.calls k a0 a1 t203 _ A5.out ?sideT).mono ?_); (case sideT => exact TabAt.below HTA.out (Nat.le_refl _) (by repeat (first | (with_reducible first | exact HB.out | apply below_alloc | apply pw_below_drewN | apply below_drew1) | exact HB.out))); rintro e w9 ⟨v204, rfl, ho0, hb⟩; have n0_ := Aside0.mk (Kd.R_lower ho0 (below_size (by repeat (first | (with_reducible first | exact HB.out | apply below_alloc | apply pw_below_drewN | apply below_drew1) | exact HB.out)))); have n1_ := Aside0.mk (below_step (by repeat (first | (with_reducible first | exact HB.out | apply below_alloc | apply pw_below_drewN | apply below_drew1) | exact HB.out)) hb); clear HB; have HO205 := n0_; have HB := n1_; clear n0_ n1_; (try clear hb); (try clear hb2); (try clear hk); (try clear hi); (try clear ho0)) | (go_at_call 18; (with_reducible refine (chantryref14_Steps.calls k a0 a1 t206 _ A6.out).mono ?_); rintro e w10 ⟨v207, rfl, ho0, hb⟩; have n0_ := Aside0.mk (Kd.R_below (by (with_reducible repeat (first | apply Kd.R_alloc | apply Kd.R_drewN | apply Kd.R_drew)); exact HO205.out) hb); have n1_ := Aside0.mk (Kd.R_lower ho0 (below_size (by repeat (first | (with_reducible first | exact HB.out | apply below_alloc | apply pw_below_drewN | apply below_drew1) | exact HB.out)))); have n2_ := Aside0.mk (below_step (by repeat (first | (with_reducible first | exact HB.out | apply below_alloc | apply pw_below_drewN | apply below_drew1) | exact HB.out)) hb); clear HO205; clear HB; have HO205 := n0_; have HO208 := n1_; have HB := n2_; clear n0_ n1_ n2_; (try clear hb); (try clear hb2); (try clear hk); (try clear hi); (try clear ho0))); go_upto_region 4 with (first | (go_at_call 9; (with_reducible refine (chantrylaw14_alive.calls k  true _ A3.out ?sideT).mono ?_); (case sideT => exact TabAt.below HTA.out (Nat.le_refl _) (by repeat (first | (with_reducible first | exact HB.out | apply below_alloc | apply pw_below_drewN | apply below_drew1) | exact HB.out))); rintro e w8 ⟨rfl, hb⟩; have n0_ := Aside0.mk (below_step (by repeat (first | (with_reducible first | exact HB.out | apply below_alloc | apply pw_below_drewN | apply below_drew1) | exact HB.out)) hb); clear HB; have HB := n0_; clear n0_; (try clear hb); (try clear hb2); (try clear hk); (try clear hi)) | (go_at_call 17; (with_reducible refine (tree_Steps.calls k a0 a1 t203 _ A5.out ?sideT).mono ?_); (case sideT => exact TabAt.below HTA.out (Nat.le_refl _) (by repeat (first | (with_reducible first | exact HB.out | apply below_alloc | apply pw_below_drewN | apply below_drew1) | exact HB.out))); rintro e w9 ⟨v204, rfl, ho0, hb⟩; have n0_ := Aside0.mk (Kd.R_lower ho0 (below_size (by repeat (first | (with_reducible first | exact HB.out | apply below_alloc | apply pw_below_drewN | apply below_drew1) | exact HB.out)))); have n1_ := Aside0.mk (below_step (by repeat (first | (with_reducible first | exact HB.out | apply below_alloc | apply pw_below_drewN | apply below_drew1) | exact HB.out)) hb); clear HB; have HO205 := n0_; have HB := n1_; clear n0_ n1_; (try clear hb); (try clear hb2); (try clear hk); (try clear hi); (try clear ho0)) | (go_at_call 18; (with_reducible refine (chantryref14_Steps.calls k a0 a1 t206 _ A6.out).mono ?_); rintro e w10 ⟨v207, rfl, ho0, hb⟩; have n0_ := Aside0.mk (Kd.R_below (by (with_reducible repeat (first | apply Kd.R_alloc | apply Kd.R_drewN | apply Kd.R_drew)); exact HO205.out) hb); have n1_ := Aside0.mk (Kd.R_lower ho0 (below_size (by repeat (first | (with_reducible first | exact HB.out | apply below_alloc | apply pw_below_drewN | apply below_drew1) | exact HB.out)))); have n2_ := Aside0.mk (below_step (by repeat (first | (with_reducible first | exact HB.out | apply below_alloc | apply pw_below_drewN | apply below_drew1) | exact HB.out)) hb); clear HO205; clear HB; have HO205 := n0_; have HO208 := n1_; have HB := n2_; clear n0_ n1_ n2_; (try clear hb); (try clear hb2); (try clear hk); (try clear hi); (try clear ho0))))
    (try simp only [Act.put, List.setIfInBounds_toArray, List.set_cons_zero, List.set_cons_succ])
    go_cut [30] (fun v30 wc => ∃ (kq : Nat) (x30_6 : Bool), v30 = .bool x30_6 ∧ Aside0 (chantrylaw14_TreeSteps.j0 kq t203 t206 x30_6 = some r) ∧ Aside0 (kq ≤ k) ∧ Aside0 (Kd.R k38 38 wc w.heap.size (fun _ => True) v204 t203) ∧ Aside0 (Kd.R k37 37 wc w.heap.size (fun _ => True) v207 t206) ∧ Aside0 (Below w.heap.size w wc))
    case first =>
      have H := HC7.out
      clear HC7
      by_cases c11 : (t203.length : Int) = (t206.length : Int)
      · rw [if_pos c11] at H
        have c11b0 : ((t203.length : Int) == (t206.length : Int)) = true := beq_iff_eq.mpr c11
        have c11b1 : ((t203.length : Int) != (t206.length : Int)) = false := bne_eq_false_iff_eq.mpr c11
        have c11b2 : (t203.length == t206.length) = true := by first | simpa using c11 | (simp at c11 ⊢; omega)
        clear c11
        (first | rw [c11b0] | (simp only [i64_w, i32_w]; rw [c11b0]) | skip)
        replace H := Option.bind_eq_some_iff.mp H
        obtain ⟨t209, A120, H⟩ := H
        replace H : ((chantryref14_Fresh.f k a0 a1).bind fun t212 => ((chantrylaw14_same.f k t209 t212).bind fun t215 => (chantrylaw14_TreeSteps.j0 k t203 t206 (!t215)))) = some r := H
        have A12 := Aside0.mk A120
        clear A120
        replace H := Option.bind_eq_some_iff.mp H
        obtain ⟨t212, A130, H⟩ := H
        replace H : ((chantrylaw14_same.f k t209 t212).bind fun t215 => (chantrylaw14_TreeSteps.j0 k t203 t206 (!t215))) = some r := H
        have A13 := Aside0.mk A130
        clear A130
        replace H := Option.bind_eq_some_iff.mp H
        obtain ⟨t215, A140, H⟩ := H
        replace H : (chantrylaw14_TreeSteps.j0 k t203 t206 (!t215)) = some r := H
        have A14 := Aside0.mk A140
        clear A140
        have H' := Aside0.mk H
        clear H
        obtain ⟨Ao15, co15, eo15⟩ := Kd.R_slice HO205.out
        subst eo15
        obtain ⟨Ao16, co16, eo16⟩ := Kd.R_slice HO208.out
        subst eo16
        go_wp2_with (first | (go_at_call 19; (with_reducible refine (tree_Fresh.calls k a0 a1 t209 _ A12.out ?sideT).mono ?_); (case sideT => exact TabAt.below HTA.out (Nat.le_refl _) (by repeat (first | (with_reducible first | exact HB.out | apply below_alloc | apply pw_below_drewN | apply below_drew1) | exact HB.out))); rintro e w17 ⟨v210, rfl, ho0, hb⟩; have n0_ := Aside0.mk (Kd.R_below (by (with_reducible repeat (first | apply Kd.R_alloc | apply Kd.R_drewN | apply Kd.R_drew)); exact HO205.out) hb); have n1_ := Aside0.mk (Kd.R_below (by (with_reducible repeat (first | apply Kd.R_alloc | apply Kd.R_drewN | apply Kd.R_drew)); exact HO208.out) hb); have n2_ := Aside0.mk (Kd.R_lower ho0 (below_size (by repeat (first | (with_reducible first | exact HB.out | apply below_alloc | apply pw_below_drewN | apply below_drew1) | exact HB.out)))); have n3_ := Aside0.mk (below_step (by repeat (first | (with_reducible first | exact HB.out | apply below_alloc | apply pw_below_drewN | apply below_drew1) | exact HB.out)) hb); clear HO205; clear HO208; clear HB; have HO205 := n0_; have HO208 := n1_; have HO211 := n2_; have HB := n3_; clear n0_ n1_ n2_ n3_; (try clear hb); (try clear hb2); (try clear hk); (try clear hi); (try clear ho0)) | (go_at_call 20; (with_reducible refine (chantryref14_Fresh.calls k a0 a1 t212 _ A13.out).mono ?_); rintro e w18 ⟨v213, rfl, ho0, hb⟩; have n0_ := Aside0.mk (Kd.R_below (by (with_reducible repeat (first | apply Kd.R_alloc | apply Kd.R_drewN | apply Kd.R_drew)); exact HO205.out) hb); have n1_ := Aside0.mk (Kd.R_below (by (with_reducible repeat (first | apply Kd.R_alloc | apply Kd.R_drewN | apply Kd.R_drew)); exact HO208.out) hb); have n2_ := Aside0.mk (Kd.R_elder' (by (with_reducible repeat (first | apply Kd.R_alloc | apply Kd.R_drewN | apply Kd.R_drew)); exact HO211.out) (Kd.R_base ho0) hb); have n3_ := Aside0.mk (Kd.R_lower (Kd.R_new' ho0 (Kd.R_lt (by (with_reducible repeat (first | apply Kd.R_alloc | apply Kd.R_drewN | apply Kd.R_drew)); exact HO211.out))) (below_size (by repeat (first | (with_reducible first | exact HB.out | apply below_alloc | apply pw_below_drewN | apply below_drew1) | exact HB.out)))); have n4_ := Aside0.mk (below_step (by repeat (first | (with_reducible first | exact HB.out | apply below_alloc | apply pw_below_drewN | apply below_drew1) | exact HB.out)) hb); clear HO205; clear HO208; clear HO211; clear HB; have HO205 := n0_; have HO208 := n1_; have HO211 := n2_; have HO214 := n3_; have HB := n4_; clear n0_ n1_ n2_ n3_ n4_; (try clear hb); (try clear hb2); (try clear hk); (try clear hi); (try clear ho0); obtain ⟨Ao19, co19, eo19⟩ := Kd.R_slice HO211.out; subst eo19; obtain ⟨Ao20, co20, eo20⟩ := Kd.R_slice HO214.out; subst eo20) | (go_at_call 12; (with_reducible refine (chantrylaw14_same.calls k _ _ t209 _ _ t212 t215 _ ?side1 ?side2 ?side3 ?side4 A14.out).mono ?_); (case side1 => repeat (first | exact (Kd.R_reads' HO211.out).2.2 | (with_reducible refine Kd.C_alloc ?_ _) | (with_reducible refine Kd.C_drewN ?_ _) | (with_reducible refine Kd.C_drew ?_))); (case side2 => exact (Kd.R_reads' HO211.out).2.1); (case side3 => repeat (first | exact (Kd.R_reads' HO214.out).2.2 | (with_reducible refine Kd.C_alloc ?_ _) | (with_reducible refine Kd.C_drewN ?_ _) | (with_reducible refine Kd.C_drew ?_))); (case side4 => exact (Kd.R_reads' HO214.out).2.1); rintro e w' ⟨rfl, ⟨nd, rfl⟩⟩; (try first | exact ⟨rfl, _, World.drewN_drewN _ _ _⟩ | exact ⟨rfl, _, Eq.trans (World.drewN_drewN _ _ _) (congrArg (World.drewN _) (Nat.add_assoc _ _ _))⟩)))
        repeat (go_quiet (first | (go_at_call 19; (with_reducible refine (tree_Fresh.calls k a0 a1 t209 _ A12.out ?sideT).mono ?_); (case sideT => exact TabAt.below HTA.out (Nat.le_refl _) (by repeat (first | (with_reducible first | exact HB.out | apply below_alloc | apply pw_below_drewN | apply below_drew1) | exact HB.out))); rintro e w17 ⟨v210, rfl, ho0, hb⟩; have n0_ := Aside0.mk (Kd.R_below (by (with_reducible repeat (first | apply Kd.R_alloc | apply Kd.R_drewN | apply Kd.R_drew)); exact HO205.out) hb); have n1_ := Aside0.mk (Kd.R_below (by (with_reducible repeat (first | apply Kd.R_alloc | apply Kd.R_drewN | apply Kd.R_drew)); exact HO208.out) hb); have n2_ := Aside0.mk (Kd.R_lower ho0 (below_size (by repeat (first | (with_reducible first | exact HB.out | apply below_alloc | apply pw_below_drewN | apply below_drew1) | exact HB.out)))); have n3_ := Aside0.mk (below_step (by repeat (first | (with_reducible first | exact HB.out | apply below_alloc | apply pw_below_drewN | apply below_drew1) | exact HB.out)) hb); clear HO205; clear HO208; clear HB; have HO205 := n0_; have HO208 := n1_; have HO211 := n2_; have HB := n3_; clear n0_ n1_ n2_ n3_; (try clear hb); (try clear hb2); (try clear hk); (try clear hi); (try clear ho0)) | (go_at_call 20; (with_reducible refine (chantryref14_Fresh.calls k a0 a1 t212 _ A13.out).mono ?_); rintro e w18 ⟨v213, rfl, ho0, hb⟩; have n0_ := Aside0.mk (Kd.R_below (by (with_reducible repeat (first | apply Kd.R_alloc | apply Kd.R_drewN | apply Kd.R_drew)); exact HO205.out) hb); have n1_ := Aside0.mk (Kd.R_below (by (with_reducible repeat (first | apply Kd.R_alloc | apply Kd.R_drewN | apply Kd.R_drew)); exact HO208.out) hb); have n2_ := Aside0.mk (Kd.R_elder' (by (with_reducible repeat (first | apply Kd.R_alloc | apply Kd.R_drewN | apply Kd.R_drew)); exact HO211.out) (Kd.R_base ho0) hb); have n3_ := Aside0.mk (Kd.R_lower (Kd.R_new' ho0 (Kd.R_lt (by (with_reducible repeat (first | apply Kd.R_alloc | apply Kd.R_drewN | apply Kd.R_drew)); exact HO211.out))) (below_size (by repeat (first | (with_reducible first | exact HB.out | apply below_alloc | apply pw_below_drewN | apply below_drew1) | exact HB.out)))); have n4_ := Aside0.mk (below_step (by repeat (first | (with_reducible first | exact HB.out | apply below_alloc | apply pw_below_drewN | apply below_drew1) | exact HB.out)) hb); clear HO205; clear HO208; clear HO211; clear HB; have HO205 := n0_; have HO208 := n1_; have HO211 := n2_; have HO214 := n3_; have HB := n4_; clear n0_ n1_ n2_ n3_ n4_; (try clear hb); (try clear hb2); (try clear hk); (try clear hi); (try clear ho0); obtain ⟨Ao19, co19, eo19⟩ := Kd.R_slice HO211.out; subst eo19; obtain ⟨Ao20, co20, eo20⟩ := Kd.R_slice HO214.out; subst eo20) | (go_at_call 12; (with_reducible refine (chantrylaw14_same.calls k _ _ t209 _ _ t212 t215 _ ?side1 ?side2 ?side3 ?side4 A14.out).mono ?_); (case side1 => repeat (first | exact (Kd.R_reads' HO211.out).2.2 | (with_reducible refine Kd.C_alloc ?_ _) | (with_reducible refine Kd.C_drewN ?_ _) | (with_reducible refine Kd.C_drew ?_))); (case side2 => exact (Kd.R_reads' HO211.out).2.1); (case side3 => repeat (first | exact (Kd.R_reads' HO214.out).2.2 | (with_reducible refine Kd.C_alloc ?_ _) | (with_reducible refine Kd.C_drewN ?_ _) | (with_reducible refine Kd.C_drew ?_))); (case side4 => exact (Kd.R_reads' HO214.out).2.1); rintro e w' ⟨rfl, ⟨nd, rfl⟩⟩; (try first | exact ⟨rfl, _, World.drewN_drewN _ _ _⟩ | exact ⟨rfl, _, Eq.trans (World.drewN_drewN _ _ _) (congrArg (World.drewN _) (Nat.add_assoc _ _ _))⟩))); try go_wp2_with (first | (go_at_call 19; (with_reducible refine (tree_Fresh.calls k a0 a1 t209 _ A12.out ?sideT).mono ?_); (case sideT => exact TabAt.below HTA.out (Nat.le_refl _) (by repeat (first | (with_reducible first | exact HB.out | apply below_alloc | apply pw_below_drewN | apply below_drew1) | exact HB.out))); rintro e w17 ⟨v210, rfl, ho0, hb⟩; have n0_ := Aside0.mk (Kd.R_below (by (with_reducible repeat (first | apply Kd.R_alloc | apply Kd.R_drewN | apply Kd.R_drew)); exact HO205.out) hb); have n1_ := Aside0.mk (Kd.R_below (by (with_reducible repeat (first | apply Kd.R_alloc | apply Kd.R_drewN | apply Kd.R_drew)); exact HO208.out) hb); have n2_ := Aside0.mk (Kd.R_lower ho0 (below_size (by repeat (first | (with_reducible first | exact HB.out | apply below_alloc | apply pw_below_drewN | apply below_drew1) | exact HB.out)))); have n3_ := Aside0.mk (below_step (by repeat (first | (with_reducible first | exact HB.out | apply below_alloc | apply pw_below_drewN | apply below_drew1) | exact HB.out)) hb); clear HO205; clear HO208; clear HB; have HO205 := n0_; have HO208 := n1_; have HO211 := n2_; have HB := n3_; clear n0_ n1_ n2_ n3_; (try clear hb); (try clear hb2); (try clear hk); (try clear hi); (try clear ho0)) | (go_at_call 20; (with_reducible refine (chantryref14_Fresh.calls k a0 a1 t212 _ A13.out).mono ?_); rintro e w18 ⟨v213, rfl, ho0, hb⟩; have n0_ := Aside0.mk (Kd.R_below (by (with_reducible repeat (first | apply Kd.R_alloc | apply Kd.R_drewN | apply Kd.R_drew)); exact HO205.out) hb); have n1_ := Aside0.mk (Kd.R_below (by (with_reducible repeat (first | apply Kd.R_alloc | apply Kd.R_drewN | apply Kd.R_drew)); exact HO208.out) hb); have n2_ := Aside0.mk (Kd.R_elder' (by (with_reducible repeat (first | apply Kd.R_alloc | apply Kd.R_drewN | apply Kd.R_drew)); exact HO211.out) (Kd.R_base ho0) hb); have n3_ := Aside0.mk (Kd.R_lower (Kd.R_new' ho0 (Kd.R_lt (by (with_reducible repeat (first | apply Kd.R_alloc | apply Kd.R_drewN | apply Kd.R_drew)); exact HO211.out))) (below_size (by repeat (first | (with_reducible first | exact HB.out | apply below_alloc | apply pw_below_drewN | apply below_drew1) | exact HB.out)))); have n4_ := Aside0.mk (below_step (by repeat (first | (with_reducible first | exact HB.out | apply below_alloc | apply pw_below_drewN | apply below_drew1) | exact HB.out)) hb); clear HO205; clear HO208; clear HO211; clear HB; have HO205 := n0_; have HO208 := n1_; have HO211 := n2_; have HO214 := n3_; have HB := n4_; clear n0_ n1_ n2_ n3_ n4_; (try clear hb); (try clear hb2); (try clear hk); (try clear hi); (try clear ho0); obtain ⟨Ao19, co19, eo19⟩ := Kd.R_slice HO211.out; subst eo19; obtain ⟨Ao20, co20, eo20⟩ := Kd.R_slice HO214.out; subst eo20) | (go_at_call 12; (with_reducible refine (chantrylaw14_same.calls k _ _ t209 _ _ t212 t215 _ ?side1 ?side2 ?side3 ?side4 A14.out).mono ?_); (case side1 => repeat (first | exact (Kd.R_reads' HO211.out).2.2 | (with_reducible refine Kd.C_alloc ?_ _) | (with_reducible refine Kd.C_drewN ?_ _) | (with_reducible refine Kd.C_drew ?_))); (case side2 => exact (Kd.R_reads' HO211.out).2.1); (case side3 => repeat (first | exact (Kd.R_reads' HO214.out).2.2 | (with_reducible refine Kd.C_alloc ?_ _) | (with_reducible refine Kd.C_drewN ?_ _) | (with_reducible refine Kd.C_drew ?_))); (case side4 => exact (Kd.R_reads' HO214.out).2.1); rintro e w' ⟨rfl, ⟨nd, rfl⟩⟩; (try first | exact ⟨rfl, _, World.drewN_drewN _ _ _⟩ | exact ⟨rfl, _, Eq.trans (World.drewN_drewN _ _ _) (congrArg (World.drewN _) (Nat.add_assoc _ _ _))⟩))))
        go_meet
        case rel => exact ⟨_, (!t215), (by first | rfl | (simp; done) | (simp [*]; done)), H', ⟨by first | omega | exact Nat.le_refl _⟩, ⟨by (with_reducible repeat (first | apply Kd.R_alloc | apply Kd.R_drewN | apply Kd.R_drew)); exact HO205.out⟩, ⟨by (with_reducible repeat (first | apply Kd.R_alloc | apply Kd.R_drewN | apply Kd.R_drew)); exact HO208.out⟩, ⟨by repeat (first | (with_reducible first | exact HB.out | apply below_alloc | apply pw_below_drewN | apply below_drew1) | exact HB.out)⟩⟩
      · rw [if_neg c11] at H
        have c11b0 : ((t203.length : Int) == (t206.length : Int)) = false := beq_eq_false_iff_ne.mpr c11
        have c11b1 : ((t203.length : Int) != (t206.length : Int)) = true := bne_iff_ne.mpr c11
        have c11b2 : (t203.length == t206.length) = false := by first | simpa using c11 | (simp at c11 ⊢; omega)
        (first | rw [c11b0] | (simp only [i64_w, i32_w]; rw [c11b0]) | skip)
        have H' := Aside0.mk H
        clear H
        obtain ⟨Ao21, co21, eo21⟩ := Kd.R_slice HO205.out
        subst eo21
        obtain ⟨Ao22, co22, eo22⟩ := Kd.R_slice HO208.out
        subst eo22
        go_wp2
        repeat (go_quiet (fail); try go_wp2)
        go_meet
        case rel => exact ⟨_, (true), (by first | rfl | (simp; done) | (simp [*]; done)), H', ⟨by first | omega | exact Nat.le_refl _⟩, ⟨by (with_reducible repeat (first | apply Kd.R_alloc | apply Kd.R_drewN | apply Kd.R_drew)); exact HO205.out⟩, ⟨by (with_reducible repeat (first | apply Kd.R_alloc | apply Kd.R_drewN | apply Kd.R_drew)); exact HO208.out⟩, ⟨by repeat (first | (with_reducible first | exact HB.out | apply below_alloc | apply pw_below_drewN | apply below_drew1) | exact HB.out)⟩⟩
    case rest =>
      clear HC7
      try clear c1
      try clear p2
      try clear c4
      try clear c11
      try clear c11b0
      try clear c11b1
      try clear c11b2
      obtain ⟨kq, x30_6, rfl, HA, HJ6, HO_5, HO_6, HB⟩ := hcut
      cases kq with
      | zero => exact absurd HA.out (by simp [chantrylaw14_TreeSteps.j0])
      | succ kj6 =>
        have H := HA.out
        clear HA
        simp only [chantrylaw14_TreeSteps.j0] at H
        by_cases c23 : x30_6 = true
        · subst c23
          have H1 : (some false) = some r := by rw [if_pos rfl] at H; exact H
          clear H
          have H := H1
          clear H1
          obtain rfl := Option.some.inj H
          go_wp2
          repeat (go_quiet (fail); try go_wp2)
          go_ret
          exact ⟨by first | rfl | (simp [errW_none, errW_some] <;> rfl) | (simp [*, errW_none, errW_some] <;> rfl), by repeat (first | (with_reducible first | exact HB.out | apply below_alloc | apply pw_below_drewN | apply below_drew1) | exact HB.out)⟩
        · replace c23 := Bool.eq_false_iff.mpr c23
          subst c23
          have H1 : (chantrylaw14_TreeSteps.l0 kj6 t203 t206 (t203.length : Int) 0) = some r := by rw [if_neg (show ¬ (false = true) by decide)] at H; exact H
          clear H
          have H := H1
          clear H1
          have H' := Aside0.mk H
          clear H
          obtain ⟨Ao24, co24, eo24⟩ := Kd.R_slice HO_5.out
          subst eo24
          go_wp2
          repeat (go_quiet (fail); try go_wp2)
          go_loopg [33] kj6 (fun kq v33 w' => ∃ (x33_2 : Int), v33 = .int .i64 x33_2 ∧ Aside0 (chantrylaw14_TreeSteps.l0 kq t203 t206 (t203.length : Int) x33_2 = some r) ∧ Aside0 (kq ≤ kj6) ∧ Aside0 (Kd.R k38 38 w' w.heap.size (fun _ => True) (.slice Ao24 t203.length co24) t203) ∧ Aside0 (Kd.R k37 37 w' w.heap.size (fun _ => True) v207 t206) ∧ Aside0 (Below w.heap.size w w'))
          case atStart => exact ⟨(0), (by first | rfl | (simp; done) | (simp [*]; done)), H', ⟨Nat.le_refl _⟩, ⟨by (with_reducible repeat (first | apply Kd.R_alloc | apply Kd.R_drewN | apply Kd.R_drew)); exact HO_5.out⟩, ⟨by (with_reducible repeat (first | apply Kd.R_alloc | apply Kd.R_drewN | apply Kd.R_drew)); exact HO_6.out⟩, ⟨by repeat (first | (with_reducible first | exact HB.out | apply below_alloc | apply pw_below_drewN | apply below_drew1) | exact HB.out)⟩⟩
          case round =>
            clear H'
            try clear c1
            try clear c2
            try clear p2
            try clear c4
            try clear c11
            try clear c11b0
            try clear c11b1
            try clear c11b2
            try clear c23
            try clear p2
            obtain ⟨x33_2, rfl, HA, HK2, HO_5, HO_6, HB⟩ := hrel
            cases gk with
            | zero => exact absurd HA.out (by simp [chantrylaw14_TreeSteps.l0])
            | succ k2 =>
              have H := HA.out
              clear HA
              simp only [chantrylaw14_TreeSteps.l0] at H
              by_cases c25 : x33_2 < (t203.length : Int)
              · rw [if_pos c25] at H
                have c25b0 : decide (x33_2 < (t203.length : Int)) = true := decide_eq_true c25
                clear c25
                by_cases c26 : 0 ≤ x33_2
                · rw [if_pos c26] at H
                  have c26b0 : decide (0 ≤ x33_2) = true := decide_eq_true c26
                  clear c26
                  by_cases c27 : x33_2 < (t203.length : Int)
                  · rw [if_pos c27] at H
                    have c27b0 : decide (x33_2 < (t203.length : Int)) = true := decide_eq_true c27
                    clear c27
                    by_cases c28 : x33_2 < (t206.length : Int)
                    · rw [if_pos c28] at H
                      have c28b0 : decide (x33_2 < (t206.length : Int)) = true := decide_eq_true c28
                      clear c28
                      by_cases c29 : (!(((rd_T38 t203 x33_2).f0) == ((rd_T37 t206 x33_2).f0)) || (!(((rd_T38 t203 x33_2).f1) == ((rd_T37 t206 x33_2).f1)))) = true
                      · rw [if_pos c29] at H
                        exact absurd ((Option.some.inj H).trans HTRUE) (by decide)
                      · rw [if_neg c29] at H
                        have c29b0 : (!(((rd_T38 t203 x33_2).f0) == ((rd_T37 t206 x33_2).f0)) || (!(((rd_T38 t203 x33_2).f1) == ((rd_T37 t206 x33_2).f1)))) = false := by simpa using c29
                        clear c29
                        have H' := Aside0.mk H
                        clear H
                        have p216 : 0 ≤ (x33_2 : Int) := of_decide_eq_true (by first | (with_reducible assumption) | assumption)
                        have q216 : x33_2 < (t203.length : Int) := of_decide_eq_true (by first | (with_reducible assumption) | assumption)
                        obtain ⟨ad216, e216, hx216_0, hx216_1⟩ := at_T38 (Kd.R_reads' HO_5.out).2.2 x33_2 p216 q216
                        cases e216
                        replace p216 := eq_true p216
                        replace q216 := eq_true q216
                        obtain ⟨Ao31, co31, eo31⟩ := Kd.R_slice HO_6.out
                        subst eo31
                        have p217 : 0 ≤ (x33_2 : Int) := of_decide_eq_true (by first | (with_reducible assumption) | assumption)
                        have q217 : x33_2 < (t206.length : Int) := of_decide_eq_true (by first | (with_reducible assumption) | assumption)
                        obtain ⟨ad217, e217, hx217_0, hx217_1⟩ := at_T37 (Kd.R_reads' HO_6.out).2.2 x33_2 p217 q217
                        cases e217
                        replace p217 := eq_true p217
                        replace q217 := eq_true q217
                        have m0 : (rd_T38 t203 x33_2).f0 = (rd_T37 t206 x33_2).f0 := by simp only [Bool.or_eq_false_iff, Bool.not_eq_false', beq_iff_eq] at c29b0; simp [c29b0]
                        have m1 : (rd_T38 t203 x33_2).f1 = (rd_T37 t206 x33_2).f1 := by simp only [Bool.or_eq_false_iff, Bool.not_eq_false', beq_iff_eq] at c29b0; simp [c29b0]
                        rw [← m0] at hx217_0
                        rw [← m1] at hx217_1
                        clear m0 m1 c29b0
                        generalize (rd_T38 t203 x33_2).f0 = g0 at hx216_0 hx217_0
                        generalize (rd_T38 t203 x33_2).f1 = g1 at hx216_1 hx217_1
                        go_wp2
                        repeat (go_quiet (fail); try go_wp2)
                        go_roundg k2
                        case measure => have := HJ6.out; have := HK2.out; omega
                        case rel => exact ⟨(wrap64 (x33_2 + 1)), (by first | rfl | (simp; done) | (simp [*]; done)), H', ⟨by have := HJ6.out; have := HK2.out; omega⟩, ⟨by (with_reducible repeat (first | apply Kd.R_alloc | apply Kd.R_drewN | apply Kd.R_drew)); exact HO_5.out⟩, ⟨by (with_reducible repeat (first | apply Kd.R_alloc | apply Kd.R_drewN | apply Kd.R_drew)); exact HO_6.out⟩, ⟨by repeat (first | (with_reducible first | exact HB.out | apply below_alloc | apply pw_below_drewN | apply below_drew1) | exact HB.out)⟩⟩
                    · rw [if_neg c28] at H
                      exact absurd H (by simp)
                  · rw [if_neg c27] at H
                    exact absurd H (by simp)
                · rw [if_neg c26] at H
                  exact absurd H (by simp)
              · rw [if_neg c25] at H
                have c25b0 : decide (x33_2 < (t203.length : Int)) = false := decide_eq_false c25
                clear c25
                obtain rfl := Option.some.inj H
                go_wp2
                repeat (go_quiet (fail); try go_wp2)
                go_ret
                exact ⟨by first | rfl | (simp [errW_none, errW_some] <;> rfl) | (simp [*, errW_none, errW_some] <;> rfl), by repeat (first | (with_reducible first | exact HB.out | apply below_alloc | apply pw_below_drewN | apply below_drew1) | exact HB.out)⟩
  · replace c4 := Bool.eq_false_iff.mpr c4
    subst c4
    have H1 : (some false) = some r := by rw [if_neg (show ¬ (false = true) by decide)] at H; exact H
    clear H
    have H := H1
    clear H1
    obtain rfl := Option.some.inj H
    go_enter Tryd.func4, Tryd.ntmps4
    go_wp2_with (first | (go_at_call 9; (with_reducible refine (chantrylaw14_alive.calls k  false _ A3.out ?sideT).mono ?_); (case sideT => exact TabAt.below HTA.out (Nat.le_refl _) (by repeat (first | (with_reducible first | exact HB.out | apply below_alloc | apply pw_below_drewN | apply below_drew1) | exact HB.out))); rintro e w32 ⟨rfl, hb⟩; have n0_ := Aside0.mk (below_step (by repeat (first | (with_reducible first | exact HB.out | apply below_alloc | apply pw_below_drewN | apply below_drew1) | exact HB.out)) hb); clear HB; have HB := n0_; clear n0_; (try clear hb); (try clear hb2); (try clear hk); (try clear hi)))
    repeat (go_quiet (first | (go_at_call 9; (with_reducible refine (chantrylaw14_alive.calls k  false _ A3.out ?sideT).mono ?_); (case sideT => exact TabAt.below HTA.out (Nat.le_refl _) (by repeat (first | (with_reducible first | exact HB.out | apply below_alloc | apply pw_below_drewN | apply below_drew1) | exact HB.out))); rintro e w32 ⟨rfl, hb⟩; have n0_ := Aside0.mk (below_step (by repeat (first | (with_reducible first | exact HB.out | apply below_alloc | apply pw_below_drewN | apply below_drew1) | exact HB.out)) hb); clear HB; have HB := n0_; clear n0_; (try clear hb); (try clear hb2); (try clear hk); (try clear hi))); try go_wp2_with (first | (go_at_call 9; (with_reducible refine (chantrylaw14_alive.calls k  false _ A3.out ?sideT).mono ?_); (case sideT => exact TabAt.below HTA.out (Nat.le_refl _) (by repeat (first | (with_reducible first | exact HB.out | apply below_alloc | apply pw_below_drewN | apply below_drew1) | exact HB.out))); rintro e w32 ⟨rfl, hb⟩; have n0_ := Aside0.mk (below_step (by repeat (first | (with_reducible first | exact HB.out | apply below_alloc | apply pw_below_drewN | apply below_drew1) | exact HB.out)) hb); clear HB; have HB := n0_; clear n0_; (try clear hb); (try clear hb2); (try clear hk); (try clear hi))))
    go_ret
    exact ⟨by first | rfl | (simp [errW_none, errW_some] <;> rfl) | (simp [*, errW_none, errW_some] <;> rfl), by repeat (first | (with_reducible first | exact HB.out | apply below_alloc | apply pw_below_drewN | apply below_drew1) | exact HB.out)⟩

/-- THE ONE PURE STATEMENT of chantrylaw14_TreeSteps: yours. -/

def chantrylaw14_TreeSteps.Pure : Prop := ∀ (a0 : Int) (a1 : Int), (Lit.int .u16 a0).wf = true → (Lit.int .u16 a1).wf = true → ∃ k, chantrylaw14_TreeSteps.f k a0 a1 = some true
theorem chantrylaw14_TreeSteps.walk (P : chantrylaw14_TreeSteps.Pure) (a0 : Int) (a1 : Int) (w : World) (w0 : (Lit.int .u16 a0).wf = true) (w1 : (Lit.int .u16 a1).wf = true) (HT0 : TabAt w) :
    Calls Tryd.prog 4 #[.int .u16 a0, .int .u16 a1] w fun e w' => e = .returned (.bool true) ∧ Below w.heap.size w w' := by
  obtain ⟨k, h⟩ := P a0 a1 w0 w1
  refine (chantrylaw14_TreeSteps.calls k a0 a1 true w h HT0).mono ?_
  rintro e w' ⟨rfl, hd⟩
  exact ⟨rfl, hd⟩

-- NOT PRINTED: function 5 (chantrylaw14_TreeReached)
end Go.Proofs.YtnpabhoflkppaaaDoor.Pr

