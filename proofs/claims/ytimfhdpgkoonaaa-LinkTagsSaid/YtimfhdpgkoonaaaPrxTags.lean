-- Written by a program of this repo (wip/printx.py) out of the translation; Lean checks it.
import Derived.Test.YtimfhdpgkoonaaaPrx0
import Derived.Test.YtimfhdpgkoonaaaPrx2
import Derived.Test.YtimfhdpgkoonaaaPrx5
import Derived.Test.YtimfhdpgkoonaaaPrx7
namespace Go.Proofs.Ytimfhdpgkoonaaa.Pr
open Go.RowKit Go.Proofs.YtimfhdpgkoonaaaW.PrintWords Go.Proofs.YtimfhdpgkoonaaaW.PrintLast Go.Proofs.YtimfhdpgkoonaaaW.PrintMore
attribute [local go_sem] max2_int min2_int max_two min_two max_three min_three max_four min_four   -- for this text's walks alone
set_option linter.unusedVariables false
set_option linter.unusedSimpArgs false

/-! ### chantrylaw06_LinkTags: function 3 -/
def chantrylaw06_LinkTags.j0 : Nat → ByteArray → ByteArray → Bool → Int → Int → Int → List Int → ByteArray → Option (Bool)
  | 0, _, _, _, _, _, _, _, _ => none
  | k + 1, x0, x2, x29, x238000, x238001, x238002, x238003, x238004 => if x29 = true then (some true) else ((link_Key.f x0 x238000 x238001).bind fun bt240 => ((chantryref06_Key.f k x0 x238000 x238001).bind fun bt242 => ((link_Tag.f x2 x238000 x238001 x238002 x238003 x238004).bind fun bt244 => ((chantryref06_Tag.f k x2 x238000 x238001 x238002 x238003 x238004).bind fun bt246 => (if bt240.1.toList = bt242.1.toList then (if bt240.2 = bt242.2 then (if bt244.1.toList = bt246.1.toList then (some (bt244.2 == bt246.2)) else (some false)) else (some false)) else (some false))))))
def chantrylaw06_LinkTags.f (k : Nat) (a0 : ByteArray) (a1_0 : Int) (a1_1 : Int) (a1_2 : Int) (l1_3 : List Int) (a1_4 : ByteArray) (a2 : ByteArray) : Option (Bool) := (chantrylaw06_alive.f k).bind fun t238 => (if t238 = true then ((chantrylaw06_few.f a1_0 a1_1 a1_2 l1_3 a1_4).bind fun t239 => (if t239 = true then (if (a0.size : Int) > 3000 then (chantrylaw06_LinkTags.j0 k a0 a2 true a1_0 a1_1 a1_2 l1_3 a1_4) else (chantrylaw06_LinkTags.j0 k a0 a2 (decide ((a2.size : Int) > 3000)) a1_0 a1_1 a1_2 l1_3 a1_4)) else (chantrylaw06_LinkTags.j0 k a0 a2 true a1_0 a1_1 a1_2 l1_3 a1_4))) else (some false))
theorem chantrylaw06_LinkTags.mono_l : ∀ k, (∀ y0 y1 y2 y3 y4 y5 y6 y7, LeO (chantrylaw06_LinkTags.j0 k y0 y1 y2 y3 y4 y5 y6 y7) (chantrylaw06_LinkTags.j0 (k + 1) y0 y1 y2 y3 y4 y5 y6 y7))
  | 0 => fun _ _ _ _ _ _ _ _ r h => by simp [chantrylaw06_LinkTags.j0] at h
  | k + 1 => by
    have ih0 := chantrylaw06_LinkTags.mono_l k
    · intro y0 y1 y2 y3 y4 y5 y6 y7
      unfold chantrylaw06_LinkTags.j0
      repeat' first
      | (with_reducible exact ih0 _ _ _ _ _ _ _ _)
      | (with_reducible exact chantrylaw06_alive.mono _)
      | (with_reducible exact chantryref06_Key.mono _ _ _ _)
      | (with_reducible exact chantryref06_Tag.mono _ _ _ _ _ _ _)
      | (with_reducible exact LeO.refl _)
      | (with_reducible exact LeO.none _)
      | (with_reducible refine LeO.ite ?_ ?_)
      | (with_reducible refine LeO.bind ?_ (fun _ => ?_))
      | exact ih0 _ _ _ _ _ _ _ _
      | exact chantrylaw06_alive.mono _
      | exact chantryref06_Key.mono _ _ _ _
      | exact chantryref06_Tag.mono _ _ _ _ _ _ _
      | exact LeO.none _
      | refine LeO.ite ?_ ?_
      | refine LeO.bind ?_ (fun _ => ?_)
theorem chantrylaw06_LinkTags.mono : ∀ a0 a1 a2 a3 a4 a5 a6 k, LeO (chantrylaw06_LinkTags.f k a0 a1 a2 a3 a4 a5 a6) (chantrylaw06_LinkTags.f (k + 1) a0 a1 a2 a3 a4 a5 a6) := by
  intro a0 a1 a2 a3 a4 a5 a6 k
  have ih0 := chantrylaw06_LinkTags.mono_l k
  unfold chantrylaw06_LinkTags.f
  repeat' first
      | (with_reducible exact ih0 _ _ _ _ _ _ _ _)
      | (with_reducible exact chantrylaw06_alive.mono _)
      | (with_reducible exact chantryref06_Key.mono _ _ _ _)
      | (with_reducible exact chantryref06_Tag.mono _ _ _ _ _ _ _)
      | (with_reducible exact LeO.refl _)
      | (with_reducible exact LeO.none _)
      | (with_reducible refine LeO.ite ?_ ?_)
      | (with_reducible refine LeO.bind ?_ (fun _ => ?_))
      | exact ih0 _ _ _ _ _ _ _ _
      | exact chantrylaw06_alive.mono _
      | exact chantryref06_Key.mono _ _ _ _
      | exact chantryref06_Tag.mono _ _ _ _ _ _ _
      | exact LeO.none _
      | refine LeO.ite ?_ ?_
      | refine LeO.bind ?_ (fun _ => ?_)
set_option maxHeartbeats 8000000 in
set_option maxRecDepth 100000 in
theorem chantrylaw06_LinkTags.calls (k : Nat) (a0 : ByteArray) (a1_0 : Int) (a1_1 : Int) (a1_2 : Int) (A1_3 : Option Addr) (c1_3 : Nat) (l1_3 : List Int) (a1_4 : ByteArray) (a2 : ByteArray) (r : Bool) (w : World) (hr1_3 : Kd.C (Kd.int .u8) w A1_3 l1_3.length l1_3) (hc1_3 : l1_3.length ≤ c1_3) (h : chantrylaw06_LinkTags.f k a0 a1_0 a1_1 a1_2 l1_3 a1_4 a2 = some r) (HTRUE : r = true := by rfl) :
    Calls Try.prog 3 #[.string a0, .agg #[.int .u8 a1_0, .int .u8 a1_1, .int .u32 a1_2, .slice A1_3 l1_3.length c1_3, .string a1_4], .string a2] w fun e w' => e = .returned (.bool r) ∧ Below w.heap.size w w' := by
  have hu26 := Try.underlying26
  have HR1_3 := Aside0.mk hr1_3
  have HC1_3 := Aside0.mk hc1_3
  clear hr1_3 hc1_3
  have HB := Aside0.mk (Below.refl w.heap.size w)
  have H : ((chantrylaw06_alive.f k).bind fun t238 => (if t238 = true then ((chantrylaw06_few.f a1_0 a1_1 a1_2 l1_3 a1_4).bind fun t239 => (if t239 = true then (if (a0.size : Int) > 3000 then (chantrylaw06_LinkTags.j0 k a0 a2 true a1_0 a1_1 a1_2 l1_3 a1_4) else (chantrylaw06_LinkTags.j0 k a0 a2 (decide ((a2.size : Int) > 3000)) a1_0 a1_1 a1_2 l1_3 a1_4)) else (chantrylaw06_LinkTags.j0 k a0 a2 true a1_0 a1_1 a1_2 l1_3 a1_4))) else (some false))) = some r := h
  clear h
  replace H := Option.bind_eq_some_iff.mp H
  obtain ⟨t238, A40, H⟩ := H
  replace H : (if t238 = true then ((chantrylaw06_few.f a1_0 a1_1 a1_2 l1_3 a1_4).bind fun t239 => (if t239 = true then (if (a0.size : Int) > 3000 then (chantrylaw06_LinkTags.j0 k a0 a2 true a1_0 a1_1 a1_2 l1_3 a1_4) else (chantrylaw06_LinkTags.j0 k a0 a2 (decide ((a2.size : Int) > 3000)) a1_0 a1_1 a1_2 l1_3 a1_4)) else (chantrylaw06_LinkTags.j0 k a0 a2 true a1_0 a1_1 a1_2 l1_3 a1_4))) else (some false)) = some r := H
  have A4 := Aside0.mk A40
  clear A40
  by_cases c5 : t238 = true
  · subst c5
    have H1 : ((chantrylaw06_few.f a1_0 a1_1 a1_2 l1_3 a1_4).bind fun t239 => (if t239 = true then (if (a0.size : Int) > 3000 then (chantrylaw06_LinkTags.j0 k a0 a2 true a1_0 a1_1 a1_2 l1_3 a1_4) else (chantrylaw06_LinkTags.j0 k a0 a2 (decide ((a2.size : Int) > 3000)) a1_0 a1_1 a1_2 l1_3 a1_4)) else (chantrylaw06_LinkTags.j0 k a0 a2 true a1_0 a1_1 a1_2 l1_3 a1_4))) = some r := by rw [if_pos rfl] at H; exact H
    clear H
    have H := H1
    clear H1
    have HC6 := Aside0.mk H
    clear H
    go_enter Try.func3, Try.ntmps3
    go_upto_region 3 with (first | ((with_reducible refine gate_dst (N := 4) rfl ?_); (try (refine gate_guard (by rfl) ?_; dsimp only)); refine box_event ?hg (N := 4) ?hd (cs := #[.int .u8 a1_0, .int .u8 a1_1, .int .u32 a1_2, .slice A1_3 l1_3.length c1_3, .string a1_4]) (t := 26) ?hr ?_; (case hd => rfl); (case hg => rfl); (case hr => first | (go_simp; done) | (go_simp; rfl)); intro gb237 hg w7 hbox hb; have n0_ := Aside0.mk (below_step (by repeat (first | (with_reducible first | exact HB.out | apply below_alloc | apply pw_below_drewN | apply below_drew1) | exact HB.out)) hb); have n1_ := Aside0.mk (hbox); have n2_ := Aside0.mk ((by rw [hg]; exact (below_size (by repeat (first | (with_reducible first | exact HB.out | apply below_alloc | apply pw_below_drewN | apply below_drew1) | exact HB.out))) : w.heap.size ≤ gb237)); have n3_ := Aside0.mk ((by rw [hg]; exact (below_size (by repeat (first | (with_reducible first | exact HB.out | apply below_alloc | apply pw_below_drewN | apply below_drew1) | exact HB.out))) : w.heap.size ≤ gb237)); clear HB; have HB := n0_; have BK237 := n1_; have GW237 := n2_; have GE237 := n3_; clear n0_ n1_ n2_ n3_; clear hb hbox hg) | ((with_reducible refine gate_callee (f := 11) rfl ?_); refine goesL_ (some 15) rfl rfl Try.func11 (by kernel_rfl) rfl #[] rfl (by (try simp only [List.map_toArray, List.map_cons, List.map_nil]); first | done | rfl | (simp only [List.length_drop, List.length_take]; rfl)) ?_; (with_reducible refine (chantrylaw06_alive.calls k  true _ A4.out).mono ?_); rintro e w8 ⟨rfl, hb⟩; refine ⟨_, rfl, ?_⟩; have n0_ := Aside0.mk (blk_below (g := gb237) (o := .cells #[.int .u8 a1_0, .int .u8 a1_1, .int .u32 a1_2, .slice A1_3 l1_3.length c1_3, .string a1_4] 26 (0, 0)) (by (with_reducible repeat (first | refine blk_drewN ?_ _ | refine blk_drew ?_ | refine blk_alloc ?_ _)); exact BK237.out) hb); have n1_ := Aside0.mk (below_step (by repeat (first | (with_reducible first | exact HB.out | apply below_alloc | apply pw_below_drewN | apply below_drew1 | refine below_set ?_ GE237.out) | exact HB.out)) hb); clear BK237; clear HB; have BK237 := n0_; have HB := n1_; clear n0_ n1_; (try clear hb); (try clear hb2); (try clear hk); (try clear hi)))
    (try simp only [Act.put, List.setIfInBounds_toArray, List.set_cons_zero, List.set_cons_succ])
    go_cut [29] (fun v29 wc => ∃ (kq : Nat) (x29_5 : Bool), v29 = .bool x29_5 ∧ Aside0 (chantrylaw06_LinkTags.j0 kq a0 a2 x29_5 a1_0 a1_1 a1_2 l1_3 a1_4 = some r) ∧ Aside0 (kq ≤ k) ∧ Aside0 (wc.heap[gb237]? = some (.cells #[.int .u8 a1_0, .int .u8 a1_1, .int .u32 a1_2, (.slice A1_3 l1_3.length c1_3), .string a1_4] 26 (0, 0))) ∧ Aside0 (Below w.heap.size w wc))
    case first =>
      have H := HC6.out
      clear HC6
      replace H := Option.bind_eq_some_iff.mp H
      obtain ⟨t239, A90, H⟩ := H
      replace H : (if t239 = true then (if (a0.size : Int) > 3000 then (chantrylaw06_LinkTags.j0 k a0 a2 true a1_0 a1_1 a1_2 l1_3 a1_4) else (chantrylaw06_LinkTags.j0 k a0 a2 (decide ((a2.size : Int) > 3000)) a1_0 a1_1 a1_2 l1_3 a1_4)) else (chantrylaw06_LinkTags.j0 k a0 a2 true a1_0 a1_1 a1_2 l1_3 a1_4)) = some r := H
      have A9 := Aside0.mk A90
      clear A90
      by_cases c10 : t239 = true
      · subst c10
        have H1 : (if (a0.size : Int) > 3000 then (chantrylaw06_LinkTags.j0 k a0 a2 true a1_0 a1_1 a1_2 l1_3 a1_4) else (chantrylaw06_LinkTags.j0 k a0 a2 (decide ((a2.size : Int) > 3000)) a1_0 a1_1 a1_2 l1_3 a1_4)) = some r := by rw [if_pos rfl] at H; exact H
        clear H
        have H := H1
        clear H1
        by_cases c11 : (a0.size : Int) > 3000
        · rw [if_pos c11] at H
          have c11b0 : decide (3000 < (a0.size : Int)) = true := decide_eq_true c11
          have c11b1 : decide (3000 < a0.size) = true := decide_eq_true (by omega)
          clear c11
          (first | rw [c11b0] | (simp only [i64_w, i32_w]; rw [c11b0]) | skip)
          have H' := Aside0.mk H
          clear H
          have hcz12_0 : w8.cell? ⟨gb237, 0, none⟩ = some (.int .u8 a1_0) := (blk_cell BK237.out 0).trans rfl
          have hcz12_1 : w8.cell? ⟨gb237, 1, none⟩ = some (.int .u8 a1_1) := (blk_cell BK237.out 1).trans rfl
          have hcz12_2 : w8.cell? ⟨gb237, 2, none⟩ = some (.int .u32 a1_2) := (blk_cell BK237.out 2).trans rfl
          have hcz12_3 : w8.cell? ⟨gb237, 3, none⟩ = some (.slice A1_3 l1_3.length c1_3) := (blk_cell BK237.out 3).trans rfl
          have hcz12_4 : w8.cell? ⟨gb237, 4, none⟩ = some (.string a1_4) := (blk_cell BK237.out 4).trans rfl
          have hfz12_0 := blk_frozen BK237.out 0
          have hfz12_1 := blk_frozen BK237.out 1
          have hfz12_2 := blk_frozen BK237.out 2
          have hfz12_3 := blk_frozen BK237.out 3
          have hfz12_4 := blk_frozen BK237.out 4
          go_wp2_with (first | ((with_reducible refine gate_callee (f := 12) rfl ?_); refine goesL_ (some 18) rfl rfl Try.func12 (by kernel_rfl) rfl #[.agg #[.int .u8 a1_0, .int .u8 a1_1, .int .u32 a1_2, .slice A1_3 l1_3.length c1_3, .string a1_4]] rfl (by (try simp only [List.map_toArray, List.map_cons, List.map_nil]); first | done | rfl | (simp only [List.length_drop, List.length_take]; rfl)) ?_; (with_reducible refine (chantrylaw06_few.calls a1_0 a1_1 a1_2 _ _ l1_3 a1_4 true _ ?side1 ?side2 A9.out).mono ?_); (case side1 => repeat (first | exact (Kd.C_below HR1_3.out HB.out) | (with_reducible refine Kd.C_alloc ?_ _) | (with_reducible refine Kd.C_drewN ?_ _) | (with_reducible refine Kd.C_drew ?_))); (case side2 => exact HC1_3.out); rintro e w13 ⟨rfl, hb⟩; refine ⟨_, rfl, ?_⟩; have n0_ := Aside0.mk (blk_below (g := gb237) (o := .cells #[.int .u8 a1_0, .int .u8 a1_1, .int .u32 a1_2, .slice A1_3 l1_3.length c1_3, .string a1_4] 26 (0, 0)) (by (with_reducible repeat (first | refine blk_drewN ?_ _ | refine blk_drew ?_ | refine blk_alloc ?_ _)); exact BK237.out) hb); have n1_ := Aside0.mk (below_step (by repeat (first | (with_reducible first | exact HB.out | apply below_alloc | apply pw_below_drewN | apply below_drew1 | refine below_set ?_ GE237.out) | exact HB.out)) hb); clear BK237; clear HB; have BK237 := n0_; have HB := n1_; clear n0_ n1_; (try clear hb); (try clear hb2); (try clear hk); (try clear hi)))
          go_meet
          case rel => exact ⟨_, (true), (by first | rfl | (simp; done) | (simp [*]; done)), H', ⟨by first | omega | exact Nat.le_refl _⟩, ⟨by (with_reducible repeat (first | refine blk_drewN ?_ _ | refine blk_drew ?_ | refine blk_alloc ?_ _)); exact BK237.out⟩, ⟨by repeat (first | (with_reducible first | exact HB.out | apply below_alloc | apply pw_below_drewN | apply below_drew1 | refine below_set ?_ GE237.out) | exact HB.out)⟩⟩
        · rw [if_neg c11] at H
          have c11b0 : decide (3000 < (a0.size : Int)) = false := decide_eq_false c11
          have c11b1 : decide (3000 < a0.size) = false := decide_eq_false (by omega)
          clear c11
          (first | rw [c11b0] | (simp only [i64_w, i32_w]; rw [c11b0]) | skip)
          have H' := Aside0.mk H
          clear H
          have hcz14_0 : w8.cell? ⟨gb237, 0, none⟩ = some (.int .u8 a1_0) := (blk_cell BK237.out 0).trans rfl
          have hcz14_1 : w8.cell? ⟨gb237, 1, none⟩ = some (.int .u8 a1_1) := (blk_cell BK237.out 1).trans rfl
          have hcz14_2 : w8.cell? ⟨gb237, 2, none⟩ = some (.int .u32 a1_2) := (blk_cell BK237.out 2).trans rfl
          have hcz14_3 : w8.cell? ⟨gb237, 3, none⟩ = some (.slice A1_3 l1_3.length c1_3) := (blk_cell BK237.out 3).trans rfl
          have hcz14_4 : w8.cell? ⟨gb237, 4, none⟩ = some (.string a1_4) := (blk_cell BK237.out 4).trans rfl
          have hfz14_0 := blk_frozen BK237.out 0
          have hfz14_1 := blk_frozen BK237.out 1
          have hfz14_2 := blk_frozen BK237.out 2
          have hfz14_3 := blk_frozen BK237.out 3
          have hfz14_4 := blk_frozen BK237.out 4
          go_wp2_with (first | ((with_reducible refine gate_callee (f := 12) rfl ?_); refine goesL_ (some 18) rfl rfl Try.func12 (by kernel_rfl) rfl #[.agg #[.int .u8 a1_0, .int .u8 a1_1, .int .u32 a1_2, .slice A1_3 l1_3.length c1_3, .string a1_4]] rfl (by (try simp only [List.map_toArray, List.map_cons, List.map_nil]); first | done | rfl | (simp only [List.length_drop, List.length_take]; rfl)) ?_; (with_reducible refine (chantrylaw06_few.calls a1_0 a1_1 a1_2 _ _ l1_3 a1_4 true _ ?side1 ?side2 A9.out).mono ?_); (case side1 => repeat (first | exact (Kd.C_below HR1_3.out HB.out) | (with_reducible refine Kd.C_alloc ?_ _) | (with_reducible refine Kd.C_drewN ?_ _) | (with_reducible refine Kd.C_drew ?_))); (case side2 => exact HC1_3.out); rintro e w15 ⟨rfl, hb⟩; refine ⟨_, rfl, ?_⟩; have n0_ := Aside0.mk (blk_below (g := gb237) (o := .cells #[.int .u8 a1_0, .int .u8 a1_1, .int .u32 a1_2, .slice A1_3 l1_3.length c1_3, .string a1_4] 26 (0, 0)) (by (with_reducible repeat (first | refine blk_drewN ?_ _ | refine blk_drew ?_ | refine blk_alloc ?_ _)); exact BK237.out) hb); have n1_ := Aside0.mk (below_step (by repeat (first | (with_reducible first | exact HB.out | apply below_alloc | apply pw_below_drewN | apply below_drew1 | refine below_set ?_ GE237.out) | exact HB.out)) hb); clear BK237; clear HB; have BK237 := n0_; have HB := n1_; clear n0_ n1_; (try clear hb); (try clear hb2); (try clear hk); (try clear hi)))
          go_meet
          case rel => exact ⟨_, (decide ((a2.size : Int) > 3000)), (by first | rfl | (simp; done) | (simp [*]; done)), H', ⟨by first | omega | exact Nat.le_refl _⟩, ⟨by (with_reducible repeat (first | refine blk_drewN ?_ _ | refine blk_drew ?_ | refine blk_alloc ?_ _)); exact BK237.out⟩, ⟨by repeat (first | (with_reducible first | exact HB.out | apply below_alloc | apply pw_below_drewN | apply below_drew1 | refine below_set ?_ GE237.out) | exact HB.out)⟩⟩
      · replace c10 := Bool.eq_false_iff.mpr c10
        subst c10
        have H1 : (chantrylaw06_LinkTags.j0 k a0 a2 true a1_0 a1_1 a1_2 l1_3 a1_4) = some r := by rw [if_neg (show ¬ (false = true) by decide)] at H; exact H
        clear H
        have H := H1
        clear H1
        have H' := Aside0.mk H
        clear H
        have hcz16_0 : w8.cell? ⟨gb237, 0, none⟩ = some (.int .u8 a1_0) := (blk_cell BK237.out 0).trans rfl
        have hcz16_1 : w8.cell? ⟨gb237, 1, none⟩ = some (.int .u8 a1_1) := (blk_cell BK237.out 1).trans rfl
        have hcz16_2 : w8.cell? ⟨gb237, 2, none⟩ = some (.int .u32 a1_2) := (blk_cell BK237.out 2).trans rfl
        have hcz16_3 : w8.cell? ⟨gb237, 3, none⟩ = some (.slice A1_3 l1_3.length c1_3) := (blk_cell BK237.out 3).trans rfl
        have hcz16_4 : w8.cell? ⟨gb237, 4, none⟩ = some (.string a1_4) := (blk_cell BK237.out 4).trans rfl
        have hfz16_0 := blk_frozen BK237.out 0
        have hfz16_1 := blk_frozen BK237.out 1
        have hfz16_2 := blk_frozen BK237.out 2
        have hfz16_3 := blk_frozen BK237.out 3
        have hfz16_4 := blk_frozen BK237.out 4
        go_wp2_with (first | ((with_reducible refine gate_callee (f := 12) rfl ?_); refine goesL_ (some 18) rfl rfl Try.func12 (by kernel_rfl) rfl #[.agg #[.int .u8 a1_0, .int .u8 a1_1, .int .u32 a1_2, .slice A1_3 l1_3.length c1_3, .string a1_4]] rfl (by (try simp only [List.map_toArray, List.map_cons, List.map_nil]); first | done | rfl | (simp only [List.length_drop, List.length_take]; rfl)) ?_; (with_reducible refine (chantrylaw06_few.calls a1_0 a1_1 a1_2 _ _ l1_3 a1_4 false _ ?side1 ?side2 A9.out).mono ?_); (case side1 => repeat (first | exact (Kd.C_below HR1_3.out HB.out) | (with_reducible refine Kd.C_alloc ?_ _) | (with_reducible refine Kd.C_drewN ?_ _) | (with_reducible refine Kd.C_drew ?_))); (case side2 => exact HC1_3.out); rintro e w17 ⟨rfl, hb⟩; refine ⟨_, rfl, ?_⟩; have n0_ := Aside0.mk (blk_below (g := gb237) (o := .cells #[.int .u8 a1_0, .int .u8 a1_1, .int .u32 a1_2, .slice A1_3 l1_3.length c1_3, .string a1_4] 26 (0, 0)) (by (with_reducible repeat (first | refine blk_drewN ?_ _ | refine blk_drew ?_ | refine blk_alloc ?_ _)); exact BK237.out) hb); have n1_ := Aside0.mk (below_step (by repeat (first | (with_reducible first | exact HB.out | apply below_alloc | apply pw_below_drewN | apply below_drew1 | refine below_set ?_ GE237.out) | exact HB.out)) hb); clear BK237; clear HB; have BK237 := n0_; have HB := n1_; clear n0_ n1_; (try clear hb); (try clear hb2); (try clear hk); (try clear hi)))
        go_meet
        case rel => exact ⟨_, (true), (by first | rfl | (simp; done) | (simp [*]; done)), H', ⟨by first | omega | exact Nat.le_refl _⟩, ⟨by (with_reducible repeat (first | refine blk_drewN ?_ _ | refine blk_drew ?_ | refine blk_alloc ?_ _)); exact BK237.out⟩, ⟨by repeat (first | (with_reducible first | exact HB.out | apply below_alloc | apply pw_below_drewN | apply below_drew1 | refine below_set ?_ GE237.out) | exact HB.out)⟩⟩
    case rest =>
      clear HC6
      try clear c1
      try clear p2
      try clear c3
      try clear c5
      try clear c10
      try clear c11
      try clear c11b0
      try clear c11b1
      try clear c12
      try clear hcz12_0
      try clear hcz12_1
      try clear hcz12_2
      try clear hcz12_3
      try clear hcz12_4
      try clear hcz14_0
      try clear hcz14_1
      try clear hcz14_2
      try clear hcz14_3
      try clear hcz14_4
      try clear hcz16_0
      try clear hcz16_1
      try clear hcz16_2
      try clear hcz16_3
      try clear hcz16_4
      try clear hfz12_0
      try clear hfz12_1
      try clear hfz12_2
      try clear hfz12_3
      try clear hfz12_4
      try clear hfz14_0
      try clear hfz14_1
      try clear hfz14_2
      try clear hfz14_3
      try clear hfz14_4
      try clear hfz16_0
      try clear hfz16_1
      try clear hfz16_2
      try clear hfz16_3
      try clear hfz16_4
      obtain ⟨kq, x29_5, rfl, HA, HJ5, BK237, HB⟩ := hcut
      cases kq with
      | zero => exact absurd HA.out (by simp [chantrylaw06_LinkTags.j0])
      | succ kj5 =>
        have H := HA.out
        clear HA
        simp only [chantrylaw06_LinkTags.j0] at H
        by_cases c18 : x29_5 = true
        · subst c18
          have H1 : (some true) = some r := by rw [if_pos rfl] at H; exact H
          clear H
          have H := H1
          clear H1
          obtain rfl := Option.some.inj H
          try clear HTRUE
          go_wp2
          go_ret
          exact ⟨by first | rfl | (simp [errW_none, errW_some] <;> rfl) | (simp [*, errW_none, errW_some] <;> rfl), by repeat (first | (with_reducible first | exact HB.out | apply below_alloc | apply pw_below_drewN | apply below_drew1 | refine below_set ?_ GE237.out) | exact HB.out)⟩
        · replace c18 := Bool.eq_false_iff.mpr c18
          subst c18
          have H1 : ((link_Key.f a0 a1_0 a1_1).bind fun bt240 => ((chantryref06_Key.f kj5 a0 a1_0 a1_1).bind fun bt242 => ((link_Tag.f a2 a1_0 a1_1 a1_2 l1_3 a1_4).bind fun bt244 => ((chantryref06_Tag.f kj5 a2 a1_0 a1_1 a1_2 l1_3 a1_4).bind fun bt246 => (if bt240.1.toList = bt242.1.toList then (if bt240.2 = bt242.2 then (if bt244.1.toList = bt246.1.toList then (some (bt244.2 == bt246.2)) else (some false)) else (some false)) else (some false)))))) = some r := by rw [if_neg (show ¬ (false = true) by decide)] at H; exact H
          clear H
          have H := H1
          clear H1
          replace H := Option.bind_eq_some_iff.mp H
          obtain ⟨⟨t240, t241⟩, A190, H⟩ := H
          replace H : ((chantryref06_Key.f kj5 a0 a1_0 a1_1).bind fun bt242 => ((link_Tag.f a2 a1_0 a1_1 a1_2 l1_3 a1_4).bind fun bt244 => ((chantryref06_Tag.f kj5 a2 a1_0 a1_1 a1_2 l1_3 a1_4).bind fun bt246 => (if t240.toList = bt242.1.toList then (if t241 = bt242.2 then (if bt244.1.toList = bt246.1.toList then (some (bt244.2 == bt246.2)) else (some false)) else (some false)) else (some false))))) = some r := H
          have A19 := Aside0.mk A190
          clear A190
          replace H := Option.bind_eq_some_iff.mp H
          obtain ⟨⟨t242, t243⟩, A200, H⟩ := H
          replace H : ((link_Tag.f a2 a1_0 a1_1 a1_2 l1_3 a1_4).bind fun bt244 => ((chantryref06_Tag.f kj5 a2 a1_0 a1_1 a1_2 l1_3 a1_4).bind fun bt246 => (if t240.toList = t242.toList then (if t241 = t243 then (if bt244.1.toList = bt246.1.toList then (some (bt244.2 == bt246.2)) else (some false)) else (some false)) else (some false)))) = some r := H
          have A20 := Aside0.mk A200
          clear A200
          replace H := Option.bind_eq_some_iff.mp H
          obtain ⟨⟨t244, t245⟩, A210, H⟩ := H
          replace H : ((chantryref06_Tag.f kj5 a2 a1_0 a1_1 a1_2 l1_3 a1_4).bind fun bt246 => (if t240.toList = t242.toList then (if t241 = t243 then (if t244.toList = bt246.1.toList then (some (t245 == bt246.2)) else (some false)) else (some false)) else (some false))) = some r := H
          have A21 := Aside0.mk A210
          clear A210
          replace H := Option.bind_eq_some_iff.mp H
          obtain ⟨⟨t246, t247⟩, A220, H⟩ := H
          replace H : (if t240.toList = t242.toList then (if t241 = t243 then (if t244.toList = t246.toList then (some (t245 == t247)) else (some false)) else (some false)) else (some false)) = some r := H
          have A22 := Aside0.mk A220
          clear A220
          by_cases c23 : t240.toList = t242.toList
          · rw [if_pos c23] at H
            have c23b0 : (t240.toList == t242.toList) = true := beq_iff_eq.mpr c23
            have c23b1 : (t240.toList != t242.toList) = false := bne_eq_false_iff_eq.mpr c23
            clear c23
            by_cases c24 : t241 = t243
            · rw [if_pos c24] at H
              have c24b0 : (t241 == t243) = true := beq_iff_eq.mpr c24
              have c24b1 : (t241 != t243) = false := bne_eq_false_iff_eq.mpr c24
              clear c24
              by_cases c25 : t244.toList = t246.toList
              · rw [if_pos c25] at H
                have c25b0 : (t244.toList == t246.toList) = true := beq_iff_eq.mpr c25
                have c25b1 : (t244.toList != t246.toList) = false := bne_eq_false_iff_eq.mpr c25
                clear c25
                obtain rfl := Option.some.inj H
                try clear HTRUE
                have hcz26_0 : wc.cell? ⟨gb237, 0, none⟩ = some (.int .u8 a1_0) := (blk_cell BK237.out 0).trans rfl
                have hcz26_1 : wc.cell? ⟨gb237, 1, none⟩ = some (.int .u8 a1_1) := (blk_cell BK237.out 1).trans rfl
                have hcz26_2 : wc.cell? ⟨gb237, 2, none⟩ = some (.int .u32 a1_2) := (blk_cell BK237.out 2).trans rfl
                have hcz26_3 : wc.cell? ⟨gb237, 3, none⟩ = some (.slice A1_3 l1_3.length c1_3) := (blk_cell BK237.out 3).trans rfl
                have hcz26_4 : wc.cell? ⟨gb237, 4, none⟩ = some (.string a1_4) := (blk_cell BK237.out 4).trans rfl
                have hfz26_0 := blk_frozen BK237.out 0
                have hfz26_1 := blk_frozen BK237.out 1
                have hfz26_2 := blk_frozen BK237.out 2
                have hfz26_3 := blk_frozen BK237.out 3
                have hfz26_4 := blk_frozen BK237.out 4
                go_wp2_with (first | ((with_reducible refine gate_callee (f := 13) rfl ?_); refine goesL_ (some 36) rfl rfl Try.func13 (by kernel_rfl) rfl #[.string a0, .int .u8 a1_0, .int .u8 a1_1] rfl (by (try simp only [List.map_toArray, List.map_cons, List.map_nil]); first | done | rfl | (simp only [List.length_drop, List.length_take]; rfl)) ?_; (with_reducible refine (link_Key.calls a0 a1_0 a1_1 t240 t241 _ A19.out).mono ?_); rintro e w27 ⟨rfl, hb⟩; refine ⟨_, rfl, ?_⟩; have n0_ := Aside0.mk (blk_below (g := gb237) (o := .cells #[.int .u8 a1_0, .int .u8 a1_1, .int .u32 a1_2, .slice A1_3 l1_3.length c1_3, .string a1_4] 26 (0, 0)) (by (with_reducible repeat (first | refine blk_drewN ?_ _ | refine blk_drew ?_ | refine blk_alloc ?_ _)); exact BK237.out) hb); have n1_ := Aside0.mk (below_step (by repeat (first | (with_reducible first | exact HB.out | apply below_alloc | apply pw_below_drewN | apply below_drew1 | refine below_set ?_ GE237.out) | exact HB.out)) hb); clear BK237; clear HB; have BK237 := n0_; have HB := n1_; clear n0_ n1_; (try clear hb); (try clear hb2); (try clear hk); (try clear hi); have hcz28_0 : w27.cell? ⟨gb237, 0, none⟩ = some (.int .u8 a1_0) := (blk_cell BK237.out 0).trans rfl; have hcz28_1 : w27.cell? ⟨gb237, 1, none⟩ = some (.int .u8 a1_1) := (blk_cell BK237.out 1).trans rfl; have hcz28_2 : w27.cell? ⟨gb237, 2, none⟩ = some (.int .u32 a1_2) := (blk_cell BK237.out 2).trans rfl; have hcz28_3 : w27.cell? ⟨gb237, 3, none⟩ = some (.slice A1_3 l1_3.length c1_3) := (blk_cell BK237.out 3).trans rfl; have hcz28_4 : w27.cell? ⟨gb237, 4, none⟩ = some (.string a1_4) := (blk_cell BK237.out 4).trans rfl; have hfz28_0 := blk_frozen BK237.out 0; have hfz28_1 := blk_frozen BK237.out 1; have hfz28_2 := blk_frozen BK237.out 2; have hfz28_3 := blk_frozen BK237.out 3; have hfz28_4 := blk_frozen BK237.out 4) | ((with_reducible refine gate_callee (f := 14) rfl ?_); refine goesL_ (some 45) rfl rfl Try.func14 (by kernel_rfl) rfl #[.string a0, .int .u8 a1_0, .int .u8 a1_1] rfl (by (try simp only [List.map_toArray, List.map_cons, List.map_nil]); first | done | rfl | (simp only [List.length_drop, List.length_take]; rfl)) ?_; (with_reducible refine (chantryref06_Key.calls kj5 a0 a1_0 a1_1 t242 t243 _ A20.out).mono ?_); rintro e w29 ⟨rfl, hb⟩; refine ⟨_, rfl, ?_⟩; have n0_ := Aside0.mk (blk_below (g := gb237) (o := .cells #[.int .u8 a1_0, .int .u8 a1_1, .int .u32 a1_2, .slice A1_3 l1_3.length c1_3, .string a1_4] 26 (0, 0)) (by (with_reducible repeat (first | refine blk_drewN ?_ _ | refine blk_drew ?_ | refine blk_alloc ?_ _)); exact BK237.out) hb); have n1_ := Aside0.mk (below_step (by repeat (first | (with_reducible first | exact HB.out | apply below_alloc | apply pw_below_drewN | apply below_drew1 | refine below_set ?_ GE237.out) | exact HB.out)) hb); clear BK237; clear HB; have BK237 := n0_; have HB := n1_; clear n0_ n1_; (try clear hb); (try clear hb2); (try clear hk); (try clear hi); have hcz30_0 : w29.cell? ⟨gb237, 0, none⟩ = some (.int .u8 a1_0) := (blk_cell BK237.out 0).trans rfl; have hcz30_1 : w29.cell? ⟨gb237, 1, none⟩ = some (.int .u8 a1_1) := (blk_cell BK237.out 1).trans rfl; have hcz30_2 : w29.cell? ⟨gb237, 2, none⟩ = some (.int .u32 a1_2) := (blk_cell BK237.out 2).trans rfl; have hcz30_3 : w29.cell? ⟨gb237, 3, none⟩ = some (.slice A1_3 l1_3.length c1_3) := (blk_cell BK237.out 3).trans rfl; have hcz30_4 : w29.cell? ⟨gb237, 4, none⟩ = some (.string a1_4) := (blk_cell BK237.out 4).trans rfl; have hfz30_0 := blk_frozen BK237.out 0; have hfz30_1 := blk_frozen BK237.out 1; have hfz30_2 := blk_frozen BK237.out 2; have hfz30_3 := blk_frozen BK237.out 3; have hfz30_4 := blk_frozen BK237.out 4) | ((with_reducible refine gate_callee (f := 15) rfl ?_); refine goesL_ (some 51) rfl rfl Try.func15 (by kernel_rfl) rfl #[.string a2, .agg #[.int .u8 a1_0, .int .u8 a1_1, .int .u32 a1_2, .slice A1_3 l1_3.length c1_3, .string a1_4]] rfl (by (try simp only [List.map_toArray, List.map_cons, List.map_nil]); first | done | rfl | (simp only [List.length_drop, List.length_take]; rfl)) ?_; (with_reducible refine (link_Tag.calls a2 a1_0 a1_1 a1_2 _ _ l1_3 a1_4 t244 t245 _ ?side1 ?side2 A21.out).mono ?_); (case side1 => repeat (first | exact (Kd.C_below HR1_3.out HB.out) | (with_reducible refine Kd.C_alloc ?_ _) | (with_reducible refine Kd.C_drewN ?_ _) | (with_reducible refine Kd.C_drew ?_))); (case side2 => exact HC1_3.out); rintro e w31 ⟨rfl, hb⟩; refine ⟨_, rfl, ?_⟩; have n0_ := Aside0.mk (blk_below (g := gb237) (o := .cells #[.int .u8 a1_0, .int .u8 a1_1, .int .u32 a1_2, .slice A1_3 l1_3.length c1_3, .string a1_4] 26 (0, 0)) (by (with_reducible repeat (first | refine blk_drewN ?_ _ | refine blk_drew ?_ | refine blk_alloc ?_ _)); exact BK237.out) hb); have n1_ := Aside0.mk (below_step (by repeat (first | (with_reducible first | exact HB.out | apply below_alloc | apply pw_below_drewN | apply below_drew1 | refine below_set ?_ GE237.out) | exact HB.out)) hb); clear BK237; clear HB; have BK237 := n0_; have HB := n1_; clear n0_ n1_; (try clear hb); (try clear hb2); (try clear hk); (try clear hi); have hcz32_0 : w31.cell? ⟨gb237, 0, none⟩ = some (.int .u8 a1_0) := (blk_cell BK237.out 0).trans rfl; have hcz32_1 : w31.cell? ⟨gb237, 1, none⟩ = some (.int .u8 a1_1) := (blk_cell BK237.out 1).trans rfl; have hcz32_2 : w31.cell? ⟨gb237, 2, none⟩ = some (.int .u32 a1_2) := (blk_cell BK237.out 2).trans rfl; have hcz32_3 : w31.cell? ⟨gb237, 3, none⟩ = some (.slice A1_3 l1_3.length c1_3) := (blk_cell BK237.out 3).trans rfl; have hcz32_4 : w31.cell? ⟨gb237, 4, none⟩ = some (.string a1_4) := (blk_cell BK237.out 4).trans rfl; have hfz32_0 := blk_frozen BK237.out 0; have hfz32_1 := blk_frozen BK237.out 1; have hfz32_2 := blk_frozen BK237.out 2; have hfz32_3 := blk_frozen BK237.out 3; have hfz32_4 := blk_frozen BK237.out 4) | ((with_reducible refine gate_callee (f := 16) rfl ?_); refine goesL_ (some 57) rfl rfl Try.func16 (by kernel_rfl) rfl #[.string a2, .agg #[.int .u8 a1_0, .int .u8 a1_1, .int .u32 a1_2, .slice A1_3 l1_3.length c1_3, .string a1_4]] rfl (by (try simp only [List.map_toArray, List.map_cons, List.map_nil]); first | done | rfl | (simp only [List.length_drop, List.length_take]; rfl)) ?_; (with_reducible refine (chantryref06_Tag.calls kj5 a2 a1_0 a1_1 a1_2 _ _ l1_3 a1_4 t246 t247 _ ?side1 ?side2 A22.out).mono ?_); (case side1 => repeat (first | exact (Kd.C_below HR1_3.out HB.out) | (with_reducible refine Kd.C_alloc ?_ _) | (with_reducible refine Kd.C_drewN ?_ _) | (with_reducible refine Kd.C_drew ?_))); (case side2 => exact HC1_3.out); rintro e w33 ⟨rfl, hb⟩; refine ⟨_, rfl, ?_⟩; have n0_ := Aside0.mk (blk_below (g := gb237) (o := .cells #[.int .u8 a1_0, .int .u8 a1_1, .int .u32 a1_2, .slice A1_3 l1_3.length c1_3, .string a1_4] 26 (0, 0)) (by (with_reducible repeat (first | refine blk_drewN ?_ _ | refine blk_drew ?_ | refine blk_alloc ?_ _)); exact BK237.out) hb); have n1_ := Aside0.mk (below_step (by repeat (first | (with_reducible first | exact HB.out | apply below_alloc | apply pw_below_drewN | apply below_drew1 | refine below_set ?_ GE237.out) | exact HB.out)) hb); clear BK237; clear HB; have BK237 := n0_; have HB := n1_; clear n0_ n1_; (try clear hb); (try clear hb2); (try clear hk); (try clear hi)))
                go_ret
                exact ⟨by first | rfl | (simp [errW_none, errW_some] <;> rfl) | (simp [*, errW_none, errW_some] <;> rfl), by repeat (first | (with_reducible first | exact HB.out | apply below_alloc | apply pw_below_drewN | apply below_drew1 | refine below_set ?_ GE237.out) | exact HB.out)⟩
              · rw [if_neg c25] at H
                have c25b0 : (t244.toList == t246.toList) = false := beq_eq_false_iff_ne.mpr c25
                have c25b1 : (t244.toList != t246.toList) = true := bne_iff_ne.mpr c25
                obtain rfl := Option.some.inj H
                try clear HTRUE
                have hcz34_0 : wc.cell? ⟨gb237, 0, none⟩ = some (.int .u8 a1_0) := (blk_cell BK237.out 0).trans rfl
                have hcz34_1 : wc.cell? ⟨gb237, 1, none⟩ = some (.int .u8 a1_1) := (blk_cell BK237.out 1).trans rfl
                have hcz34_2 : wc.cell? ⟨gb237, 2, none⟩ = some (.int .u32 a1_2) := (blk_cell BK237.out 2).trans rfl
                have hcz34_3 : wc.cell? ⟨gb237, 3, none⟩ = some (.slice A1_3 l1_3.length c1_3) := (blk_cell BK237.out 3).trans rfl
                have hcz34_4 : wc.cell? ⟨gb237, 4, none⟩ = some (.string a1_4) := (blk_cell BK237.out 4).trans rfl
                have hfz34_0 := blk_frozen BK237.out 0
                have hfz34_1 := blk_frozen BK237.out 1
                have hfz34_2 := blk_frozen BK237.out 2
                have hfz34_3 := blk_frozen BK237.out 3
                have hfz34_4 := blk_frozen BK237.out 4
                go_wp2_with (first | ((with_reducible refine gate_callee (f := 13) rfl ?_); refine goesL_ (some 36) rfl rfl Try.func13 (by kernel_rfl) rfl #[.string a0, .int .u8 a1_0, .int .u8 a1_1] rfl (by (try simp only [List.map_toArray, List.map_cons, List.map_nil]); first | done | rfl | (simp only [List.length_drop, List.length_take]; rfl)) ?_; (with_reducible refine (link_Key.calls a0 a1_0 a1_1 t240 t241 _ A19.out).mono ?_); rintro e w35 ⟨rfl, hb⟩; refine ⟨_, rfl, ?_⟩; have n0_ := Aside0.mk (blk_below (g := gb237) (o := .cells #[.int .u8 a1_0, .int .u8 a1_1, .int .u32 a1_2, .slice A1_3 l1_3.length c1_3, .string a1_4] 26 (0, 0)) (by (with_reducible repeat (first | refine blk_drewN ?_ _ | refine blk_drew ?_ | refine blk_alloc ?_ _)); exact BK237.out) hb); have n1_ := Aside0.mk (below_step (by repeat (first | (with_reducible first | exact HB.out | apply below_alloc | apply pw_below_drewN | apply below_drew1 | refine below_set ?_ GE237.out) | exact HB.out)) hb); clear BK237; clear HB; have BK237 := n0_; have HB := n1_; clear n0_ n1_; (try clear hb); (try clear hb2); (try clear hk); (try clear hi); have hcz36_0 : w35.cell? ⟨gb237, 0, none⟩ = some (.int .u8 a1_0) := (blk_cell BK237.out 0).trans rfl; have hcz36_1 : w35.cell? ⟨gb237, 1, none⟩ = some (.int .u8 a1_1) := (blk_cell BK237.out 1).trans rfl; have hcz36_2 : w35.cell? ⟨gb237, 2, none⟩ = some (.int .u32 a1_2) := (blk_cell BK237.out 2).trans rfl; have hcz36_3 : w35.cell? ⟨gb237, 3, none⟩ = some (.slice A1_3 l1_3.length c1_3) := (blk_cell BK237.out 3).trans rfl; have hcz36_4 : w35.cell? ⟨gb237, 4, none⟩ = some (.string a1_4) := (blk_cell BK237.out 4).trans rfl; have hfz36_0 := blk_frozen BK237.out 0; have hfz36_1 := blk_frozen BK237.out 1; have hfz36_2 := blk_frozen BK237.out 2; have hfz36_3 := blk_frozen BK237.out 3; have hfz36_4 := blk_frozen BK237.out 4) | ((with_reducible refine gate_callee (f := 14) rfl ?_); refine goesL_ (some 45) rfl rfl Try.func14 (by kernel_rfl) rfl #[.string a0, .int .u8 a1_0, .int .u8 a1_1] rfl (by (try simp only [List.map_toArray, List.map_cons, List.map_nil]); first | done | rfl | (simp only [List.length_drop, List.length_take]; rfl)) ?_; (with_reducible refine (chantryref06_Key.calls kj5 a0 a1_0 a1_1 t242 t243 _ A20.out).mono ?_); rintro e w37 ⟨rfl, hb⟩; refine ⟨_, rfl, ?_⟩; have n0_ := Aside0.mk (blk_below (g := gb237) (o := .cells #[.int .u8 a1_0, .int .u8 a1_1, .int .u32 a1_2, .slice A1_3 l1_3.length c1_3, .string a1_4] 26 (0, 0)) (by (with_reducible repeat (first | refine blk_drewN ?_ _ | refine blk_drew ?_ | refine blk_alloc ?_ _)); exact BK237.out) hb); have n1_ := Aside0.mk (below_step (by repeat (first | (with_reducible first | exact HB.out | apply below_alloc | apply pw_below_drewN | apply below_drew1 | refine below_set ?_ GE237.out) | exact HB.out)) hb); clear BK237; clear HB; have BK237 := n0_; have HB := n1_; clear n0_ n1_; (try clear hb); (try clear hb2); (try clear hk); (try clear hi); have hcz38_0 : w37.cell? ⟨gb237, 0, none⟩ = some (.int .u8 a1_0) := (blk_cell BK237.out 0).trans rfl; have hcz38_1 : w37.cell? ⟨gb237, 1, none⟩ = some (.int .u8 a1_1) := (blk_cell BK237.out 1).trans rfl; have hcz38_2 : w37.cell? ⟨gb237, 2, none⟩ = some (.int .u32 a1_2) := (blk_cell BK237.out 2).trans rfl; have hcz38_3 : w37.cell? ⟨gb237, 3, none⟩ = some (.slice A1_3 l1_3.length c1_3) := (blk_cell BK237.out 3).trans rfl; have hcz38_4 : w37.cell? ⟨gb237, 4, none⟩ = some (.string a1_4) := (blk_cell BK237.out 4).trans rfl; have hfz38_0 := blk_frozen BK237.out 0; have hfz38_1 := blk_frozen BK237.out 1; have hfz38_2 := blk_frozen BK237.out 2; have hfz38_3 := blk_frozen BK237.out 3; have hfz38_4 := blk_frozen BK237.out 4) | ((with_reducible refine gate_callee (f := 15) rfl ?_); refine goesL_ (some 51) rfl rfl Try.func15 (by kernel_rfl) rfl #[.string a2, .agg #[.int .u8 a1_0, .int .u8 a1_1, .int .u32 a1_2, .slice A1_3 l1_3.length c1_3, .string a1_4]] rfl (by (try simp only [List.map_toArray, List.map_cons, List.map_nil]); first | done | rfl | (simp only [List.length_drop, List.length_take]; rfl)) ?_; (with_reducible refine (link_Tag.calls a2 a1_0 a1_1 a1_2 _ _ l1_3 a1_4 t244 t245 _ ?side1 ?side2 A21.out).mono ?_); (case side1 => repeat (first | exact (Kd.C_below HR1_3.out HB.out) | (with_reducible refine Kd.C_alloc ?_ _) | (with_reducible refine Kd.C_drewN ?_ _) | (with_reducible refine Kd.C_drew ?_))); (case side2 => exact HC1_3.out); rintro e w39 ⟨rfl, hb⟩; refine ⟨_, rfl, ?_⟩; have n0_ := Aside0.mk (blk_below (g := gb237) (o := .cells #[.int .u8 a1_0, .int .u8 a1_1, .int .u32 a1_2, .slice A1_3 l1_3.length c1_3, .string a1_4] 26 (0, 0)) (by (with_reducible repeat (first | refine blk_drewN ?_ _ | refine blk_drew ?_ | refine blk_alloc ?_ _)); exact BK237.out) hb); have n1_ := Aside0.mk (below_step (by repeat (first | (with_reducible first | exact HB.out | apply below_alloc | apply pw_below_drewN | apply below_drew1 | refine below_set ?_ GE237.out) | exact HB.out)) hb); clear BK237; clear HB; have BK237 := n0_; have HB := n1_; clear n0_ n1_; (try clear hb); (try clear hb2); (try clear hk); (try clear hi); have hcz40_0 : w39.cell? ⟨gb237, 0, none⟩ = some (.int .u8 a1_0) := (blk_cell BK237.out 0).trans rfl; have hcz40_1 : w39.cell? ⟨gb237, 1, none⟩ = some (.int .u8 a1_1) := (blk_cell BK237.out 1).trans rfl; have hcz40_2 : w39.cell? ⟨gb237, 2, none⟩ = some (.int .u32 a1_2) := (blk_cell BK237.out 2).trans rfl; have hcz40_3 : w39.cell? ⟨gb237, 3, none⟩ = some (.slice A1_3 l1_3.length c1_3) := (blk_cell BK237.out 3).trans rfl; have hcz40_4 : w39.cell? ⟨gb237, 4, none⟩ = some (.string a1_4) := (blk_cell BK237.out 4).trans rfl; have hfz40_0 := blk_frozen BK237.out 0; have hfz40_1 := blk_frozen BK237.out 1; have hfz40_2 := blk_frozen BK237.out 2; have hfz40_3 := blk_frozen BK237.out 3; have hfz40_4 := blk_frozen BK237.out 4) | ((with_reducible refine gate_callee (f := 16) rfl ?_); refine goesL_ (some 57) rfl rfl Try.func16 (by kernel_rfl) rfl #[.string a2, .agg #[.int .u8 a1_0, .int .u8 a1_1, .int .u32 a1_2, .slice A1_3 l1_3.length c1_3, .string a1_4]] rfl (by (try simp only [List.map_toArray, List.map_cons, List.map_nil]); first | done | rfl | (simp only [List.length_drop, List.length_take]; rfl)) ?_; (with_reducible refine (chantryref06_Tag.calls kj5 a2 a1_0 a1_1 a1_2 _ _ l1_3 a1_4 t246 t247 _ ?side1 ?side2 A22.out).mono ?_); (case side1 => repeat (first | exact (Kd.C_below HR1_3.out HB.out) | (with_reducible refine Kd.C_alloc ?_ _) | (with_reducible refine Kd.C_drewN ?_ _) | (with_reducible refine Kd.C_drew ?_))); (case side2 => exact HC1_3.out); rintro e w41 ⟨rfl, hb⟩; refine ⟨_, rfl, ?_⟩; have n0_ := Aside0.mk (blk_below (g := gb237) (o := .cells #[.int .u8 a1_0, .int .u8 a1_1, .int .u32 a1_2, .slice A1_3 l1_3.length c1_3, .string a1_4] 26 (0, 0)) (by (with_reducible repeat (first | refine blk_drewN ?_ _ | refine blk_drew ?_ | refine blk_alloc ?_ _)); exact BK237.out) hb); have n1_ := Aside0.mk (below_step (by repeat (first | (with_reducible first | exact HB.out | apply below_alloc | apply pw_below_drewN | apply below_drew1 | refine below_set ?_ GE237.out) | exact HB.out)) hb); clear BK237; clear HB; have BK237 := n0_; have HB := n1_; clear n0_ n1_; (try clear hb); (try clear hb2); (try clear hk); (try clear hi)))
                go_ret
                exact ⟨by first | rfl | (simp [errW_none, errW_some] <;> rfl) | (simp [*, errW_none, errW_some] <;> rfl), by repeat (first | (with_reducible first | exact HB.out | apply below_alloc | apply pw_below_drewN | apply below_drew1 | refine below_set ?_ GE237.out) | exact HB.out)⟩
            · rw [if_neg c24] at H
              exact absurd ((Option.some.inj H).trans HTRUE) (by decide)
          · rw [if_neg c23] at H
            exact absurd ((Option.some.inj H).trans HTRUE) (by decide)
  · exact absurd ((Option.some.inj (show (some false : Option Bool) = some r by rw [if_neg c5] at H; exact H)).trans HTRUE) (by decide)
end Go.Proofs.Ytimfhdpgkoonaaa.Pr

