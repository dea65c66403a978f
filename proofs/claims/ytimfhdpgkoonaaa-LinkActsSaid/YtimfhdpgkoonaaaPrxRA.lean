-- Written by a program of this repo (wip/printx.py) out of the translation; Lean checks it.
import Derived.Test.YtimfhdpgkoonaaaPrx0
import Derived.Test.YtimfhdpgkoonaaaPrx5
import Derived.Test.YtimfhdpgkoonaaaPrx7
import Derived.Test.YtimfhdpgkoonaaaPrxShift
namespace Go.Proofs.Ytimfhdpgkoonaaa.Pr
open Go.RowKit Go.Proofs.YtimfhdpgkoonaaaW.PrintWords Go.Proofs.YtimfhdpgkoonaaaW.PrintLast Go.Proofs.YtimfhdpgkoonaaaW.PrintMore
attribute [local go_sem] max2_int min2_int max_two min_two max_three min_three max_four min_four   -- for this text's walks alone
set_option linter.unusedVariables false
set_option linter.unusedSimpArgs false

/-! ### chantryref06_Accept: function 20 -/
def chantryref06_Accept.j0 : Nat → Bool → ByteArray → Int → Int → Int → Int → Int → Int → List Int → ByteArray → Option (ByteArray × Int × Int × Int × Int)
  | 0, _, _, _, _, _, _, _, _, _, _ => none
  | k + 1, x27, x256000, x256001, x256002, x256003, x257000, x257001, x257002, x257003, x257004 => if x27 = true then (some (x256000, x256001, x256002, x256003, 2)) else ((chantryref06_Tag.f k x256000 x257000 x257001 x257002 x257003 x257004).bind fun bt259 => (if bt259.2 = 0 then (if bt259.1.toList = x257004.toList then (if x257002 > x256002 then ((chantryref06_shifted.f k x256003 ((x257002 - x256002) % 4294967296)).bind fun t261 => (some (x256000, x256001, x257002, IntKind.u64.wrap (t261 + 1), 0))) else ((chantryref06_shifted.f k 1 ((x256002 - x257002) % 4294967296)).bind fun t262 => (if t262 = 0 then (some (x256000, x256001, x256002, x256003, 6)) else (if (Int.tmod (IntKind.u64.wrap (Int.tdiv x256003 t262)) 2) = 1 then (some (x256000, x256001, x256002, x256003, 6)) else (some (x256000, x256001, x256002, IntKind.u64.wrap (x256003 + t262), 0)))))) else (some (x256000, x256001, x256002, x256003, 5))) else (some (x256000, x256001, x256002, x256003, bt259.2))))
def chantryref06_Accept.f (k : Nat) (a0_0 : ByteArray) (a0_1 : Int) (a0_2 : Int) (a0_3 : Int) (a1 : Int) (a2_0 : Int) (a2_1 : Int) (a2_2 : Int) (l2_3 : List Int) (a2_4 : ByteArray) : Option (ByteArray × Int × Int × Int × Int) := if a2_1 = a1 then ((chantryref06_two.f a2_0 a2_1).bind fun t258 => (if t258 = true then (chantryref06_Accept.j0 k (a2_2 == 0) a0_0 a0_1 a0_2 a0_3 a2_0 a2_1 a2_2 l2_3 a2_4) else (chantryref06_Accept.j0 k true a0_0 a0_1 a0_2 a0_3 a2_0 a2_1 a2_2 l2_3 a2_4))) else (chantryref06_Accept.j0 k true a0_0 a0_1 a0_2 a0_3 a2_0 a2_1 a2_2 l2_3 a2_4)
theorem chantryref06_Accept.mono_l : ∀ k, (∀ y0 y1 y2 y3 y4 y5 y6 y7 y8 y9, LeO (chantryref06_Accept.j0 k y0 y1 y2 y3 y4 y5 y6 y7 y8 y9) (chantryref06_Accept.j0 (k + 1) y0 y1 y2 y3 y4 y5 y6 y7 y8 y9))
  | 0 => fun _ _ _ _ _ _ _ _ _ _ r h => by simp [chantryref06_Accept.j0] at h
  | k + 1 => by
    have ih0 := chantryref06_Accept.mono_l k
    · intro y0 y1 y2 y3 y4 y5 y6 y7 y8 y9
      unfold chantryref06_Accept.j0
      repeat' first
      | (with_reducible exact ih0 _ _ _ _ _ _ _ _ _ _)
      | (with_reducible exact chantryref06_Tag.mono _ _ _ _ _ _ _)
      | (with_reducible exact chantryref06_shifted.mono _ _ _)
      | (with_reducible exact LeO.refl _)
      | (with_reducible exact LeO.none _)
      | (with_reducible refine LeO.ite ?_ ?_)
      | (with_reducible refine LeO.bind ?_ (fun _ => ?_))
      | exact ih0 _ _ _ _ _ _ _ _ _ _
      | exact chantryref06_Tag.mono _ _ _ _ _ _ _
      | exact chantryref06_shifted.mono _ _ _
      | exact LeO.none _
      | refine LeO.ite ?_ ?_
      | refine LeO.bind ?_ (fun _ => ?_)
theorem chantryref06_Accept.mono : ∀ a0 a1 a2 a3 a4 a5 a6 a7 a8 a9 k, LeO (chantryref06_Accept.f k a0 a1 a2 a3 a4 a5 a6 a7 a8 a9) (chantryref06_Accept.f (k + 1) a0 a1 a2 a3 a4 a5 a6 a7 a8 a9) := by
  intro a0 a1 a2 a3 a4 a5 a6 a7 a8 a9 k
  have ih0 := chantryref06_Accept.mono_l k
  unfold chantryref06_Accept.f
  repeat' first
      | (with_reducible exact ih0 _ _ _ _ _ _ _ _ _ _)
      | (with_reducible exact chantryref06_Tag.mono _ _ _ _ _ _ _)
      | (with_reducible exact chantryref06_shifted.mono _ _ _)
      | (with_reducible exact LeO.refl _)
      | (with_reducible exact LeO.none _)
      | (with_reducible refine LeO.ite ?_ ?_)
      | (with_reducible refine LeO.bind ?_ (fun _ => ?_))
      | exact ih0 _ _ _ _ _ _ _ _ _ _
      | exact chantryref06_Tag.mono _ _ _ _ _ _ _
      | exact chantryref06_shifted.mono _ _ _
      | exact LeO.none _
      | refine LeO.ite ?_ ?_
      | refine LeO.bind ?_ (fun _ => ?_)
set_option maxHeartbeats 8000000 in
set_option maxRecDepth 100000 in
theorem chantryref06_Accept.calls (k : Nat) (a0_0 : ByteArray) (a0_1 : Int) (a0_2 : Int) (a0_3 : Int) (a1 : Int) (a2_0 : Int) (a2_1 : Int) (a2_2 : Int) (A2_3 : Option Addr) (c2_3 : Nat) (l2_3 : List Int) (a2_4 : ByteArray) (r1 : ByteArray) (r2 : Int) (r3 : Int) (r4 : Int) (r5 : Int) (w : World) (hr2_3 : Kd.C (Kd.int .u8) w A2_3 l2_3.length l2_3) (hc2_3 : l2_3.length ≤ c2_3) (h : chantryref06_Accept.f k a0_0 a0_1 a0_2 a0_3 a1 a2_0 a2_1 a2_2 l2_3 a2_4 = some (r1, r2, r3, r4, r5)) :
    Calls Try.prog 20 #[.agg #[.string a0_0, .int .u32 a0_1, .int .u32 a0_2, .int .u64 a0_3], .int .u8 a1, .agg #[.int .u8 a2_0, .int .u8 a2_1, .int .u32 a2_2, .slice A2_3 l2_3.length c2_3, .string a2_4]] w fun e w' => e = .returned (.tuple #[.agg #[.string r1, .int .u32 r2, .int .u32 r3, .int .u64 r4], .int .i64 r5]) ∧ Below w.heap.size w w' := by
  have hu40 := Try.underlying40
  have hu26 := Try.underlying26
  have HR2_3 := Aside0.mk hr2_3
  have HC2_3 := Aside0.mk hc2_3
  clear hr2_3 hc2_3
  have HB := Aside0.mk (Below.refl w.heap.size w)
  have H : (if a2_1 = a1 then ((chantryref06_two.f a2_0 a2_1).bind fun t258 => (if t258 = true then (chantryref06_Accept.j0 k (a2_2 == 0) a0_0 a0_1 a0_2 a0_3 a2_0 a2_1 a2_2 l2_3 a2_4) else (chantryref06_Accept.j0 k true a0_0 a0_1 a0_2 a0_3 a2_0 a2_1 a2_2 l2_3 a2_4))) else (chantryref06_Accept.j0 k true a0_0 a0_1 a0_2 a0_3 a2_0 a2_1 a2_2 l2_3 a2_4)) = some (r1, r2, r3, r4, r5) := h
  clear h
  have HC4 := Aside0.mk H
  clear H
  go_enter Try.func20, Try.ntmps20
  go_upto_region 1 with (first | ((with_reducible refine gate_dst (N := 3) rfl ?_); refine box_event ?hg (N := 3) ?hd (cs := #[.string a0_0, .int .u32 a0_1, .int .u32 a0_2, .int .u64 a0_3]) (t := 40) ?hr ?_; (case hd => rfl); (case hg => rfl); (case hr => first | (go_simp; done) | (go_simp; rfl)); intro gb255 hg w5 hbox hb; have n0_ := Aside0.mk (below_step (by repeat (first | (with_reducible first | exact HB.out | apply below_alloc | apply pw_below_drewN | apply below_drew1) | exact HB.out)) hb); have n1_ := Aside0.mk (hbox); have n2_ := Aside0.mk ((by rw [hg]; exact (below_size (by repeat (first | (with_reducible first | exact HB.out | apply below_alloc | apply pw_below_drewN | apply below_drew1) | exact HB.out))) : w.heap.size ≤ gb255)); have n3_ := Aside0.mk ((by rw [hg]; exact (below_size (by repeat (first | (with_reducible first | exact HB.out | apply below_alloc | apply pw_below_drewN | apply below_drew1) | exact HB.out))) : w.heap.size ≤ gb255)); clear HB; have HB := n0_; have BK255 := n1_; have GW255 := n2_; have GE255 := n3_; clear n0_ n1_ n2_ n3_; clear hb hbox hg) | ((with_reducible refine gate_dst (N := 5) rfl ?_); refine box_event ?hg (N := 5) ?hd (cs := #[.int .u8 a2_0, .int .u8 a2_1, .int .u32 a2_2, .slice A2_3 l2_3.length c2_3, .string a2_4]) (t := 26) ?hr ?_; (case hd => rfl); (case hg => rfl); (case hr => first | (go_simp; done) | (go_simp; rfl)); intro gb256 hg w6 hbox hb; have n0_ := Aside0.mk (blk_below (g := gb255) (o := .cells #[.string a0_0, .int .u32 a0_1, .int .u32 a0_2, .int .u64 a0_3] 40 (0, 0)) (by (with_reducible repeat (first | refine blk_drewN ?_ _ | refine blk_drew ?_ | refine blk_alloc ?_ _)); exact BK255.out) hb); have n1_ := Aside0.mk (below_step (by repeat (first | (with_reducible first | exact HB.out | apply below_alloc | apply pw_below_drewN | apply below_drew1 | refine below_set ?_ GE255.out) | exact HB.out)) hb); have n2_ := Aside0.mk (hbox); have n3_ := Aside0.mk ((by rw [hg]; exact (below_size (by repeat (first | (with_reducible first | exact HB.out | apply below_alloc | apply pw_below_drewN | apply below_drew1 | refine below_set ?_ GE255.out) | exact HB.out))) : w.heap.size ≤ gb256)); have n4_ := Aside0.mk ((by rw [hg]; exact (below_size (by repeat (first | (with_reducible first | exact HB.out | apply below_alloc | apply pw_below_drewN | apply below_drew1 | refine below_set ?_ GE255.out) | exact HB.out))) : w.heap.size ≤ gb256)); have n5_ := Aside0.mk ((by rw [hg]; exact Nat.ne_of_lt (blk_lt (g := gb255) (o := .cells #[.string a0_0, .int .u32 a0_1, .int .u32 a0_2, .int .u64 a0_3] 40 (0, 0)) (by (with_reducible repeat (first | refine blk_drewN ?_ _ | refine blk_drew ?_ | refine blk_alloc ?_ _)); exact BK255.out)) : gb255 ≠ gb256)); have n6_ := Aside0.mk ((by rw [hg]; exact Nat.ne_of_gt (blk_lt (g := gb255) (o := .cells #[.string a0_0, .int .u32 a0_1, .int .u32 a0_2, .int .u64 a0_3] 40 (0, 0)) (by (with_reducible repeat (first | refine blk_drewN ?_ _ | refine blk_drew ?_ | refine blk_alloc ?_ _)); exact BK255.out)) : gb256 ≠ gb255)); clear BK255; clear HB; have BK255 := n0_; have HB := n1_; have BK256 := n2_; have GW256 := n3_; have GE256 := n4_; have NB255_256 := n5_; have NB256_255 := n6_; clear n0_ n1_ n2_ n3_ n4_ n5_ n6_; clear hb hbox hg) | ((with_reducible refine gate_dst (N := 6) rfl ?_); refine box_event ?hg (N := 6) ?hd (cs := #[.string (⟨#[]⟩ : ByteArray), .int .u32 0, .int .u32 0, .int .u64 0]) (t := 40) ?hr ?_; (case hd => rfl); (case hg => rfl); (case hr => first | (go_simp; done) | (go_simp; rfl)); intro gb257 hg w7 hbox hb; have n0_ := Aside0.mk (blk_below (g := gb255) (o := .cells #[.string a0_0, .int .u32 a0_1, .int .u32 a0_2, .int .u64 a0_3] 40 (0, 0)) (by (with_reducible repeat (first | refine blk_drewN ?_ _ | refine blk_drew ?_ | refine blk_alloc ?_ _)); exact BK255.out) hb); have n1_ := Aside0.mk (blk_below (g := gb256) (o := .cells #[.int .u8 a2_0, .int .u8 a2_1, .int .u32 a2_2, .slice A2_3 l2_3.length c2_3, .string a2_4] 26 (0, 0)) (by (with_reducible repeat (first | refine blk_drewN ?_ _ | refine blk_drew ?_ | refine blk_alloc ?_ _)); exact BK256.out) hb); have n2_ := Aside0.mk (below_step (by repeat (first | (with_reducible first | exact HB.out | apply below_alloc | apply pw_below_drewN | apply below_drew1 | refine below_set ?_ GE255.out | refine below_set ?_ GE256.out) | exact HB.out)) hb); have n3_ := Aside0.mk (hbox); have n4_ := Aside0.mk ((by rw [hg]; exact (below_size (by repeat (first | (with_reducible first | exact HB.out | apply below_alloc | apply pw_below_drewN | apply below_drew1 | refine below_set ?_ GE255.out | refine below_set ?_ GE256.out) | exact HB.out))) : w.heap.size ≤ gb257)); have n5_ := Aside0.mk ((by rw [hg]; exact (below_size (by repeat (first | (with_reducible first | exact HB.out | apply below_alloc | apply pw_below_drewN | apply below_drew1 | refine below_set ?_ GE255.out | refine below_set ?_ GE256.out) | exact HB.out))) : w.heap.size ≤ gb257)); have n6_ := Aside0.mk ((by rw [hg]; exact Nat.ne_of_lt (blk_lt (g := gb255) (o := .cells #[.string a0_0, .int .u32 a0_1, .int .u32 a0_2, .int .u64 a0_3] 40 (0, 0)) (by (with_reducible repeat (first | refine blk_drewN ?_ _ | refine blk_drew ?_ | refine blk_alloc ?_ _)); exact BK255.out)) : gb255 ≠ gb257)); have n7_ := Aside0.mk ((by rw [hg]; exact Nat.ne_of_gt (blk_lt (g := gb255) (o := .cells #[.string a0_0, .int .u32 a0_1, .int .u32 a0_2, .int .u64 a0_3] 40 (0, 0)) (by (with_reducible repeat (first | refine blk_drewN ?_ _ | refine blk_drew ?_ | refine blk_alloc ?_ _)); exact BK255.out)) : gb257 ≠ gb255)); have n8_ := Aside0.mk ((by rw [hg]; exact Nat.ne_of_lt (blk_lt (g := gb256) (o := .cells #[.int .u8 a2_0, .int .u8 a2_1, .int .u32 a2_2, .slice A2_3 l2_3.length c2_3, .string a2_4] 26 (0, 0)) (by (with_reducible repeat (first | refine blk_drewN ?_ _ | refine blk_drew ?_ | refine blk_alloc ?_ _)); exact BK256.out)) : gb256 ≠ gb257)); have n9_ := Aside0.mk ((by rw [hg]; exact Nat.ne_of_gt (blk_lt (g := gb256) (o := .cells #[.int .u8 a2_0, .int .u8 a2_1, .int .u32 a2_2, .slice A2_3 l2_3.length c2_3, .string a2_4] 26 (0, 0)) (by (with_reducible repeat (first | refine blk_drewN ?_ _ | refine blk_drew ?_ | refine blk_alloc ?_ _)); exact BK256.out)) : gb257 ≠ gb256)); clear BK255; clear BK256; clear HB; have BK255 := n0_; have BK256 := n1_; have HB := n2_; have BK257 := n3_; have GW257 := n4_; have GE257 := n5_; have NB255_257 := n6_; have NB257_255 := n7_; have NB256_257 := n8_; have NB257_256 := n9_; clear n0_ n1_ n2_ n3_ n4_ n5_ n6_ n7_ n8_ n9_; clear hb hbox hg))
  (try simp only [Act.put, List.setIfInBounds_toArray, List.set_cons_zero, List.set_cons_succ])
  go_cut [27] (fun v27 wc => ∃ (kq : Nat) (x27_3 : Bool), v27 = .bool x27_3 ∧ Aside0 (chantryref06_Accept.j0 kq x27_3 a0_0 a0_1 a0_2 a0_3 a2_0 a2_1 a2_2 l2_3 a2_4 = some (r1, r2, r3, r4, r5)) ∧ Aside0 (kq ≤ k) ∧ Aside0 (wc.heap[gb255]? = some (.cells #[.string a0_0, .int .u32 a0_1, .int .u32 a0_2, .int .u64 a0_3] 40 (0, 0))) ∧ Aside0 (wc.heap[gb256]? = some (.cells #[.int .u8 a2_0, .int .u8 a2_1, .int .u32 a2_2, (.slice A2_3 l2_3.length c2_3), .string a2_4] 26 (0, 0))) ∧ Aside0 (wc.heap[gb257]? = some (.cells #[.string (⟨#[]⟩ : ByteArray), .int .u32 0, .int .u32 0, .int .u64 0] 40 (0, 0))) ∧ Aside0 (Below w.heap.size w wc))
  case first =>
    have H := HC4.out
    clear HC4
    by_cases c8 : a2_1 = a1
    · rw [if_pos c8] at H
      have c8b0 : (a2_1 == a1) = true := beq_iff_eq.mpr c8
      have c8b1 : (a2_1 != a1) = false := bne_eq_false_iff_eq.mpr c8
      clear c8
      (first | rw [c8b0] | (simp only [i64_w, i32_w]; rw [c8b0]) | skip)
      replace H := Option.bind_eq_some_iff.mp H
      obtain ⟨t258, A90, H⟩ := H
      replace H : (if t258 = true then (chantryref06_Accept.j0 k (a2_2 == 0) a0_0 a0_1 a0_2 a0_3 a2_0 a2_1 a2_2 l2_3 a2_4) else (chantryref06_Accept.j0 k true a0_0 a0_1 a0_2 a0_3 a2_0 a2_1 a2_2 l2_3 a2_4)) = some (r1, r2, r3, r4, r5) := H
      have A9 := Aside0.mk A90
      clear A90
      by_cases c10 : t258 = true
      · subst c10
        have H1 : (chantryref06_Accept.j0 k (a2_2 == 0) a0_0 a0_1 a0_2 a0_3 a2_0 a2_1 a2_2 l2_3 a2_4) = some (r1, r2, r3, r4, r5) := by rw [if_pos rfl] at H; exact H
        clear H
        have H := H1
        clear H1
        have H' := Aside0.mk H
        clear H
        have hnb11 := NB256_255.out
        have hnc11 := NB255_256.out
        have hnb12 := NB256_257.out
        have hnc12 := NB257_256.out
        have hcz13_0 : w7.cell? ⟨gb256, 0, none⟩ = some (.int .u8 a2_0) := (blk_cell BK256.out 0).trans rfl
        have hcz13_1 : w7.cell? ⟨gb256, 1, none⟩ = some (.int .u8 a2_1) := (blk_cell BK256.out 1).trans rfl
        have hcz13_2 : w7.cell? ⟨gb256, 2, none⟩ = some (.int .u32 a2_2) := (blk_cell BK256.out 2).trans rfl
        have hcz13_3 : w7.cell? ⟨gb256, 3, none⟩ = some (.slice A2_3 l2_3.length c2_3) := (blk_cell BK256.out 3).trans rfl
        have hcz13_4 : w7.cell? ⟨gb256, 4, none⟩ = some (.string a2_4) := (blk_cell BK256.out 4).trans rfl
        have hfz13_0 := blk_frozen BK256.out 0
        have hfz13_1 := blk_frozen BK256.out 1
        have hfz13_2 := blk_frozen BK256.out 2
        have hfz13_3 := blk_frozen BK256.out 3
        have hfz13_4 := blk_frozen BK256.out 4
        go_wp2_with (first | (go_at_call 28; (with_reducible refine (chantryref06_two.calls a2_0 a2_1 true _ A9.out).mono ?_); rintro e w' ⟨rfl, ⟨nd, rfl⟩⟩))
        go_meet
        case rel => exact ⟨_, ((a2_2 == 0)), (by first | rfl | (simp; done) | (simp [*]; done)), H', ⟨by first | omega | exact Nat.le_refl _⟩, ⟨by (with_reducible repeat (first | refine blk_drewN ?_ _ | refine blk_drew ?_ | refine blk_alloc ?_ _)); exact BK255.out⟩, ⟨by (with_reducible repeat (first | refine blk_drewN ?_ _ | refine blk_drew ?_ | refine blk_alloc ?_ _)); exact BK256.out⟩, ⟨by (with_reducible repeat (first | refine blk_drewN ?_ _ | refine blk_drew ?_ | refine blk_alloc ?_ _)); exact BK257.out⟩, ⟨by repeat (first | (with_reducible first | exact HB.out | apply below_alloc | apply pw_below_drewN | apply below_drew1 | refine below_set ?_ GE255.out | refine below_set ?_ GE256.out | refine below_set ?_ GE257.out) | exact HB.out)⟩⟩
      · replace c10 := Bool.eq_false_iff.mpr c10
        subst c10
        have H1 : (chantryref06_Accept.j0 k true a0_0 a0_1 a0_2 a0_3 a2_0 a2_1 a2_2 l2_3 a2_4) = some (r1, r2, r3, r4, r5) := by rw [if_neg (show ¬ (false = true) by decide)] at H; exact H
        clear H
        have H := H1
        clear H1
        have H' := Aside0.mk H
        clear H
        have hnb14 := NB256_255.out
        have hnc14 := NB255_256.out
        have hnb15 := NB256_257.out
        have hnc15 := NB257_256.out
        have hcz16_0 : w7.cell? ⟨gb256, 0, none⟩ = some (.int .u8 a2_0) := (blk_cell BK256.out 0).trans rfl
        have hcz16_1 : w7.cell? ⟨gb256, 1, none⟩ = some (.int .u8 a2_1) := (blk_cell BK256.out 1).trans rfl
        have hcz16_2 : w7.cell? ⟨gb256, 2, none⟩ = some (.int .u32 a2_2) := (blk_cell BK256.out 2).trans rfl
        have hcz16_3 : w7.cell? ⟨gb256, 3, none⟩ = some (.slice A2_3 l2_3.length c2_3) := (blk_cell BK256.out 3).trans rfl
        have hcz16_4 : w7.cell? ⟨gb256, 4, none⟩ = some (.string a2_4) := (blk_cell BK256.out 4).trans rfl
        have hfz16_0 := blk_frozen BK256.out 0
        have hfz16_1 := blk_frozen BK256.out 1
        have hfz16_2 := blk_frozen BK256.out 2
        have hfz16_3 := blk_frozen BK256.out 3
        have hfz16_4 := blk_frozen BK256.out 4
        go_wp2_with (first | (go_at_call 28; (with_reducible refine (chantryref06_two.calls a2_0 a2_1 false _ A9.out).mono ?_); rintro e w' ⟨rfl, ⟨nd, rfl⟩⟩))
        go_meet
        case rel => exact ⟨_, (true), (by first | rfl | (simp; done) | (simp [*]; done)), H', ⟨by first | omega | exact Nat.le_refl _⟩, ⟨by (with_reducible repeat (first | refine blk_drewN ?_ _ | refine blk_drew ?_ | refine blk_alloc ?_ _)); exact BK255.out⟩, ⟨by (with_reducible repeat (first | refine blk_drewN ?_ _ | refine blk_drew ?_ | refine blk_alloc ?_ _)); exact BK256.out⟩, ⟨by (with_reducible repeat (first | refine blk_drewN ?_ _ | refine blk_drew ?_ | refine blk_alloc ?_ _)); exact BK257.out⟩, ⟨by repeat (first | (with_reducible first | exact HB.out | apply below_alloc | apply pw_below_drewN | apply below_drew1 | refine below_set ?_ GE255.out | refine below_set ?_ GE256.out | refine below_set ?_ GE257.out) | exact HB.out)⟩⟩
    · rw [if_neg c8] at H
      have c8b0 : (a2_1 == a1) = false := beq_eq_false_iff_ne.mpr c8
      have c8b1 : (a2_1 != a1) = true := bne_iff_ne.mpr c8
      (first | rw [c8b0] | (simp only [i64_w, i32_w]; rw [c8b0]) | skip)
      have H' := Aside0.mk H
      clear H
      have hnb17 := NB256_255.out
      have hnc17 := NB255_256.out
      have hnb18 := NB256_257.out
      have hnc18 := NB257_256.out
      have hcz19_0 : w7.cell? ⟨gb256, 0, none⟩ = some (.int .u8 a2_0) := (blk_cell BK256.out 0).trans rfl
      have hcz19_1 : w7.cell? ⟨gb256, 1, none⟩ = some (.int .u8 a2_1) := (blk_cell BK256.out 1).trans rfl
      have hcz19_2 : w7.cell? ⟨gb256, 2, none⟩ = some (.int .u32 a2_2) := (blk_cell BK256.out 2).trans rfl
      have hcz19_3 : w7.cell? ⟨gb256, 3, none⟩ = some (.slice A2_3 l2_3.length c2_3) := (blk_cell BK256.out 3).trans rfl
      have hcz19_4 : w7.cell? ⟨gb256, 4, none⟩ = some (.string a2_4) := (blk_cell BK256.out 4).trans rfl
      have hfz19_0 := blk_frozen BK256.out 0
      have hfz19_1 := blk_frozen BK256.out 1
      have hfz19_2 := blk_frozen BK256.out 2
      have hfz19_3 := blk_frozen BK256.out 3
      have hfz19_4 := blk_frozen BK256.out 4
      go_wp2
      go_meet
      case rel => exact ⟨_, (true), (by first | rfl | (simp; done) | (simp [*]; done)), H', ⟨by first | omega | exact Nat.le_refl _⟩, ⟨by (with_reducible repeat (first | refine blk_drewN ?_ _ | refine blk_drew ?_ | refine blk_alloc ?_ _)); exact BK255.out⟩, ⟨by (with_reducible repeat (first | refine blk_drewN ?_ _ | refine blk_drew ?_ | refine blk_alloc ?_ _)); exact BK256.out⟩, ⟨by (with_reducible repeat (first | refine blk_drewN ?_ _ | refine blk_drew ?_ | refine blk_alloc ?_ _)); exact BK257.out⟩, ⟨by repeat (first | (with_reducible first | exact HB.out | apply below_alloc | apply pw_below_drewN | apply below_drew1 | refine below_set ?_ GE255.out | refine below_set ?_ GE256.out | refine below_set ?_ GE257.out) | exact HB.out)⟩⟩
  case rest =>
    clear HC4
    try clear c1
    try clear c2
    try clear p2
    try clear c8
    try clear c8b0
    try clear c8b1
    try clear c10
    try clear c11
    try clear c12
    try clear c14
    try clear c15
    try clear c17
    try clear c18
    try clear hcz13_0
    try clear hcz13_1
    try clear hcz13_2
    try clear hcz13_3
    try clear hcz13_4
    try clear hcz16_0
    try clear hcz16_1
    try clear hcz16_2
    try clear hcz16_3
    try clear hcz16_4
    try clear hcz19_0
    try clear hcz19_1
    try clear hcz19_2
    try clear hcz19_3
    try clear hcz19_4
    try clear hfz13_0
    try clear hfz13_1
    try clear hfz13_2
    try clear hfz13_3
    try clear hfz13_4
    try clear hfz16_0
    try clear hfz16_1
    try clear hfz16_2
    try clear hfz16_3
    try clear hfz16_4
    try clear hfz19_0
    try clear hfz19_1
    try clear hfz19_2
    try clear hfz19_3
    try clear hfz19_4
    obtain ⟨kq, x27_3, rfl, HA, HJ3, BK255, BK256, BK257, HB⟩ := hcut
    cases kq with
    | zero => exact absurd HA.out (by simp [chantryref06_Accept.j0])
    | succ kj3 =>
      have H := HA.out
      clear HA
      simp only [chantryref06_Accept.j0] at H
      by_cases c20 : x27_3 = true
      · subst c20
        have H1 : (some (a0_0, a0_1, a0_2, a0_3, 2)) = some (r1, r2, r3, r4, r5) := by rw [if_pos rfl] at H; exact H
        clear H
        have H := H1
        clear H1
        simp only [Option.some.injEq, Prod.mk.injEq] at H
        obtain ⟨rfl, rfl, rfl, rfl, rfl⟩ := H
        have hnb21 := NB255_256.out
        have hnc21 := NB256_255.out
        have hnb22 := NB255_257.out
        have hnc22 := NB257_255.out
        have hcz23_0 : wc.cell? ⟨gb255, 0, none⟩ = some (.string a0_0) := (blk_cell BK255.out 0).trans rfl
        have hcz23_1 : wc.cell? ⟨gb255, 1, none⟩ = some (.int .u32 a0_1) := (blk_cell BK255.out 1).trans rfl
        have hcz23_2 : wc.cell? ⟨gb255, 2, none⟩ = some (.int .u32 a0_2) := (blk_cell BK255.out 2).trans rfl
        have hcz23_3 : wc.cell? ⟨gb255, 3, none⟩ = some (.int .u64 a0_3) := (blk_cell BK255.out 3).trans rfl
        have hfz23_0 := blk_frozen BK255.out 0
        have hfz23_1 := blk_frozen BK255.out 1
        have hfz23_2 := blk_frozen BK255.out 2
        have hfz23_3 := blk_frozen BK255.out 3
        have hnb24 := NB257_256.out
        have hnc24 := NB256_257.out
        have hcz25_0 : wc.cell? ⟨gb257, 0, none⟩ = some (.string (⟨#[]⟩ : ByteArray)) := (blk_cell BK257.out 0).trans rfl
        have hcz25_1 : wc.cell? ⟨gb257, 1, none⟩ = some (.int .u32 0) := (blk_cell BK257.out 1).trans rfl
        have hcz25_2 : wc.cell? ⟨gb257, 2, none⟩ = some (.int .u32 0) := (blk_cell BK257.out 2).trans rfl
        have hcz25_3 : wc.cell? ⟨gb257, 3, none⟩ = some (.int .u64 0) := (blk_cell BK257.out 3).trans rfl
        have hfz25_0 := blk_frozen BK257.out 0
        have hfz25_1 := blk_frozen BK257.out 1
        have hfz25_2 := blk_frozen BK257.out 2
        have hfz25_3 := blk_frozen BK257.out 3
        go_wp2
        refine bodyPost_ret (results_ct rfl _ _ gb257 40 #[.string a0_0, .int .u32 a0_1, .int .u32 a0_2, .int .u64 a0_3] (0, 0) _ rfl (by (with_reducible repeat (first | refine blk_drewN ?_ _ | refine blk_drew ?_ | refine blk_alloc ?_ _)); refine blk_put (cs := #[.string a0_0, .int .u32 a0_1, .int .u32 a0_2, .int .u64 0]) ?_ 3 _ rfl; (with_reducible repeat (first | refine blk_drewN ?_ _ | refine blk_drew ?_ | refine blk_alloc ?_ _)); refine blk_put (cs := #[.string a0_0, .int .u32 a0_1, .int .u32 0, .int .u64 0]) ?_ 2 _ rfl; (with_reducible repeat (first | refine blk_drewN ?_ _ | refine blk_drew ?_ | refine blk_alloc ?_ _)); refine blk_put (cs := #[.string a0_0, .int .u32 0, .int .u32 0, .int .u64 0]) ?_ 1 _ rfl; (with_reducible repeat (first | refine blk_drewN ?_ _ | refine blk_drew ?_ | refine blk_alloc ?_ _)); refine blk_put (cs := #[.string (⟨#[]⟩ : ByteArray), .int .u32 0, .int .u32 0, .int .u64 0]) ?_ 0 _ rfl; (with_reducible repeat (first | refine blk_drewN ?_ _ | refine blk_drew ?_ | refine blk_alloc ?_ _)); exact BK257.out) Try.underlying40 rfl (by kernel_rfl)) rfl ?_
        exact ⟨by first | rfl | (simp [errW_none, errW_some] <;> rfl) | (simp [*, errW_none, errW_some] <;> rfl), by repeat (first | (with_reducible first | exact HB.out | apply below_alloc | apply pw_below_drewN | apply below_drew1 | refine below_set ?_ GE255.out | refine below_set ?_ GE256.out | refine below_set ?_ GE257.out) | exact HB.out)⟩
      · replace c20 := Bool.eq_false_iff.mpr c20
        subst c20
        have H1 : ((chantryref06_Tag.f kj3 a0_0 a2_0 a2_1 a2_2 l2_3 a2_4).bind fun bt259 => (if bt259.2 = 0 then (if bt259.1.toList = a2_4.toList then (if a2_2 > a0_2 then ((chantryref06_shifted.f kj3 a0_3 ((a2_2 - a0_2) % 4294967296)).bind fun t261 => (some (a0_0, a0_1, a2_2, IntKind.u64.wrap (t261 + 1), 0))) else ((chantryref06_shifted.f kj3 1 ((a0_2 - a2_2) % 4294967296)).bind fun t262 => (if t262 = 0 then (some (a0_0, a0_1, a0_2, a0_3, 6)) else (if (Int.tmod (IntKind.u64.wrap (Int.tdiv a0_3 t262)) 2) = 1 then (some (a0_0, a0_1, a0_2, a0_3, 6)) else (some (a0_0, a0_1, a0_2, IntKind.u64.wrap (a0_3 + t262), 0)))))) else (some (a0_0, a0_1, a0_2, a0_3, 5))) else (some (a0_0, a0_1, a0_2, a0_3, bt259.2)))) = some (r1, r2, r3, r4, r5) := by rw [if_neg (show ¬ (false = true) by decide)] at H; exact H
        clear H
        have H := H1
        clear H1
        replace H := Option.bind_eq_some_iff.mp H
        obtain ⟨⟨t259, t260⟩, A260, H⟩ := H
        replace H : (if t260 = 0 then (if t259.toList = a2_4.toList then (if a2_2 > a0_2 then ((chantryref06_shifted.f kj3 a0_3 ((a2_2 - a0_2) % 4294967296)).bind fun t261 => (some (a0_0, a0_1, a2_2, IntKind.u64.wrap (t261 + 1), 0))) else ((chantryref06_shifted.f kj3 1 ((a0_2 - a2_2) % 4294967296)).bind fun t262 => (if t262 = 0 then (some (a0_0, a0_1, a0_2, a0_3, 6)) else (if (Int.tmod (IntKind.u64.wrap (Int.tdiv a0_3 t262)) 2) = 1 then (some (a0_0, a0_1, a0_2, a0_3, 6)) else (some (a0_0, a0_1, a0_2, IntKind.u64.wrap (a0_3 + t262), 0)))))) else (some (a0_0, a0_1, a0_2, a0_3, 5))) else (some (a0_0, a0_1, a0_2, a0_3, t260))) = some (r1, r2, r3, r4, r5) := H
        have A26 := Aside0.mk A260
        clear A260
        by_cases c27 : t260 = 0
        · rw [if_pos c27] at H
          have c27b0 : (t260 == 0) = true := beq_iff_eq.mpr c27
          have c27b1 : (t260 != 0) = false := bne_eq_false_iff_eq.mpr c27
          clear c27
          by_cases c28 : t259.toList = a2_4.toList
          · rw [if_pos c28] at H
            have c28b0 : (t259.toList == a2_4.toList) = true := beq_iff_eq.mpr c28
            have c28b1 : (t259.toList != a2_4.toList) = false := bne_eq_false_iff_eq.mpr c28
            clear c28
            by_cases c29 : a2_2 > a0_2
            · rw [if_pos c29] at H
              have c29b0 : decide (a0_2 < a2_2) = true := decide_eq_true c29
              clear c29
              replace H := Option.bind_eq_some_iff.mp H
              obtain ⟨t261, A300, H⟩ := H
              replace H : (some (a0_0, a0_1, a2_2, IntKind.u64.wrap (t261 + 1), 0)) = some (r1, r2, r3, r4, r5) := H
              have A30 := Aside0.mk A300
              clear A300
              simp only [Option.some.injEq, Prod.mk.injEq] at H
              obtain ⟨rfl, rfl, rfl, rfl, rfl⟩ := H
              have hnb31 := NB255_256.out
              have hnc31 := NB256_255.out
              have hnb32 := NB255_257.out
              have hnc32 := NB257_255.out
              have hcz33_0 : wc.cell? ⟨gb255, 0, none⟩ = some (.string a0_0) := (blk_cell BK255.out 0).trans rfl
              have hcz33_1 : wc.cell? ⟨gb255, 1, none⟩ = some (.int .u32 a0_1) := (blk_cell BK255.out 1).trans rfl
              have hcz33_2 : wc.cell? ⟨gb255, 2, none⟩ = some (.int .u32 a0_2) := (blk_cell BK255.out 2).trans rfl
              have hcz33_3 : wc.cell? ⟨gb255, 3, none⟩ = some (.int .u64 a0_3) := (blk_cell BK255.out 3).trans rfl
              have hfz33_0 := blk_frozen BK255.out 0
              have hfz33_1 := blk_frozen BK255.out 1
              have hfz33_2 := blk_frozen BK255.out 2
              have hfz33_3 := blk_frozen BK255.out 3
              have hnb34 := NB256_257.out
              have hnc34 := NB257_256.out
              have hcz35_0 : wc.cell? ⟨gb256, 0, none⟩ = some (.int .u8 a2_0) := (blk_cell BK256.out 0).trans rfl
              have hcz35_1 : wc.cell? ⟨gb256, 1, none⟩ = some (.int .u8 a2_1) := (blk_cell BK256.out 1).trans rfl
              have hcz35_2 : wc.cell? ⟨gb256, 2, none⟩ = some (.int .u32 a2_2) := (blk_cell BK256.out 2).trans rfl
              have hcz35_3 : wc.cell? ⟨gb256, 3, none⟩ = some (.slice A2_3 l2_3.length c2_3) := (blk_cell BK256.out 3).trans rfl
              have hcz35_4 : wc.cell? ⟨gb256, 4, none⟩ = some (.string a2_4) := (blk_cell BK256.out 4).trans rfl
              have hfz35_0 := blk_frozen BK256.out 0
              have hfz35_1 := blk_frozen BK256.out 1
              have hfz35_2 := blk_frozen BK256.out 2
              have hfz35_3 := blk_frozen BK256.out 3
              have hfz35_4 := blk_frozen BK256.out 4
              go_wp2_with (first | ((with_reducible refine gate_callee (f := 16) rfl ?_); refine goesL_ (some 33) rfl rfl Try.func16 (by kernel_rfl) rfl #[.string a0_0, .agg #[.int .u8 a2_0, .int .u8 a2_1, .int .u32 a2_2, .slice A2_3 l2_3.length c2_3, .string a2_4]] rfl (by (try simp only [List.map_toArray, List.map_cons, List.map_nil]); first | done | rfl | (simp only [List.length_drop, List.length_take]; rfl)) ?_; (with_reducible refine (chantryref06_Tag.calls kj3 a0_0 a2_0 a2_1 a2_2 _ _ l2_3 a2_4 t259 t260 _ ?side1 ?side2 A26.out).mono ?_); (case side1 => repeat (first | exact (Kd.C_below HR2_3.out HB.out) | (with_reducible refine Kd.C_alloc ?_ _) | (with_reducible refine Kd.C_drewN ?_ _) | (with_reducible refine Kd.C_drew ?_))); (case side2 => exact HC2_3.out); rintro e w36 ⟨rfl, hb⟩; refine ⟨_, rfl, ?_⟩; have n0_ := Aside0.mk (blk_below (g := gb255) (o := .cells #[.string a0_0, .int .u32 a0_1, .int .u32 a0_2, .int .u64 a0_3] 40 (0, 0)) (by (with_reducible repeat (first | refine blk_drewN ?_ _ | refine blk_drew ?_ | refine blk_alloc ?_ _)); exact BK255.out) hb); have n1_ := Aside0.mk (blk_below (g := gb256) (o := .cells #[.int .u8 a2_0, .int .u8 a2_1, .int .u32 a2_2, .slice A2_3 l2_3.length c2_3, .string a2_4] 26 (0, 0)) (by (with_reducible repeat (first | refine blk_drewN ?_ _ | refine blk_drew ?_ | refine blk_alloc ?_ _)); exact BK256.out) hb); have n2_ := Aside0.mk (blk_below (g := gb257) (o := .cells #[.string (⟨#[]⟩ : ByteArray), .int .u32 0, .int .u32 0, .int .u64 0] 40 (0, 0)) (by (with_reducible repeat (first | refine blk_drewN ?_ _ | refine blk_drew ?_ | refine blk_alloc ?_ _)); exact BK257.out) hb); have n3_ := Aside0.mk (below_step (by repeat (first | (with_reducible first | exact HB.out | apply below_alloc | apply pw_below_drewN | apply below_drew1 | refine below_set ?_ GE255.out | refine below_set ?_ GE256.out | refine below_set ?_ GE257.out) | exact HB.out)) hb); clear BK255; clear BK256; clear BK257; clear HB; have BK255 := n0_; have BK256 := n1_; have BK257 := n2_; have HB := n3_; clear n0_ n1_ n2_ n3_; (try clear hb); (try clear hb2); (try clear hk); (try clear hi); have hcz37_0 : w36.cell? ⟨gb256, 0, none⟩ = some (.int .u8 a2_0) := (blk_cell BK256.out 0).trans rfl; have hcz37_1 : w36.cell? ⟨gb256, 1, none⟩ = some (.int .u8 a2_1) := (blk_cell BK256.out 1).trans rfl; have hcz37_2 : w36.cell? ⟨gb256, 2, none⟩ = some (.int .u32 a2_2) := (blk_cell BK256.out 2).trans rfl; have hcz37_3 : w36.cell? ⟨gb256, 3, none⟩ = some (.slice A2_3 l2_3.length c2_3) := (blk_cell BK256.out 3).trans rfl; have hcz37_4 : w36.cell? ⟨gb256, 4, none⟩ = some (.string a2_4) := (blk_cell BK256.out 4).trans rfl; have hfz37_0 := blk_frozen BK256.out 0; have hfz37_1 := blk_frozen BK256.out 1; have hfz37_2 := blk_frozen BK256.out 2; have hfz37_3 := blk_frozen BK256.out 3; have hfz37_4 := blk_frozen BK256.out 4; have hcz38_0 : w36.cell? ⟨gb255, 0, none⟩ = some (.string a0_0) := (blk_cell BK255.out 0).trans rfl; have hcz38_1 : w36.cell? ⟨gb255, 1, none⟩ = some (.int .u32 a0_1) := (blk_cell BK255.out 1).trans rfl; have hcz38_2 : w36.cell? ⟨gb255, 2, none⟩ = some (.int .u32 a0_2) := (blk_cell BK255.out 2).trans rfl; have hcz38_3 : w36.cell? ⟨gb255, 3, none⟩ = some (.int .u64 a0_3) := (blk_cell BK255.out 3).trans rfl; have hfz38_0 := blk_frozen BK255.out 0; have hfz38_1 := blk_frozen BK255.out 1; have hfz38_2 := blk_frozen BK255.out 2; have hfz38_3 := blk_frozen BK255.out 3) | ((with_reducible refine gate_callee (f := 35) rfl ?_); refine goesL_ (some 57) rfl rfl Try.func35 (by kernel_rfl) rfl #[.int .u64 a0_3, .int .u32 ((a2_2 - a0_2) % 4294967296)] rfl (by (try simp only [List.map_toArray, List.map_cons, List.map_nil]); first | done | rfl | (simp only [List.length_drop, List.length_take]; rfl)) ?_; (with_reducible refine (chantryref06_shifted.calls kj3 a0_3 ((a2_2 - a0_2) % 4294967296) t261 _ A30.out).mono ?_); rintro e w' ⟨rfl, ⟨nd, rfl⟩⟩; refine ⟨_, rfl, ?_⟩; (try (rw [drewN_self w36]; generalize hq_ : World.drewN w36 _ = w36; have n0_ : Aside0 (w36.heap[gb255]? = some (.cells #[.string a0_0, .int .u32 a0_1, .int .u32 a0_2, .int .u64 a0_3] 40 (0, 0))) := ⟨by rw [← hq_]; exact (by (with_reducible repeat (first | refine blk_drewN ?_ _ | refine blk_drew ?_ | refine blk_alloc ?_ _)); exact BK255.out)⟩; have n1_ : Aside0 (w36.heap[gb256]? = some (.cells #[.int .u8 a2_0, .int .u8 a2_1, .int .u32 a2_2, .slice A2_3 l2_3.length c2_3, .string a2_4] 26 (0, 0))) := ⟨by rw [← hq_]; exact (by (with_reducible repeat (first | refine blk_drewN ?_ _ | refine blk_drew ?_ | refine blk_alloc ?_ _)); exact BK256.out)⟩; have n2_ : Aside0 (w36.heap[gb257]? = some (.cells #[.string (⟨#[]⟩ : ByteArray), .int .u32 0, .int .u32 0, .int .u64 0] 40 (0, 0))) := ⟨by rw [← hq_]; exact (by (with_reducible repeat (first | refine blk_drewN ?_ _ | refine blk_drew ?_ | refine blk_alloc ?_ _)); exact BK257.out)⟩; have n3_ : Aside0 (Below w.heap.size w w36) := ⟨by rw [← hq_]; exact (by repeat (first | (with_reducible first | exact HB.out | apply below_alloc | apply pw_below_drewN | apply below_drew1 | refine below_set ?_ GE255.out | refine below_set ?_ GE256.out | refine below_set ?_ GE257.out) | exact HB.out))⟩; clear BK255 BK256 BK257 HB hq_; have BK255 := n0_; have BK256 := n1_; have BK257 := n2_; have HB := n3_; clear n0_ n1_ n2_ n3_)); have hcz39_0 : w36.cell? ⟨gb257, 0, none⟩ = some (.string (⟨#[]⟩ : ByteArray)) := (blk_cell BK257.out 0).trans rfl; have hcz39_1 : w36.cell? ⟨gb257, 1, none⟩ = some (.int .u32 0) := (blk_cell BK257.out 1).trans rfl; have hcz39_2 : w36.cell? ⟨gb257, 2, none⟩ = some (.int .u32 0) := (blk_cell BK257.out 2).trans rfl; have hcz39_3 : w36.cell? ⟨gb257, 3, none⟩ = some (.int .u64 0) := (blk_cell BK257.out 3).trans rfl; have hcy255_0 : w36.cell? ⟨gb255, 0, none⟩ = some (.string a0_0) := (blk_cell BK255.out 0).trans rfl; have hcy255_1 : w36.cell? ⟨gb255, 1, none⟩ = some (.int .u32 a0_1) := (blk_cell BK255.out 1).trans rfl; have hcy255_2 : w36.cell? ⟨gb255, 2, none⟩ = some (.int .u32 a0_2) := (blk_cell BK255.out 2).trans rfl; have hcy255_3 : w36.cell? ⟨gb255, 3, none⟩ = some (.int .u64 a0_3) := (blk_cell BK255.out 3).trans rfl; have hcy256_0 : w36.cell? ⟨gb256, 0, none⟩ = some (.int .u8 a2_0) := (blk_cell BK256.out 0).trans rfl; have hcy256_1 : w36.cell? ⟨gb256, 1, none⟩ = some (.int .u8 a2_1) := (blk_cell BK256.out 1).trans rfl; have hcy256_2 : w36.cell? ⟨gb256, 2, none⟩ = some (.int .u32 a2_2) := (blk_cell BK256.out 2).trans rfl; have hcy256_3 : w36.cell? ⟨gb256, 3, none⟩ = some (.slice A2_3 l2_3.length c2_3) := (blk_cell BK256.out 3).trans rfl; have hcy256_4 : w36.cell? ⟨gb256, 4, none⟩ = some (.string a2_4) := (blk_cell BK256.out 4).trans rfl; have hny1 := NB255_256.out; have hny2 := NB256_255.out; have hfy255_0 := blk_frozen BK255.out 0; have hfy255_1 := blk_frozen BK255.out 1; have hfy255_2 := blk_frozen BK255.out 2; have hfy255_3 := blk_frozen BK255.out 3; have hfz39_0 := blk_frozen BK257.out 0; have hfz39_1 := blk_frozen BK257.out 1; have hfz39_2 := blk_frozen BK257.out 2; have hfz39_3 := blk_frozen BK257.out 3))
              refine bodyPost_ret (results_ct rfl _ _ gb257 40 #[.string a0_0, .int .u32 a0_1, .int .u32 a2_2, .int .u64 (IntKind.u64.wrap (t261 + 1))] (0, 0) _ rfl (by (with_reducible repeat (first | refine blk_drewN ?_ _ | refine blk_drew ?_ | refine blk_alloc ?_ _)); refine blk_put (cs := #[.string a0_0, .int .u32 a0_1, .int .u32 a2_2, .int .u64 0]) ?_ 3 _ rfl; (with_reducible repeat (first | refine blk_drewN ?_ _ | refine blk_drew ?_ | refine blk_alloc ?_ _)); refine blk_put (cs := #[.string a0_0, .int .u32 a0_1, .int .u32 0, .int .u64 0]) ?_ 2 _ rfl; (with_reducible repeat (first | refine blk_drewN ?_ _ | refine blk_drew ?_ | refine blk_alloc ?_ _)); refine blk_put (cs := #[.string a0_0, .int .u32 0, .int .u32 0, .int .u64 0]) ?_ 1 _ rfl; (with_reducible repeat (first | refine blk_drewN ?_ _ | refine blk_drew ?_ | refine blk_alloc ?_ _)); refine blk_put (cs := #[.string (⟨#[]⟩ : ByteArray), .int .u32 0, .int .u32 0, .int .u64 0]) ?_ 0 _ rfl; (with_reducible repeat (first | refine blk_drewN ?_ _ | refine blk_drew ?_ | refine blk_alloc ?_ _)); refine blk_far ?_ NB257_255.out _; (with_reducible repeat (first | refine blk_drewN ?_ _ | refine blk_drew ?_ | refine blk_alloc ?_ _)); refine blk_far ?_ NB257_255.out _; (with_reducible repeat (first | refine blk_drewN ?_ _ | refine blk_drew ?_ | refine blk_alloc ?_ _)); refine blk_far ?_ NB257_255.out _; (with_reducible repeat (first | refine blk_drewN ?_ _ | refine blk_drew ?_ | refine blk_alloc ?_ _)); exact BK257.out) Try.underlying40 rfl (by kernel_rfl)) rfl ?_
              exact ⟨by first | rfl | (simp [errW_none, errW_some] <;> rfl) | (simp [*, errW_none, errW_some] <;> rfl), by repeat (first | (with_reducible first | exact HB.out | apply below_alloc | apply pw_below_drewN | apply below_drew1 | refine below_set ?_ GE255.out | refine below_set ?_ GE256.out | refine below_set ?_ GE257.out) | exact HB.out)⟩
            · rw [if_neg c29] at H
              have c29b0 : decide (a0_2 < a2_2) = false := decide_eq_false c29
              clear c29
              replace H := Option.bind_eq_some_iff.mp H
              obtain ⟨t262, A400, H⟩ := H
              replace H : (if t262 = 0 then (some (a0_0, a0_1, a0_2, a0_3, 6)) else (if (Int.tmod (IntKind.u64.wrap (Int.tdiv a0_3 t262)) 2) = 1 then (some (a0_0, a0_1, a0_2, a0_3, 6)) else (some (a0_0, a0_1, a0_2, IntKind.u64.wrap (a0_3 + t262), 0)))) = some (r1, r2, r3, r4, r5) := H
              have A40 := Aside0.mk A400
              clear A400
              by_cases c41 : t262 = 0
              · rw [if_pos c41] at H
                have c41b0 : (t262 == 0) = true := beq_iff_eq.mpr c41
                have c41b1 : (t262 != 0) = false := bne_eq_false_iff_eq.mpr c41
                clear c41
                simp only [Option.some.injEq, Prod.mk.injEq] at H
                obtain ⟨rfl, rfl, rfl, rfl, rfl⟩ := H
                have hnb42 := NB255_256.out
                have hnc42 := NB256_255.out
                have hnb43 := NB255_257.out
                have hnc43 := NB257_255.out
                have hcz44_0 : wc.cell? ⟨gb255, 0, none⟩ = some (.string a0_0) := (blk_cell BK255.out 0).trans rfl
                have hcz44_1 : wc.cell? ⟨gb255, 1, none⟩ = some (.int .u32 a0_1) := (blk_cell BK255.out 1).trans rfl
                have hcz44_2 : wc.cell? ⟨gb255, 2, none⟩ = some (.int .u32 a0_2) := (blk_cell BK255.out 2).trans rfl
                have hcz44_3 : wc.cell? ⟨gb255, 3, none⟩ = some (.int .u64 a0_3) := (blk_cell BK255.out 3).trans rfl
                have hfz44_0 := blk_frozen BK255.out 0
                have hfz44_1 := blk_frozen BK255.out 1
                have hfz44_2 := blk_frozen BK255.out 2
                have hfz44_3 := blk_frozen BK255.out 3
                have hnb45 := NB256_257.out
                have hnc45 := NB257_256.out
                have hcz46_0 : wc.cell? ⟨gb256, 0, none⟩ = some (.int .u8 a2_0) := (blk_cell BK256.out 0).trans rfl
                have hcz46_1 : wc.cell? ⟨gb256, 1, none⟩ = some (.int .u8 a2_1) := (blk_cell BK256.out 1).trans rfl
                have hcz46_2 : wc.cell? ⟨gb256, 2, none⟩ = some (.int .u32 a2_2) := (blk_cell BK256.out 2).trans rfl
                have hcz46_3 : wc.cell? ⟨gb256, 3, none⟩ = some (.slice A2_3 l2_3.length c2_3) := (blk_cell BK256.out 3).trans rfl
                have hcz46_4 : wc.cell? ⟨gb256, 4, none⟩ = some (.string a2_4) := (blk_cell BK256.out 4).trans rfl
                have hfz46_0 := blk_frozen BK256.out 0
                have hfz46_1 := blk_frozen BK256.out 1
                have hfz46_2 := blk_frozen BK256.out 2
                have hfz46_3 := blk_frozen BK256.out 3
                have hfz46_4 := blk_frozen BK256.out 4
                go_wp2_with (first | ((with_reducible refine gate_callee (f := 16) rfl ?_); refine goesL_ (some 33) rfl rfl Try.func16 (by kernel_rfl) rfl #[.string a0_0, .agg #[.int .u8 a2_0, .int .u8 a2_1, .int .u32 a2_2, .slice A2_3 l2_3.length c2_3, .string a2_4]] rfl (by (try simp only [List.map_toArray, List.map_cons, List.map_nil]); first | done | rfl | (simp only [List.length_drop, List.length_take]; rfl)) ?_; (with_reducible refine (chantryref06_Tag.calls kj3 a0_0 a2_0 a2_1 a2_2 _ _ l2_3 a2_4 t259 t260 _ ?side1 ?side2 A26.out).mono ?_); (case side1 => repeat (first | exact (Kd.C_below HR2_3.out HB.out) | (with_reducible refine Kd.C_alloc ?_ _) | (with_reducible refine Kd.C_drewN ?_ _) | (with_reducible refine Kd.C_drew ?_))); (case side2 => exact HC2_3.out); rintro e w47 ⟨rfl, hb⟩; refine ⟨_, rfl, ?_⟩; have n0_ := Aside0.mk (blk_below (g := gb255) (o := .cells #[.string a0_0, .int .u32 a0_1, .int .u32 a0_2, .int .u64 a0_3] 40 (0, 0)) (by (with_reducible repeat (first | refine blk_drewN ?_ _ | refine blk_drew ?_ | refine blk_alloc ?_ _)); exact BK255.out) hb); have n1_ := Aside0.mk (blk_below (g := gb256) (o := .cells #[.int .u8 a2_0, .int .u8 a2_1, .int .u32 a2_2, .slice A2_3 l2_3.length c2_3, .string a2_4] 26 (0, 0)) (by (with_reducible repeat (first | refine blk_drewN ?_ _ | refine blk_drew ?_ | refine blk_alloc ?_ _)); exact BK256.out) hb); have n2_ := Aside0.mk (blk_below (g := gb257) (o := .cells #[.string (⟨#[]⟩ : ByteArray), .int .u32 0, .int .u32 0, .int .u64 0] 40 (0, 0)) (by (with_reducible repeat (first | refine blk_drewN ?_ _ | refine blk_drew ?_ | refine blk_alloc ?_ _)); exact BK257.out) hb); have n3_ := Aside0.mk (below_step (by repeat (first | (with_reducible first | exact HB.out | apply below_alloc | apply pw_below_drewN | apply below_drew1 | refine below_set ?_ GE255.out | refine below_set ?_ GE256.out | refine below_set ?_ GE257.out) | exact HB.out)) hb); clear BK255; clear BK256; clear BK257; clear HB; have BK255 := n0_; have BK256 := n1_; have BK257 := n2_; have HB := n3_; clear n0_ n1_ n2_ n3_; (try clear hb); (try clear hb2); (try clear hk); (try clear hi); have hcz48_0 : w47.cell? ⟨gb256, 0, none⟩ = some (.int .u8 a2_0) := (blk_cell BK256.out 0).trans rfl; have hcz48_1 : w47.cell? ⟨gb256, 1, none⟩ = some (.int .u8 a2_1) := (blk_cell BK256.out 1).trans rfl; have hcz48_2 : w47.cell? ⟨gb256, 2, none⟩ = some (.int .u32 a2_2) := (blk_cell BK256.out 2).trans rfl; have hcz48_3 : w47.cell? ⟨gb256, 3, none⟩ = some (.slice A2_3 l2_3.length c2_3) := (blk_cell BK256.out 3).trans rfl; have hcz48_4 : w47.cell? ⟨gb256, 4, none⟩ = some (.string a2_4) := (blk_cell BK256.out 4).trans rfl; have hfz48_0 := blk_frozen BK256.out 0; have hfz48_1 := blk_frozen BK256.out 1; have hfz48_2 := blk_frozen BK256.out 2; have hfz48_3 := blk_frozen BK256.out 3; have hfz48_4 := blk_frozen BK256.out 4; have hcz49_0 : w47.cell? ⟨gb255, 0, none⟩ = some (.string a0_0) := (blk_cell BK255.out 0).trans rfl; have hcz49_1 : w47.cell? ⟨gb255, 1, none⟩ = some (.int .u32 a0_1) := (blk_cell BK255.out 1).trans rfl; have hcz49_2 : w47.cell? ⟨gb255, 2, none⟩ = some (.int .u32 a0_2) := (blk_cell BK255.out 2).trans rfl; have hcz49_3 : w47.cell? ⟨gb255, 3, none⟩ = some (.int .u64 a0_3) := (blk_cell BK255.out 3).trans rfl; have hfz49_0 := blk_frozen BK255.out 0; have hfz49_1 := blk_frozen BK255.out 1; have hfz49_2 := blk_frozen BK255.out 2; have hfz49_3 := blk_frozen BK255.out 3) | ((with_reducible refine gate_callee (f := 35) rfl ?_); refine goesL_ (some 72) rfl rfl Try.func35 (by kernel_rfl) rfl #[.int .u64 1, .int .u32 ((a0_2 - a2_2) % 4294967296)] rfl (by (try simp only [List.map_toArray, List.map_cons, List.map_nil]); first | done | rfl | (simp only [List.length_drop, List.length_take]; rfl)) ?_; (with_reducible refine (chantryref06_shifted.calls kj3 1 ((a0_2 - a2_2) % 4294967296) t262 _ A40.out).mono ?_); rintro e w' ⟨rfl, ⟨nd, rfl⟩⟩; refine ⟨_, rfl, ?_⟩; (try (rw [drewN_self w47]; generalize hq_ : World.drewN w47 _ = w47; have n0_ : Aside0 (w47.heap[gb255]? = some (.cells #[.string a0_0, .int .u32 a0_1, .int .u32 a0_2, .int .u64 a0_3] 40 (0, 0))) := ⟨by rw [← hq_]; exact (by (with_reducible repeat (first | refine blk_drewN ?_ _ | refine blk_drew ?_ | refine blk_alloc ?_ _)); exact BK255.out)⟩; have n1_ : Aside0 (w47.heap[gb256]? = some (.cells #[.int .u8 a2_0, .int .u8 a2_1, .int .u32 a2_2, .slice A2_3 l2_3.length c2_3, .string a2_4] 26 (0, 0))) := ⟨by rw [← hq_]; exact (by (with_reducible repeat (first | refine blk_drewN ?_ _ | refine blk_drew ?_ | refine blk_alloc ?_ _)); exact BK256.out)⟩; have n2_ : Aside0 (w47.heap[gb257]? = some (.cells #[.string (⟨#[]⟩ : ByteArray), .int .u32 0, .int .u32 0, .int .u64 0] 40 (0, 0))) := ⟨by rw [← hq_]; exact (by (with_reducible repeat (first | refine blk_drewN ?_ _ | refine blk_drew ?_ | refine blk_alloc ?_ _)); exact BK257.out)⟩; have n3_ : Aside0 (Below w.heap.size w w47) := ⟨by rw [← hq_]; exact (by repeat (first | (with_reducible first | exact HB.out | apply below_alloc | apply pw_below_drewN | apply below_drew1 | refine below_set ?_ GE255.out | refine below_set ?_ GE256.out | refine below_set ?_ GE257.out) | exact HB.out))⟩; clear BK255 BK256 BK257 HB hq_; have BK255 := n0_; have BK256 := n1_; have BK257 := n2_; have HB := n3_; clear n0_ n1_ n2_ n3_)); have hcz50_0 : w47.cell? ⟨gb257, 0, none⟩ = some (.string (⟨#[]⟩ : ByteArray)) := (blk_cell BK257.out 0).trans rfl; have hcz50_1 : w47.cell? ⟨gb257, 1, none⟩ = some (.int .u32 0) := (blk_cell BK257.out 1).trans rfl; have hcz50_2 : w47.cell? ⟨gb257, 2, none⟩ = some (.int .u32 0) := (blk_cell BK257.out 2).trans rfl; have hcz50_3 : w47.cell? ⟨gb257, 3, none⟩ = some (.int .u64 0) := (blk_cell BK257.out 3).trans rfl; have hcy255_0 : w47.cell? ⟨gb255, 0, none⟩ = some (.string a0_0) := (blk_cell BK255.out 0).trans rfl; have hcy255_1 : w47.cell? ⟨gb255, 1, none⟩ = some (.int .u32 a0_1) := (blk_cell BK255.out 1).trans rfl; have hcy255_2 : w47.cell? ⟨gb255, 2, none⟩ = some (.int .u32 a0_2) := (blk_cell BK255.out 2).trans rfl; have hcy255_3 : w47.cell? ⟨gb255, 3, none⟩ = some (.int .u64 a0_3) := (blk_cell BK255.out 3).trans rfl; have hcy256_0 : w47.cell? ⟨gb256, 0, none⟩ = some (.int .u8 a2_0) := (blk_cell BK256.out 0).trans rfl; have hcy256_1 : w47.cell? ⟨gb256, 1, none⟩ = some (.int .u8 a2_1) := (blk_cell BK256.out 1).trans rfl; have hcy256_2 : w47.cell? ⟨gb256, 2, none⟩ = some (.int .u32 a2_2) := (blk_cell BK256.out 2).trans rfl; have hcy256_3 : w47.cell? ⟨gb256, 3, none⟩ = some (.slice A2_3 l2_3.length c2_3) := (blk_cell BK256.out 3).trans rfl; have hcy256_4 : w47.cell? ⟨gb256, 4, none⟩ = some (.string a2_4) := (blk_cell BK256.out 4).trans rfl; have hny1 := NB255_256.out; have hny2 := NB256_255.out; have hfy255_0 := blk_frozen BK255.out 0; have hfy255_1 := blk_frozen BK255.out 1; have hfy255_2 := blk_frozen BK255.out 2; have hfy255_3 := blk_frozen BK255.out 3; have hfz50_0 := blk_frozen BK257.out 0; have hfz50_1 := blk_frozen BK257.out 1; have hfz50_2 := blk_frozen BK257.out 2; have hfz50_3 := blk_frozen BK257.out 3))
                refine bodyPost_ret (results_ct rfl _ _ gb257 40 #[.string a0_0, .int .u32 a0_1, .int .u32 a0_2, .int .u64 a0_3] (0, 0) _ rfl (by (with_reducible repeat (first | refine blk_drewN ?_ _ | refine blk_drew ?_ | refine blk_alloc ?_ _)); refine blk_put (cs := #[.string a0_0, .int .u32 a0_1, .int .u32 a0_2, .int .u64 0]) ?_ 3 _ rfl; (with_reducible repeat (first | refine blk_drewN ?_ _ | refine blk_drew ?_ | refine blk_alloc ?_ _)); refine blk_put (cs := #[.string a0_0, .int .u32 a0_1, .int .u32 0, .int .u64 0]) ?_ 2 _ rfl; (with_reducible repeat (first | refine blk_drewN ?_ _ | refine blk_drew ?_ | refine blk_alloc ?_ _)); refine blk_put (cs := #[.string a0_0, .int .u32 0, .int .u32 0, .int .u64 0]) ?_ 1 _ rfl; (with_reducible repeat (first | refine blk_drewN ?_ _ | refine blk_drew ?_ | refine blk_alloc ?_ _)); refine blk_put (cs := #[.string (⟨#[]⟩ : ByteArray), .int .u32 0, .int .u32 0, .int .u64 0]) ?_ 0 _ rfl; (with_reducible repeat (first | refine blk_drewN ?_ _ | refine blk_drew ?_ | refine blk_alloc ?_ _)); exact BK257.out) Try.underlying40 rfl (by kernel_rfl)) rfl ?_
                exact ⟨by first | rfl | (simp [errW_none, errW_some] <;> rfl) | (simp [*, errW_none, errW_some] <;> rfl), by repeat (first | (with_reducible first | exact HB.out | apply below_alloc | apply pw_below_drewN | apply below_drew1 | refine below_set ?_ GE255.out | refine below_set ?_ GE256.out | refine below_set ?_ GE257.out) | exact HB.out)⟩
              · rw [if_neg c41] at H
                have c41b0 : (t262 == 0) = false := beq_eq_false_iff_ne.mpr c41
                have c41b1 : (t262 != 0) = true := bne_iff_ne.mpr c41
                by_cases c51 : (Int.tmod (IntKind.u64.wrap (Int.tdiv a0_3 t262)) 2) = 1
                · rw [if_pos c51] at H
                  have c51b0 : ((Int.tmod (IntKind.u64.wrap (Int.tdiv a0_3 t262)) 2) == 1) = true := beq_iff_eq.mpr c51
                  have c51b1 : ((Int.tmod (IntKind.u64.wrap (Int.tdiv a0_3 t262)) 2) != 1) = false := bne_eq_false_iff_eq.mpr c51
                  clear c51
                  simp only [Option.some.injEq, Prod.mk.injEq] at H
                  obtain ⟨rfl, rfl, rfl, rfl, rfl⟩ := H
                  have hnb52 := NB255_256.out
                  have hnc52 := NB256_255.out
                  have hnb53 := NB255_257.out
                  have hnc53 := NB257_255.out
                  have hcz54_0 : wc.cell? ⟨gb255, 0, none⟩ = some (.string a0_0) := (blk_cell BK255.out 0).trans rfl
                  have hcz54_1 : wc.cell? ⟨gb255, 1, none⟩ = some (.int .u32 a0_1) := (blk_cell BK255.out 1).trans rfl
                  have hcz54_2 : wc.cell? ⟨gb255, 2, none⟩ = some (.int .u32 a0_2) := (blk_cell BK255.out 2).trans rfl
                  have hcz54_3 : wc.cell? ⟨gb255, 3, none⟩ = some (.int .u64 a0_3) := (blk_cell BK255.out 3).trans rfl
                  have hfz54_0 := blk_frozen BK255.out 0
                  have hfz54_1 := blk_frozen BK255.out 1
                  have hfz54_2 := blk_frozen BK255.out 2
                  have hfz54_3 := blk_frozen BK255.out 3
                  have hnb55 := NB256_257.out
                  have hnc55 := NB257_256.out
                  have hcz56_0 : wc.cell? ⟨gb256, 0, none⟩ = some (.int .u8 a2_0) := (blk_cell BK256.out 0).trans rfl
                  have hcz56_1 : wc.cell? ⟨gb256, 1, none⟩ = some (.int .u8 a2_1) := (blk_cell BK256.out 1).trans rfl
                  have hcz56_2 : wc.cell? ⟨gb256, 2, none⟩ = some (.int .u32 a2_2) := (blk_cell BK256.out 2).trans rfl
                  have hcz56_3 : wc.cell? ⟨gb256, 3, none⟩ = some (.slice A2_3 l2_3.length c2_3) := (blk_cell BK256.out 3).trans rfl
                  have hcz56_4 : wc.cell? ⟨gb256, 4, none⟩ = some (.string a2_4) := (blk_cell BK256.out 4).trans rfl
                  have hfz56_0 := blk_frozen BK256.out 0
                  have hfz56_1 := blk_frozen BK256.out 1
                  have hfz56_2 := blk_frozen BK256.out 2
                  have hfz56_3 := blk_frozen BK256.out 3
                  have hfz56_4 := blk_frozen BK256.out 4
                  go_wp2_with (first | ((with_reducible refine gate_callee (f := 16) rfl ?_); refine goesL_ (some 33) rfl rfl Try.func16 (by kernel_rfl) rfl #[.string a0_0, .agg #[.int .u8 a2_0, .int .u8 a2_1, .int .u32 a2_2, .slice A2_3 l2_3.length c2_3, .string a2_4]] rfl (by (try simp only [List.map_toArray, List.map_cons, List.map_nil]); first | done | rfl | (simp only [List.length_drop, List.length_take]; rfl)) ?_; (with_reducible refine (chantryref06_Tag.calls kj3 a0_0 a2_0 a2_1 a2_2 _ _ l2_3 a2_4 t259 t260 _ ?side1 ?side2 A26.out).mono ?_); (case side1 => repeat (first | exact (Kd.C_below HR2_3.out HB.out) | (with_reducible refine Kd.C_alloc ?_ _) | (with_reducible refine Kd.C_drewN ?_ _) | (with_reducible refine Kd.C_drew ?_))); (case side2 => exact HC2_3.out); rintro e w57 ⟨rfl, hb⟩; refine ⟨_, rfl, ?_⟩; have n0_ := Aside0.mk (blk_below (g := gb255) (o := .cells #[.string a0_0, .int .u32 a0_1, .int .u32 a0_2, .int .u64 a0_3] 40 (0, 0)) (by (with_reducible repeat (first | refine blk_drewN ?_ _ | refine blk_drew ?_ | refine blk_alloc ?_ _)); exact BK255.out) hb); have n1_ := Aside0.mk (blk_below (g := gb256) (o := .cells #[.int .u8 a2_0, .int .u8 a2_1, .int .u32 a2_2, .slice A2_3 l2_3.length c2_3, .string a2_4] 26 (0, 0)) (by (with_reducible repeat (first | refine blk_drewN ?_ _ | refine blk_drew ?_ | refine blk_alloc ?_ _)); exact BK256.out) hb); have n2_ := Aside0.mk (blk_below (g := gb257) (o := .cells #[.string (⟨#[]⟩ : ByteArray), .int .u32 0, .int .u32 0, .int .u64 0] 40 (0, 0)) (by (with_reducible repeat (first | refine blk_drewN ?_ _ | refine blk_drew ?_ | refine blk_alloc ?_ _)); exact BK257.out) hb); have n3_ := Aside0.mk (below_step (by repeat (first | (with_reducible first | exact HB.out | apply below_alloc | apply pw_below_drewN | apply below_drew1 | refine below_set ?_ GE255.out | refine below_set ?_ GE256.out | refine below_set ?_ GE257.out) | exact HB.out)) hb); clear BK255; clear BK256; clear BK257; clear HB; have BK255 := n0_; have BK256 := n1_; have BK257 := n2_; have HB := n3_; clear n0_ n1_ n2_ n3_; (try clear hb); (try clear hb2); (try clear hk); (try clear hi); have hcz58_0 : w57.cell? ⟨gb256, 0, none⟩ = some (.int .u8 a2_0) := (blk_cell BK256.out 0).trans rfl; have hcz58_1 : w57.cell? ⟨gb256, 1, none⟩ = some (.int .u8 a2_1) := (blk_cell BK256.out 1).trans rfl; have hcz58_2 : w57.cell? ⟨gb256, 2, none⟩ = some (.int .u32 a2_2) := (blk_cell BK256.out 2).trans rfl; have hcz58_3 : w57.cell? ⟨gb256, 3, none⟩ = some (.slice A2_3 l2_3.length c2_3) := (blk_cell BK256.out 3).trans rfl; have hcz58_4 : w57.cell? ⟨gb256, 4, none⟩ = some (.string a2_4) := (blk_cell BK256.out 4).trans rfl; have hfz58_0 := blk_frozen BK256.out 0; have hfz58_1 := blk_frozen BK256.out 1; have hfz58_2 := blk_frozen BK256.out 2; have hfz58_3 := blk_frozen BK256.out 3; have hfz58_4 := blk_frozen BK256.out 4; have hcz59_0 : w57.cell? ⟨gb255, 0, none⟩ = some (.string a0_0) := (blk_cell BK255.out 0).trans rfl; have hcz59_1 : w57.cell? ⟨gb255, 1, none⟩ = some (.int .u32 a0_1) := (blk_cell BK255.out 1).trans rfl; have hcz59_2 : w57.cell? ⟨gb255, 2, none⟩ = some (.int .u32 a0_2) := (blk_cell BK255.out 2).trans rfl; have hcz59_3 : w57.cell? ⟨gb255, 3, none⟩ = some (.int .u64 a0_3) := (blk_cell BK255.out 3).trans rfl; have hfz59_0 := blk_frozen BK255.out 0; have hfz59_1 := blk_frozen BK255.out 1; have hfz59_2 := blk_frozen BK255.out 2; have hfz59_3 := blk_frozen BK255.out 3) | ((with_reducible refine gate_callee (f := 35) rfl ?_); refine goesL_ (some 72) rfl rfl Try.func35 (by kernel_rfl) rfl #[.int .u64 1, .int .u32 ((a0_2 - a2_2) % 4294967296)] rfl (by (try simp only [List.map_toArray, List.map_cons, List.map_nil]); first | done | rfl | (simp only [List.length_drop, List.length_take]; rfl)) ?_; (with_reducible refine (chantryref06_shifted.calls kj3 1 ((a0_2 - a2_2) % 4294967296) t262 _ A40.out).mono ?_); rintro e w' ⟨rfl, ⟨nd, rfl⟩⟩; refine ⟨_, rfl, ?_⟩; (try (rw [drewN_self w57]; generalize hq_ : World.drewN w57 _ = w57; have n0_ : Aside0 (w57.heap[gb255]? = some (.cells #[.string a0_0, .int .u32 a0_1, .int .u32 a0_2, .int .u64 a0_3] 40 (0, 0))) := ⟨by rw [← hq_]; exact (by (with_reducible repeat (first | refine blk_drewN ?_ _ | refine blk_drew ?_ | refine blk_alloc ?_ _)); exact BK255.out)⟩; have n1_ : Aside0 (w57.heap[gb256]? = some (.cells #[.int .u8 a2_0, .int .u8 a2_1, .int .u32 a2_2, .slice A2_3 l2_3.length c2_3, .string a2_4] 26 (0, 0))) := ⟨by rw [← hq_]; exact (by (with_reducible repeat (first | refine blk_drewN ?_ _ | refine blk_drew ?_ | refine blk_alloc ?_ _)); exact BK256.out)⟩; have n2_ : Aside0 (w57.heap[gb257]? = some (.cells #[.string (⟨#[]⟩ : ByteArray), .int .u32 0, .int .u32 0, .int .u64 0] 40 (0, 0))) := ⟨by rw [← hq_]; exact (by (with_reducible repeat (first | refine blk_drewN ?_ _ | refine blk_drew ?_ | refine blk_alloc ?_ _)); exact BK257.out)⟩; have n3_ : Aside0 (Below w.heap.size w w57) := ⟨by rw [← hq_]; exact (by repeat (first | (with_reducible first | exact HB.out | apply below_alloc | apply pw_below_drewN | apply below_drew1 | refine below_set ?_ GE255.out | refine below_set ?_ GE256.out | refine below_set ?_ GE257.out) | exact HB.out))⟩; clear BK255 BK256 BK257 HB hq_; have BK255 := n0_; have BK256 := n1_; have BK257 := n2_; have HB := n3_; clear n0_ n1_ n2_ n3_)); have hcz60_0 : w57.cell? ⟨gb257, 0, none⟩ = some (.string (⟨#[]⟩ : ByteArray)) := (blk_cell BK257.out 0).trans rfl; have hcz60_1 : w57.cell? ⟨gb257, 1, none⟩ = some (.int .u32 0) := (blk_cell BK257.out 1).trans rfl; have hcz60_2 : w57.cell? ⟨gb257, 2, none⟩ = some (.int .u32 0) := (blk_cell BK257.out 2).trans rfl; have hcz60_3 : w57.cell? ⟨gb257, 3, none⟩ = some (.int .u64 0) := (blk_cell BK257.out 3).trans rfl; have hcy255_0 : w57.cell? ⟨gb255, 0, none⟩ = some (.string a0_0) := (blk_cell BK255.out 0).trans rfl; have hcy255_1 : w57.cell? ⟨gb255, 1, none⟩ = some (.int .u32 a0_1) := (blk_cell BK255.out 1).trans rfl; have hcy255_2 : w57.cell? ⟨gb255, 2, none⟩ = some (.int .u32 a0_2) := (blk_cell BK255.out 2).trans rfl; have hcy255_3 : w57.cell? ⟨gb255, 3, none⟩ = some (.int .u64 a0_3) := (blk_cell BK255.out 3).trans rfl; have hcy256_0 : w57.cell? ⟨gb256, 0, none⟩ = some (.int .u8 a2_0) := (blk_cell BK256.out 0).trans rfl; have hcy256_1 : w57.cell? ⟨gb256, 1, none⟩ = some (.int .u8 a2_1) := (blk_cell BK256.out 1).trans rfl; have hcy256_2 : w57.cell? ⟨gb256, 2, none⟩ = some (.int .u32 a2_2) := (blk_cell BK256.out 2).trans rfl; have hcy256_3 : w57.cell? ⟨gb256, 3, none⟩ = some (.slice A2_3 l2_3.length c2_3) := (blk_cell BK256.out 3).trans rfl; have hcy256_4 : w57.cell? ⟨gb256, 4, none⟩ = some (.string a2_4) := (blk_cell BK256.out 4).trans rfl; have hny1 := NB255_256.out; have hny2 := NB256_255.out; have hfy255_0 := blk_frozen BK255.out 0; have hfy255_1 := blk_frozen BK255.out 1; have hfy255_2 := blk_frozen BK255.out 2; have hfy255_3 := blk_frozen BK255.out 3; have hfz60_0 := blk_frozen BK257.out 0; have hfz60_1 := blk_frozen BK257.out 1; have hfz60_2 := blk_frozen BK257.out 2; have hfz60_3 := blk_frozen BK257.out 3))
                  refine bodyPost_ret (results_ct rfl _ _ gb257 40 #[.string a0_0, .int .u32 a0_1, .int .u32 a0_2, .int .u64 a0_3] (0, 0) _ rfl (by (with_reducible repeat (first | refine blk_drewN ?_ _ | refine blk_drew ?_ | refine blk_alloc ?_ _)); refine blk_put (cs := #[.string a0_0, .int .u32 a0_1, .int .u32 a0_2, .int .u64 0]) ?_ 3 _ rfl; (with_reducible repeat (first | refine blk_drewN ?_ _ | refine blk_drew ?_ | refine blk_alloc ?_ _)); refine blk_put (cs := #[.string a0_0, .int .u32 a0_1, .int .u32 0, .int .u64 0]) ?_ 2 _ rfl; (with_reducible repeat (first | refine blk_drewN ?_ _ | refine blk_drew ?_ | refine blk_alloc ?_ _)); refine blk_put (cs := #[.string a0_0, .int .u32 0, .int .u32 0, .int .u64 0]) ?_ 1 _ rfl; (with_reducible repeat (first | refine blk_drewN ?_ _ | refine blk_drew ?_ | refine blk_alloc ?_ _)); refine blk_put (cs := #[.string (⟨#[]⟩ : ByteArray), .int .u32 0, .int .u32 0, .int .u64 0]) ?_ 0 _ rfl; (with_reducible repeat (first | refine blk_drewN ?_ _ | refine blk_drew ?_ | refine blk_alloc ?_ _)); exact BK257.out) Try.underlying40 rfl (by kernel_rfl)) rfl ?_
                  exact ⟨by first | rfl | (simp [errW_none, errW_some] <;> rfl) | (simp [*, errW_none, errW_some] <;> rfl), by repeat (first | (with_reducible first | exact HB.out | apply below_alloc | apply pw_below_drewN | apply below_drew1 | refine below_set ?_ GE255.out | refine below_set ?_ GE256.out | refine below_set ?_ GE257.out) | exact HB.out)⟩
                · rw [if_neg c51] at H
                  have c51b0 : ((Int.tmod (IntKind.u64.wrap (Int.tdiv a0_3 t262)) 2) == 1) = false := beq_eq_false_iff_ne.mpr c51
                  have c51b1 : ((Int.tmod (IntKind.u64.wrap (Int.tdiv a0_3 t262)) 2) != 1) = true := bne_iff_ne.mpr c51
                  simp only [Option.some.injEq, Prod.mk.injEq] at H
                  obtain ⟨rfl, rfl, rfl, rfl, rfl⟩ := H
                  have hnb61 := NB255_256.out
                  have hnc61 := NB256_255.out
                  have hnb62 := NB255_257.out
                  have hnc62 := NB257_255.out
                  have hcz63_0 : wc.cell? ⟨gb255, 0, none⟩ = some (.string a0_0) := (blk_cell BK255.out 0).trans rfl
                  have hcz63_1 : wc.cell? ⟨gb255, 1, none⟩ = some (.int .u32 a0_1) := (blk_cell BK255.out 1).trans rfl
                  have hcz63_2 : wc.cell? ⟨gb255, 2, none⟩ = some (.int .u32 a0_2) := (blk_cell BK255.out 2).trans rfl
                  have hcz63_3 : wc.cell? ⟨gb255, 3, none⟩ = some (.int .u64 a0_3) := (blk_cell BK255.out 3).trans rfl
                  have hfz63_0 := blk_frozen BK255.out 0
                  have hfz63_1 := blk_frozen BK255.out 1
                  have hfz63_2 := blk_frozen BK255.out 2
                  have hfz63_3 := blk_frozen BK255.out 3
                  have hnb64 := NB256_257.out
                  have hnc64 := NB257_256.out
                  have hcz65_0 : wc.cell? ⟨gb256, 0, none⟩ = some (.int .u8 a2_0) := (blk_cell BK256.out 0).trans rfl
                  have hcz65_1 : wc.cell? ⟨gb256, 1, none⟩ = some (.int .u8 a2_1) := (blk_cell BK256.out 1).trans rfl
                  have hcz65_2 : wc.cell? ⟨gb256, 2, none⟩ = some (.int .u32 a2_2) := (blk_cell BK256.out 2).trans rfl
                  have hcz65_3 : wc.cell? ⟨gb256, 3, none⟩ = some (.slice A2_3 l2_3.length c2_3) := (blk_cell BK256.out 3).trans rfl
                  have hcz65_4 : wc.cell? ⟨gb256, 4, none⟩ = some (.string a2_4) := (blk_cell BK256.out 4).trans rfl
                  have hfz65_0 := blk_frozen BK256.out 0
                  have hfz65_1 := blk_frozen BK256.out 1
                  have hfz65_2 := blk_frozen BK256.out 2
                  have hfz65_3 := blk_frozen BK256.out 3
                  have hfz65_4 := blk_frozen BK256.out 4
                  go_wp2_with (first | ((with_reducible refine gate_callee (f := 16) rfl ?_); refine goesL_ (some 33) rfl rfl Try.func16 (by kernel_rfl) rfl #[.string a0_0, .agg #[.int .u8 a2_0, .int .u8 a2_1, .int .u32 a2_2, .slice A2_3 l2_3.length c2_3, .string a2_4]] rfl (by (try simp only [List.map_toArray, List.map_cons, List.map_nil]); first | done | rfl | (simp only [List.length_drop, List.length_take]; rfl)) ?_; (with_reducible refine (chantryref06_Tag.calls kj3 a0_0 a2_0 a2_1 a2_2 _ _ l2_3 a2_4 t259 t260 _ ?side1 ?side2 A26.out).mono ?_); (case side1 => repeat (first | exact (Kd.C_below HR2_3.out HB.out) | (with_reducible refine Kd.C_alloc ?_ _) | (with_reducible refine Kd.C_drewN ?_ _) | (with_reducible refine Kd.C_drew ?_))); (case side2 => exact HC2_3.out); rintro e w66 ⟨rfl, hb⟩; refine ⟨_, rfl, ?_⟩; have n0_ := Aside0.mk (blk_below (g := gb255) (o := .cells #[.string a0_0, .int .u32 a0_1, .int .u32 a0_2, .int .u64 a0_3] 40 (0, 0)) (by (with_reducible repeat (first | refine blk_drewN ?_ _ | refine blk_drew ?_ | refine blk_alloc ?_ _)); exact BK255.out) hb); have n1_ := Aside0.mk (blk_below (g := gb256) (o := .cells #[.int .u8 a2_0, .int .u8 a2_1, .int .u32 a2_2, .slice A2_3 l2_3.length c2_3, .string a2_4] 26 (0, 0)) (by (with_reducible repeat (first | refine blk_drewN ?_ _ | refine blk_drew ?_ | refine blk_alloc ?_ _)); exact BK256.out) hb); have n2_ := Aside0.mk (blk_below (g := gb257) (o := .cells #[.string (⟨#[]⟩ : ByteArray), .int .u32 0, .int .u32 0, .int .u64 0] 40 (0, 0)) (by (with_reducible repeat (first | refine blk_drewN ?_ _ | refine blk_drew ?_ | refine blk_alloc ?_ _)); exact BK257.out) hb); have n3_ := Aside0.mk (below_step (by repeat (first | (with_reducible first | exact HB.out | apply below_alloc | apply pw_below_drewN | apply below_drew1 | refine below_set ?_ GE255.out | refine below_set ?_ GE256.out | refine below_set ?_ GE257.out) | exact HB.out)) hb); clear BK255; clear BK256; clear BK257; clear HB; have BK255 := n0_; have BK256 := n1_; have BK257 := n2_; have HB := n3_; clear n0_ n1_ n2_ n3_; (try clear hb); (try clear hb2); (try clear hk); (try clear hi); have hcz67_0 : w66.cell? ⟨gb256, 0, none⟩ = some (.int .u8 a2_0) := (blk_cell BK256.out 0).trans rfl; have hcz67_1 : w66.cell? ⟨gb256, 1, none⟩ = some (.int .u8 a2_1) := (blk_cell BK256.out 1).trans rfl; have hcz67_2 : w66.cell? ⟨gb256, 2, none⟩ = some (.int .u32 a2_2) := (blk_cell BK256.out 2).trans rfl; have hcz67_3 : w66.cell? ⟨gb256, 3, none⟩ = some (.slice A2_3 l2_3.length c2_3) := (blk_cell BK256.out 3).trans rfl; have hcz67_4 : w66.cell? ⟨gb256, 4, none⟩ = some (.string a2_4) := (blk_cell BK256.out 4).trans rfl; have hfz67_0 := blk_frozen BK256.out 0; have hfz67_1 := blk_frozen BK256.out 1; have hfz67_2 := blk_frozen BK256.out 2; have hfz67_3 := blk_frozen BK256.out 3; have hfz67_4 := blk_frozen BK256.out 4; have hcz68_0 : w66.cell? ⟨gb255, 0, none⟩ = some (.string a0_0) := (blk_cell BK255.out 0).trans rfl; have hcz68_1 : w66.cell? ⟨gb255, 1, none⟩ = some (.int .u32 a0_1) := (blk_cell BK255.out 1).trans rfl; have hcz68_2 : w66.cell? ⟨gb255, 2, none⟩ = some (.int .u32 a0_2) := (blk_cell BK255.out 2).trans rfl; have hcz68_3 : w66.cell? ⟨gb255, 3, none⟩ = some (.int .u64 a0_3) := (blk_cell BK255.out 3).trans rfl; have hfz68_0 := blk_frozen BK255.out 0; have hfz68_1 := blk_frozen BK255.out 1; have hfz68_2 := blk_frozen BK255.out 2; have hfz68_3 := blk_frozen BK255.out 3) | ((with_reducible refine gate_callee (f := 35) rfl ?_); refine goesL_ (some 72) rfl rfl Try.func35 (by kernel_rfl) rfl #[.int .u64 1, .int .u32 ((a0_2 - a2_2) % 4294967296)] rfl (by (try simp only [List.map_toArray, List.map_cons, List.map_nil]); first | done | rfl | (simp only [List.length_drop, List.length_take]; rfl)) ?_; (with_reducible refine (chantryref06_shifted.calls kj3 1 ((a0_2 - a2_2) % 4294967296) t262 _ A40.out).mono ?_); rintro e w' ⟨rfl, ⟨nd, rfl⟩⟩; refine ⟨_, rfl, ?_⟩; (try (rw [drewN_self w66]; generalize hq_ : World.drewN w66 _ = w66; have n0_ : Aside0 (w66.heap[gb255]? = some (.cells #[.string a0_0, .int .u32 a0_1, .int .u32 a0_2, .int .u64 a0_3] 40 (0, 0))) := ⟨by rw [← hq_]; exact (by (with_reducible repeat (first | refine blk_drewN ?_ _ | refine blk_drew ?_ | refine blk_alloc ?_ _)); exact BK255.out)⟩; have n1_ : Aside0 (w66.heap[gb256]? = some (.cells #[.int .u8 a2_0, .int .u8 a2_1, .int .u32 a2_2, .slice A2_3 l2_3.length c2_3, .string a2_4] 26 (0, 0))) := ⟨by rw [← hq_]; exact (by (with_reducible repeat (first | refine blk_drewN ?_ _ | refine blk_drew ?_ | refine blk_alloc ?_ _)); exact BK256.out)⟩; have n2_ : Aside0 (w66.heap[gb257]? = some (.cells #[.string (⟨#[]⟩ : ByteArray), .int .u32 0, .int .u32 0, .int .u64 0] 40 (0, 0))) := ⟨by rw [← hq_]; exact (by (with_reducible repeat (first | refine blk_drewN ?_ _ | refine blk_drew ?_ | refine blk_alloc ?_ _)); exact BK257.out)⟩; have n3_ : Aside0 (Below w.heap.size w w66) := ⟨by rw [← hq_]; exact (by repeat (first | (with_reducible first | exact HB.out | apply below_alloc | apply pw_below_drewN | apply below_drew1 | refine below_set ?_ GE255.out | refine below_set ?_ GE256.out | refine below_set ?_ GE257.out) | exact HB.out))⟩; clear BK255 BK256 BK257 HB hq_; have BK255 := n0_; have BK256 := n1_; have BK257 := n2_; have HB := n3_; clear n0_ n1_ n2_ n3_)); have hcz69_0 : w66.cell? ⟨gb257, 0, none⟩ = some (.string (⟨#[]⟩ : ByteArray)) := (blk_cell BK257.out 0).trans rfl; have hcz69_1 : w66.cell? ⟨gb257, 1, none⟩ = some (.int .u32 0) := (blk_cell BK257.out 1).trans rfl; have hcz69_2 : w66.cell? ⟨gb257, 2, none⟩ = some (.int .u32 0) := (blk_cell BK257.out 2).trans rfl; have hcz69_3 : w66.cell? ⟨gb257, 3, none⟩ = some (.int .u64 0) := (blk_cell BK257.out 3).trans rfl; have hcy255_0 : w66.cell? ⟨gb255, 0, none⟩ = some (.string a0_0) := (blk_cell BK255.out 0).trans rfl; have hcy255_1 : w66.cell? ⟨gb255, 1, none⟩ = some (.int .u32 a0_1) := (blk_cell BK255.out 1).trans rfl; have hcy255_2 : w66.cell? ⟨gb255, 2, none⟩ = some (.int .u32 a0_2) := (blk_cell BK255.out 2).trans rfl; have hcy255_3 : w66.cell? ⟨gb255, 3, none⟩ = some (.int .u64 a0_3) := (blk_cell BK255.out 3).trans rfl; have hcy256_0 : w66.cell? ⟨gb256, 0, none⟩ = some (.int .u8 a2_0) := (blk_cell BK256.out 0).trans rfl; have hcy256_1 : w66.cell? ⟨gb256, 1, none⟩ = some (.int .u8 a2_1) := (blk_cell BK256.out 1).trans rfl; have hcy256_2 : w66.cell? ⟨gb256, 2, none⟩ = some (.int .u32 a2_2) := (blk_cell BK256.out 2).trans rfl; have hcy256_3 : w66.cell? ⟨gb256, 3, none⟩ = some (.slice A2_3 l2_3.length c2_3) := (blk_cell BK256.out 3).trans rfl; have hcy256_4 : w66.cell? ⟨gb256, 4, none⟩ = some (.string a2_4) := (blk_cell BK256.out 4).trans rfl; have hny1 := NB255_256.out; have hny2 := NB256_255.out; have hfy255_0 := blk_frozen BK255.out 0; have hfy255_1 := blk_frozen BK255.out 1; have hfy255_2 := blk_frozen BK255.out 2; have hfy255_3 := blk_frozen BK255.out 3; have hfz69_0 := blk_frozen BK257.out 0; have hfz69_1 := blk_frozen BK257.out 1; have hfz69_2 := blk_frozen BK257.out 2; have hfz69_3 := blk_frozen BK257.out 3))
                  refine bodyPost_ret (results_ct rfl _ _ gb257 40 #[.string a0_0, .int .u32 a0_1, .int .u32 a0_2, .int .u64 (IntKind.u64.wrap (a0_3 + t262))] (0, 0) _ rfl (by (with_reducible repeat (first | refine blk_drewN ?_ _ | refine blk_drew ?_ | refine blk_alloc ?_ _)); refine blk_put (cs := #[.string a0_0, .int .u32 a0_1, .int .u32 a0_2, .int .u64 0]) ?_ 3 _ rfl; (with_reducible repeat (first | refine blk_drewN ?_ _ | refine blk_drew ?_ | refine blk_alloc ?_ _)); refine blk_put (cs := #[.string a0_0, .int .u32 a0_1, .int .u32 0, .int .u64 0]) ?_ 2 _ rfl; (with_reducible repeat (first | refine blk_drewN ?_ _ | refine blk_drew ?_ | refine blk_alloc ?_ _)); refine blk_put (cs := #[.string a0_0, .int .u32 0, .int .u32 0, .int .u64 0]) ?_ 1 _ rfl; (with_reducible repeat (first | refine blk_drewN ?_ _ | refine blk_drew ?_ | refine blk_alloc ?_ _)); refine blk_put (cs := #[.string (⟨#[]⟩ : ByteArray), .int .u32 0, .int .u32 0, .int .u64 0]) ?_ 0 _ rfl; (with_reducible repeat (first | refine blk_drewN ?_ _ | refine blk_drew ?_ | refine blk_alloc ?_ _)); refine blk_far ?_ NB257_255.out _; (with_reducible repeat (first | refine blk_drewN ?_ _ | refine blk_drew ?_ | refine blk_alloc ?_ _)); exact BK257.out) Try.underlying40 rfl (by kernel_rfl)) rfl ?_
                  exact ⟨by first | rfl | (simp [errW_none, errW_some] <;> rfl) | (simp [*, errW_none, errW_some] <;> rfl), by repeat (first | (with_reducible first | exact HB.out | apply below_alloc | apply pw_below_drewN | apply below_drew1 | refine below_set ?_ GE255.out | refine below_set ?_ GE256.out | refine below_set ?_ GE257.out) | exact HB.out)⟩
          · rw [if_neg c28] at H
            have c28b0 : (t259.toList == a2_4.toList) = false := beq_eq_false_iff_ne.mpr c28
            have c28b1 : (t259.toList != a2_4.toList) = true := bne_iff_ne.mpr c28
            simp only [Option.some.injEq, Prod.mk.injEq] at H
            obtain ⟨rfl, rfl, rfl, rfl, rfl⟩ := H
            have hnb70 := NB255_256.out
            have hnc70 := NB256_255.out
            have hnb71 := NB255_257.out
            have hnc71 := NB257_255.out
            have hcz72_0 : wc.cell? ⟨gb255, 0, none⟩ = some (.string a0_0) := (blk_cell BK255.out 0).trans rfl
            have hcz72_1 : wc.cell? ⟨gb255, 1, none⟩ = some (.int .u32 a0_1) := (blk_cell BK255.out 1).trans rfl
            have hcz72_2 : wc.cell? ⟨gb255, 2, none⟩ = some (.int .u32 a0_2) := (blk_cell BK255.out 2).trans rfl
            have hcz72_3 : wc.cell? ⟨gb255, 3, none⟩ = some (.int .u64 a0_3) := (blk_cell BK255.out 3).trans rfl
            have hfz72_0 := blk_frozen BK255.out 0
            have hfz72_1 := blk_frozen BK255.out 1
            have hfz72_2 := blk_frozen BK255.out 2
            have hfz72_3 := blk_frozen BK255.out 3
            have hnb73 := NB256_257.out
            have hnc73 := NB257_256.out
            have hcz74_0 : wc.cell? ⟨gb256, 0, none⟩ = some (.int .u8 a2_0) := (blk_cell BK256.out 0).trans rfl
            have hcz74_1 : wc.cell? ⟨gb256, 1, none⟩ = some (.int .u8 a2_1) := (blk_cell BK256.out 1).trans rfl
            have hcz74_2 : wc.cell? ⟨gb256, 2, none⟩ = some (.int .u32 a2_2) := (blk_cell BK256.out 2).trans rfl
            have hcz74_3 : wc.cell? ⟨gb256, 3, none⟩ = some (.slice A2_3 l2_3.length c2_3) := (blk_cell BK256.out 3).trans rfl
            have hcz74_4 : wc.cell? ⟨gb256, 4, none⟩ = some (.string a2_4) := (blk_cell BK256.out 4).trans rfl
            have hfz74_0 := blk_frozen BK256.out 0
            have hfz74_1 := blk_frozen BK256.out 1
            have hfz74_2 := blk_frozen BK256.out 2
            have hfz74_3 := blk_frozen BK256.out 3
            have hfz74_4 := blk_frozen BK256.out 4
            go_wp2_with (first | ((with_reducible refine gate_callee (f := 16) rfl ?_); refine goesL_ (some 33) rfl rfl Try.func16 (by kernel_rfl) rfl #[.string a0_0, .agg #[.int .u8 a2_0, .int .u8 a2_1, .int .u32 a2_2, .slice A2_3 l2_3.length c2_3, .string a2_4]] rfl (by (try simp only [List.map_toArray, List.map_cons, List.map_nil]); first | done | rfl | (simp only [List.length_drop, List.length_take]; rfl)) ?_; (with_reducible refine (chantryref06_Tag.calls kj3 a0_0 a2_0 a2_1 a2_2 _ _ l2_3 a2_4 t259 t260 _ ?side1 ?side2 A26.out).mono ?_); (case side1 => repeat (first | exact (Kd.C_below HR2_3.out HB.out) | (with_reducible refine Kd.C_alloc ?_ _) | (with_reducible refine Kd.C_drewN ?_ _) | (with_reducible refine Kd.C_drew ?_))); (case side2 => exact HC2_3.out); rintro e w75 ⟨rfl, hb⟩; refine ⟨_, rfl, ?_⟩; have n0_ := Aside0.mk (blk_below (g := gb255) (o := .cells #[.string a0_0, .int .u32 a0_1, .int .u32 a0_2, .int .u64 a0_3] 40 (0, 0)) (by (with_reducible repeat (first | refine blk_drewN ?_ _ | refine blk_drew ?_ | refine blk_alloc ?_ _)); exact BK255.out) hb); have n1_ := Aside0.mk (blk_below (g := gb256) (o := .cells #[.int .u8 a2_0, .int .u8 a2_1, .int .u32 a2_2, .slice A2_3 l2_3.length c2_3, .string a2_4] 26 (0, 0)) (by (with_reducible repeat (first | refine blk_drewN ?_ _ | refine blk_drew ?_ | refine blk_alloc ?_ _)); exact BK256.out) hb); have n2_ := Aside0.mk (blk_below (g := gb257) (o := .cells #[.string (⟨#[]⟩ : ByteArray), .int .u32 0, .int .u32 0, .int .u64 0] 40 (0, 0)) (by (with_reducible repeat (first | refine blk_drewN ?_ _ | refine blk_drew ?_ | refine blk_alloc ?_ _)); exact BK257.out) hb); have n3_ := Aside0.mk (below_step (by repeat (first | (with_reducible first | exact HB.out | apply below_alloc | apply pw_below_drewN | apply below_drew1 | refine below_set ?_ GE255.out | refine below_set ?_ GE256.out | refine below_set ?_ GE257.out) | exact HB.out)) hb); clear BK255; clear BK256; clear BK257; clear HB; have BK255 := n0_; have BK256 := n1_; have BK257 := n2_; have HB := n3_; clear n0_ n1_ n2_ n3_; (try clear hb); (try clear hb2); (try clear hk); (try clear hi); have hcz76_0 : w75.cell? ⟨gb256, 0, none⟩ = some (.int .u8 a2_0) := (blk_cell BK256.out 0).trans rfl; have hcz76_1 : w75.cell? ⟨gb256, 1, none⟩ = some (.int .u8 a2_1) := (blk_cell BK256.out 1).trans rfl; have hcz76_2 : w75.cell? ⟨gb256, 2, none⟩ = some (.int .u32 a2_2) := (blk_cell BK256.out 2).trans rfl; have hcz76_3 : w75.cell? ⟨gb256, 3, none⟩ = some (.slice A2_3 l2_3.length c2_3) := (blk_cell BK256.out 3).trans rfl; have hcz76_4 : w75.cell? ⟨gb256, 4, none⟩ = some (.string a2_4) := (blk_cell BK256.out 4).trans rfl; have hfz76_0 := blk_frozen BK256.out 0; have hfz76_1 := blk_frozen BK256.out 1; have hfz76_2 := blk_frozen BK256.out 2; have hfz76_3 := blk_frozen BK256.out 3; have hfz76_4 := blk_frozen BK256.out 4; have hcz77_0 : w75.cell? ⟨gb255, 0, none⟩ = some (.string a0_0) := (blk_cell BK255.out 0).trans rfl; have hcz77_1 : w75.cell? ⟨gb255, 1, none⟩ = some (.int .u32 a0_1) := (blk_cell BK255.out 1).trans rfl; have hcz77_2 : w75.cell? ⟨gb255, 2, none⟩ = some (.int .u32 a0_2) := (blk_cell BK255.out 2).trans rfl; have hcz77_3 : w75.cell? ⟨gb255, 3, none⟩ = some (.int .u64 a0_3) := (blk_cell BK255.out 3).trans rfl; have hfz77_0 := blk_frozen BK255.out 0; have hfz77_1 := blk_frozen BK255.out 1; have hfz77_2 := blk_frozen BK255.out 2; have hfz77_3 := blk_frozen BK255.out 3; have hcz78_0 : w75.cell? ⟨gb257, 0, none⟩ = some (.string (⟨#[]⟩ : ByteArray)) := (blk_cell BK257.out 0).trans rfl; have hcz78_1 : w75.cell? ⟨gb257, 1, none⟩ = some (.int .u32 0) := (blk_cell BK257.out 1).trans rfl; have hcz78_2 : w75.cell? ⟨gb257, 2, none⟩ = some (.int .u32 0) := (blk_cell BK257.out 2).trans rfl; have hcz78_3 : w75.cell? ⟨gb257, 3, none⟩ = some (.int .u64 0) := (blk_cell BK257.out 3).trans rfl; have hfz78_0 := blk_frozen BK257.out 0; have hfz78_1 := blk_frozen BK257.out 1; have hfz78_2 := blk_frozen BK257.out 2; have hfz78_3 := blk_frozen BK257.out 3))
            refine bodyPost_ret (results_ct rfl _ _ gb257 40 #[.string a0_0, .int .u32 a0_1, .int .u32 a0_2, .int .u64 a0_3] (0, 0) _ rfl (by (with_reducible repeat (first | refine blk_drewN ?_ _ | refine blk_drew ?_ | refine blk_alloc ?_ _)); refine blk_put (cs := #[.string a0_0, .int .u32 a0_1, .int .u32 a0_2, .int .u64 0]) ?_ 3 _ rfl; (with_reducible repeat (first | refine blk_drewN ?_ _ | refine blk_drew ?_ | refine blk_alloc ?_ _)); refine blk_put (cs := #[.string a0_0, .int .u32 a0_1, .int .u32 0, .int .u64 0]) ?_ 2 _ rfl; (with_reducible repeat (first | refine blk_drewN ?_ _ | refine blk_drew ?_ | refine blk_alloc ?_ _)); refine blk_put (cs := #[.string a0_0, .int .u32 0, .int .u32 0, .int .u64 0]) ?_ 1 _ rfl; (with_reducible repeat (first | refine blk_drewN ?_ _ | refine blk_drew ?_ | refine blk_alloc ?_ _)); refine blk_put (cs := #[.string (⟨#[]⟩ : ByteArray), .int .u32 0, .int .u32 0, .int .u64 0]) ?_ 0 _ rfl; (with_reducible repeat (first | refine blk_drewN ?_ _ | refine blk_drew ?_ | refine blk_alloc ?_ _)); exact BK257.out) Try.underlying40 rfl (by kernel_rfl)) rfl ?_
            exact ⟨by first | rfl | (simp [errW_none, errW_some] <;> rfl) | (simp [*, errW_none, errW_some] <;> rfl), by repeat (first | (with_reducible first | exact HB.out | apply below_alloc | apply pw_below_drewN | apply below_drew1 | refine below_set ?_ GE255.out | refine below_set ?_ GE256.out | refine below_set ?_ GE257.out) | exact HB.out)⟩
        · rw [if_neg c27] at H
          have c27b0 : (t260 == 0) = false := beq_eq_false_iff_ne.mpr c27
          have c27b1 : (t260 != 0) = true := bne_iff_ne.mpr c27
          simp only [Option.some.injEq, Prod.mk.injEq] at H
          obtain ⟨rfl, rfl, rfl, rfl, rfl⟩ := H
          have hnb79 := NB255_256.out
          have hnc79 := NB256_255.out
          have hnb80 := NB255_257.out
          have hnc80 := NB257_255.out
          have hcz81_0 : wc.cell? ⟨gb255, 0, none⟩ = some (.string a0_0) := (blk_cell BK255.out 0).trans rfl
          have hcz81_1 : wc.cell? ⟨gb255, 1, none⟩ = some (.int .u32 a0_1) := (blk_cell BK255.out 1).trans rfl
          have hcz81_2 : wc.cell? ⟨gb255, 2, none⟩ = some (.int .u32 a0_2) := (blk_cell BK255.out 2).trans rfl
          have hcz81_3 : wc.cell? ⟨gb255, 3, none⟩ = some (.int .u64 a0_3) := (blk_cell BK255.out 3).trans rfl
          have hfz81_0 := blk_frozen BK255.out 0
          have hfz81_1 := blk_frozen BK255.out 1
          have hfz81_2 := blk_frozen BK255.out 2
          have hfz81_3 := blk_frozen BK255.out 3
          have hnb82 := NB256_257.out
          have hnc82 := NB257_256.out
          have hcz83_0 : wc.cell? ⟨gb256, 0, none⟩ = some (.int .u8 a2_0) := (blk_cell BK256.out 0).trans rfl
          have hcz83_1 : wc.cell? ⟨gb256, 1, none⟩ = some (.int .u8 a2_1) := (blk_cell BK256.out 1).trans rfl
          have hcz83_2 : wc.cell? ⟨gb256, 2, none⟩ = some (.int .u32 a2_2) := (blk_cell BK256.out 2).trans rfl
          have hcz83_3 : wc.cell? ⟨gb256, 3, none⟩ = some (.slice A2_3 l2_3.length c2_3) := (blk_cell BK256.out 3).trans rfl
          have hcz83_4 : wc.cell? ⟨gb256, 4, none⟩ = some (.string a2_4) := (blk_cell BK256.out 4).trans rfl
          have hfz83_0 := blk_frozen BK256.out 0
          have hfz83_1 := blk_frozen BK256.out 1
          have hfz83_2 := blk_frozen BK256.out 2
          have hfz83_3 := blk_frozen BK256.out 3
          have hfz83_4 := blk_frozen BK256.out 4
          go_wp2_with (first | ((with_reducible refine gate_callee (f := 16) rfl ?_); refine goesL_ (some 33) rfl rfl Try.func16 (by kernel_rfl) rfl #[.string a0_0, .agg #[.int .u8 a2_0, .int .u8 a2_1, .int .u32 a2_2, .slice A2_3 l2_3.length c2_3, .string a2_4]] rfl (by (try simp only [List.map_toArray, List.map_cons, List.map_nil]); first | done | rfl | (simp only [List.length_drop, List.length_take]; rfl)) ?_; (with_reducible refine (chantryref06_Tag.calls kj3 a0_0 a2_0 a2_1 a2_2 _ _ l2_3 a2_4 t259 t260 _ ?side1 ?side2 A26.out).mono ?_); (case side1 => repeat (first | exact (Kd.C_below HR2_3.out HB.out) | (with_reducible refine Kd.C_alloc ?_ _) | (with_reducible refine Kd.C_drewN ?_ _) | (with_reducible refine Kd.C_drew ?_))); (case side2 => exact HC2_3.out); rintro e w84 ⟨rfl, hb⟩; refine ⟨_, rfl, ?_⟩; have n0_ := Aside0.mk (blk_below (g := gb255) (o := .cells #[.string a0_0, .int .u32 a0_1, .int .u32 a0_2, .int .u64 a0_3] 40 (0, 0)) (by (with_reducible repeat (first | refine blk_drewN ?_ _ | refine blk_drew ?_ | refine blk_alloc ?_ _)); exact BK255.out) hb); have n1_ := Aside0.mk (blk_below (g := gb256) (o := .cells #[.int .u8 a2_0, .int .u8 a2_1, .int .u32 a2_2, .slice A2_3 l2_3.length c2_3, .string a2_4] 26 (0, 0)) (by (with_reducible repeat (first | refine blk_drewN ?_ _ | refine blk_drew ?_ | refine blk_alloc ?_ _)); exact BK256.out) hb); have n2_ := Aside0.mk (blk_below (g := gb257) (o := .cells #[.string (⟨#[]⟩ : ByteArray), .int .u32 0, .int .u32 0, .int .u64 0] 40 (0, 0)) (by (with_reducible repeat (first | refine blk_drewN ?_ _ | refine blk_drew ?_ | refine blk_alloc ?_ _)); exact BK257.out) hb); have n3_ := Aside0.mk (below_step (by repeat (first | (with_reducible first | exact HB.out | apply below_alloc | apply pw_below_drewN | apply below_drew1 | refine below_set ?_ GE255.out | refine below_set ?_ GE256.out | refine below_set ?_ GE257.out) | exact HB.out)) hb); clear BK255; clear BK256; clear BK257; clear HB; have BK255 := n0_; have BK256 := n1_; have BK257 := n2_; have HB := n3_; clear n0_ n1_ n2_ n3_; (try clear hb); (try clear hb2); (try clear hk); (try clear hi); have hcz85_0 : w84.cell? ⟨gb255, 0, none⟩ = some (.string a0_0) := (blk_cell BK255.out 0).trans rfl; have hcz85_1 : w84.cell? ⟨gb255, 1, none⟩ = some (.int .u32 a0_1) := (blk_cell BK255.out 1).trans rfl; have hcz85_2 : w84.cell? ⟨gb255, 2, none⟩ = some (.int .u32 a0_2) := (blk_cell BK255.out 2).trans rfl; have hcz85_3 : w84.cell? ⟨gb255, 3, none⟩ = some (.int .u64 a0_3) := (blk_cell BK255.out 3).trans rfl; have hfz85_0 := blk_frozen BK255.out 0; have hfz85_1 := blk_frozen BK255.out 1; have hfz85_2 := blk_frozen BK255.out 2; have hfz85_3 := blk_frozen BK255.out 3; have hcz86_0 : w84.cell? ⟨gb257, 0, none⟩ = some (.string (⟨#[]⟩ : ByteArray)) := (blk_cell BK257.out 0).trans rfl; have hcz86_1 : w84.cell? ⟨gb257, 1, none⟩ = some (.int .u32 0) := (blk_cell BK257.out 1).trans rfl; have hcz86_2 : w84.cell? ⟨gb257, 2, none⟩ = some (.int .u32 0) := (blk_cell BK257.out 2).trans rfl; have hcz86_3 : w84.cell? ⟨gb257, 3, none⟩ = some (.int .u64 0) := (blk_cell BK257.out 3).trans rfl; have hfz86_0 := blk_frozen BK257.out 0; have hfz86_1 := blk_frozen BK257.out 1; have hfz86_2 := blk_frozen BK257.out 2; have hfz86_3 := blk_frozen BK257.out 3))
          refine bodyPost_ret (results_ct rfl _ _ gb257 40 #[.string a0_0, .int .u32 a0_1, .int .u32 a0_2, .int .u64 a0_3] (0, 0) _ rfl (by (with_reducible repeat (first | refine blk_drewN ?_ _ | refine blk_drew ?_ | refine blk_alloc ?_ _)); refine blk_put (cs := #[.string a0_0, .int .u32 a0_1, .int .u32 a0_2, .int .u64 0]) ?_ 3 _ rfl; (with_reducible repeat (first | refine blk_drewN ?_ _ | refine blk_drew ?_ | refine blk_alloc ?_ _)); refine blk_put (cs := #[.string a0_0, .int .u32 a0_1, .int .u32 0, .int .u64 0]) ?_ 2 _ rfl; (with_reducible repeat (first | refine blk_drewN ?_ _ | refine blk_drew ?_ | refine blk_alloc ?_ _)); refine blk_put (cs := #[.string a0_0, .int .u32 0, .int .u32 0, .int .u64 0]) ?_ 1 _ rfl; (with_reducible repeat (first | refine blk_drewN ?_ _ | refine blk_drew ?_ | refine blk_alloc ?_ _)); refine blk_put (cs := #[.string (⟨#[]⟩ : ByteArray), .int .u32 0, .int .u32 0, .int .u64 0]) ?_ 0 _ rfl; (with_reducible repeat (first | refine blk_drewN ?_ _ | refine blk_drew ?_ | refine blk_alloc ?_ _)); exact BK257.out) Try.underlying40 rfl (by kernel_rfl)) rfl ?_
          exact ⟨by first | rfl | (simp [errW_none, errW_some] <;> rfl) | (simp [*, errW_none, errW_some] <;> rfl), by repeat (first | (with_reducible first | exact HB.out | apply below_alloc | apply pw_below_drewN | apply below_drew1 | refine below_set ?_ GE255.out | refine below_set ?_ GE256.out | refine below_set ?_ GE257.out) | exact HB.out)⟩
end Go.Proofs.Ytimfhdpgkoonaaa.Pr

