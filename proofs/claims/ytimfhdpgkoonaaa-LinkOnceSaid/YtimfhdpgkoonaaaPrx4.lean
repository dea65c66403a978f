-- Written by a program of this repo (wip/printx.py) out of the translation; Lean checks it.
import Derived.Test.YtimfhdpgkoonaaaPrx0
import Derived.Test.YtimfhdpgkoonaaaPrx2
namespace Go.Proofs.Ytimfhdpgkoonaaa.Pr
open Go.RowKit Go.Proofs.YtimfhdpgkoonaaaW.PrintWords Go.Proofs.YtimfhdpgkoonaaaW.PrintLast Go.Proofs.YtimfhdpgkoonaaaW.PrintMore
attribute [local go_sem] max2_int min2_int max_two min_two max_three min_three max_four min_four   -- for this text's walks alone
set_option linter.unusedVariables false
set_option linter.unusedSimpArgs false

theorem shift_shl {P : Program} (W : World) (x y : Int) (h : 0 ≤ y) : Sem.run P (Op.shift .shl .u64 x .u32 y) W = .ok (.int .u64 (shl .u64 x y)) W := by
  unfold Op.shift shl
  rw [if_neg (by omega)]
  rfl
theorem shift_shr {P : Program} (W : World) (x y : Int) (h : 0 ≤ y) : Sem.run P (Op.shift .shr .u64 x .u32 y) W = .ok (.int .u64 (shr .u64 x y)) W := by
  unfold Op.shift shr
  rw [if_neg (by omega)]
  show Result.ok (Value.int .u64 (x.fdiv (2 ^ min y.toNat 64))) W = _
  rw [Int.fdiv_eq_ediv_of_nonneg _ (by exact Int.le_of_lt (Int.pow_pos (by decide)))]
  rfl
/-! ### link_Accept: function 19 -/
def link_Accept.j0 : Nat → Bool → ByteArray → Int → Int → Int → Int → Int → Int → List Int → ByteArray → Option (ByteArray × Int × Int × Int × Int)
  | 0, _, _, _, _, _, _, _, _, _, _ => none
  | k + 1, x27, x133000, x133001, x133002, x133003, x134000, x134001, x134002, x134003, x134004 => if x27 = true then (some (x133000, x133001, x133002, x133003, 2)) else ((link_Tag.f x133000 x134000 x134001 x134002 x134003 x134004).bind fun bt136 => (if bt136.2 = 0 then (if bt136.1.toList = x134004.toList then (if x134002 > x133002 then (some (x133000, x133001, x134002, Go.bits .or .u64 (shl .u64 x133003 ((x134002 - x133002) % 4294967296)) 1, 0)) else (if ((x133002 - x134002) % 4294967296) ≥ 64 then (some (x133000, x133001, x133002, x133003, 6)) else (if (Go.bits .and .u64 (shr .u64 x133003 ((x133002 - x134002) % 4294967296)) 1) = 1 then (some (x133000, x133001, x133002, x133003, 6)) else (some (x133000, x133001, x133002, Go.bits .or .u64 x133003 (shl .u64 1 ((x133002 - x134002) % 4294967296)), 0))))) else (some (x133000, x133001, x133002, x133003, 5))) else (some (x133000, x133001, x133002, x133003, bt136.2))))
def link_Accept.f (k : Nat) (a0_0 : ByteArray) (a0_1 : Int) (a0_2 : Int) (a0_3 : Int) (a1 : Int) (a2_0 : Int) (a2_1 : Int) (a2_2 : Int) (l2_3 : List Int) (a2_4 : ByteArray) : Option (ByteArray × Int × Int × Int × Int) := if a2_1 = a1 then ((link_two.f a2_0 a2_1).bind fun t135 => (if t135 = true then (link_Accept.j0 k (a2_2 == 0) a0_0 a0_1 a0_2 a0_3 a2_0 a2_1 a2_2 l2_3 a2_4) else (link_Accept.j0 k true a0_0 a0_1 a0_2 a0_3 a2_0 a2_1 a2_2 l2_3 a2_4))) else (link_Accept.j0 k true a0_0 a0_1 a0_2 a0_3 a2_0 a2_1 a2_2 l2_3 a2_4)
theorem link_Accept.mono_l : ∀ k, (∀ y0 y1 y2 y3 y4 y5 y6 y7 y8 y9, LeO (link_Accept.j0 k y0 y1 y2 y3 y4 y5 y6 y7 y8 y9) (link_Accept.j0 (k + 1) y0 y1 y2 y3 y4 y5 y6 y7 y8 y9))
  | 0 => fun _ _ _ _ _ _ _ _ _ _ r h => by simp [link_Accept.j0] at h
  | k + 1 => by
    have ih0 := link_Accept.mono_l k
    · intro y0 y1 y2 y3 y4 y5 y6 y7 y8 y9
      unfold link_Accept.j0
      repeat' first
      | (with_reducible exact ih0 _ _ _ _ _ _ _ _ _ _)
      | (with_reducible exact LeO.refl _)
      | (with_reducible exact LeO.none _)
      | (with_reducible refine LeO.ite ?_ ?_)
      | (with_reducible refine LeO.bind ?_ (fun _ => ?_))
      | exact ih0 _ _ _ _ _ _ _ _ _ _
      | exact LeO.none _
      | refine LeO.ite ?_ ?_
      | refine LeO.bind ?_ (fun _ => ?_)
theorem link_Accept.mono : ∀ a0 a1 a2 a3 a4 a5 a6 a7 a8 a9 k, LeO (link_Accept.f k a0 a1 a2 a3 a4 a5 a6 a7 a8 a9) (link_Accept.f (k + 1) a0 a1 a2 a3 a4 a5 a6 a7 a8 a9) := by
  intro a0 a1 a2 a3 a4 a5 a6 a7 a8 a9 k
  have ih0 := link_Accept.mono_l k
  unfold link_Accept.f
  repeat' first
      | (with_reducible exact ih0 _ _ _ _ _ _ _ _ _ _)
      | (with_reducible exact LeO.refl _)
      | (with_reducible exact LeO.none _)
      | (with_reducible refine LeO.ite ?_ ?_)
      | (with_reducible refine LeO.bind ?_ (fun _ => ?_))
      | exact ih0 _ _ _ _ _ _ _ _ _ _
      | exact LeO.none _
      | refine LeO.ite ?_ ?_
      | refine LeO.bind ?_ (fun _ => ?_)
set_option maxHeartbeats 8000000 in
set_option maxRecDepth 100000 in
theorem link_Accept.calls (k : Nat) (a0_0 : ByteArray) (a0_1 : Int) (a0_2 : Int) (a0_3 : Int) (a1 : Int) (a2_0 : Int) (a2_1 : Int) (a2_2 : Int) (A2_3 : Option Addr) (c2_3 : Nat) (l2_3 : List Int) (a2_4 : ByteArray) (r1 : ByteArray) (r2 : Int) (r3 : Int) (r4 : Int) (r5 : Int) (w : World) (hr2_3 : Kd.C (Kd.int .u8) w A2_3 l2_3.length l2_3) (hc2_3 : l2_3.length ≤ c2_3) (h : link_Accept.f k a0_0 a0_1 a0_2 a0_3 a1 a2_0 a2_1 a2_2 l2_3 a2_4 = some (r1, r2, r3, r4, r5)) :
    Calls Try.prog 19 #[.agg #[.string a0_0, .int .u32 a0_1, .int .u32 a0_2, .int .u64 a0_3], .int .u8 a1, .agg #[.int .u8 a2_0, .int .u8 a2_1, .int .u32 a2_2, .slice A2_3 l2_3.length c2_3, .string a2_4]] w fun e w' => e = .returned (.tuple #[.agg #[.string r1, .int .u32 r2, .int .u32 r3, .int .u64 r4], .int .i64 r5]) ∧ Below w.heap.size w w' := by
  have hu41 := Try.underlying41
  have hu35 := Try.underlying35
  have HR2_3 := Aside0.mk hr2_3
  have HC2_3 := Aside0.mk hc2_3
  clear hr2_3 hc2_3
  have HB := Aside0.mk (Below.refl w.heap.size w)
  have H : (if a2_1 = a1 then ((link_two.f a2_0 a2_1).bind fun t135 => (if t135 = true then (link_Accept.j0 k (a2_2 == 0) a0_0 a0_1 a0_2 a0_3 a2_0 a2_1 a2_2 l2_3 a2_4) else (link_Accept.j0 k true a0_0 a0_1 a0_2 a0_3 a2_0 a2_1 a2_2 l2_3 a2_4))) else (link_Accept.j0 k true a0_0 a0_1 a0_2 a0_3 a2_0 a2_1 a2_2 l2_3 a2_4)) = some (r1, r2, r3, r4, r5) := h
  clear h
  have HC4 := Aside0.mk H
  clear H
  go_enter Try.func19, Try.ntmps19
  go_upto_region 1 with (first | ((with_reducible refine gate_dst (N := 3) rfl ?_); refine box_event ?hg (N := 3) ?hd (cs := #[.string a0_0, .int .u32 a0_1, .int .u32 a0_2, .int .u64 a0_3]) (t := 41) ?hr ?_; (case hd => rfl); (case hg => rfl); (case hr => first | (go_simp; done) | (go_simp; rfl)); intro gb132 hg w5 hbox hb; have n0_ := Aside0.mk (below_step (by repeat (first | (with_reducible first | exact HB.out | apply below_alloc | apply pw_below_drewN | apply below_drew1) | exact HB.out)) hb); have n1_ := Aside0.mk (hbox); have n2_ := Aside0.mk ((by rw [hg]; exact (below_size (by repeat (first | (with_reducible first | exact HB.out | apply below_alloc | apply pw_below_drewN | apply below_drew1) | exact HB.out))) : w.heap.size ≤ gb132)); have n3_ := Aside0.mk ((by rw [hg]; exact (below_size (by repeat (first | (with_reducible first | exact HB.out | apply below_alloc | apply pw_below_drewN | apply below_drew1) | exact HB.out))) : w.heap.size ≤ gb132)); clear HB; have HB := n0_; have BK132 := n1_; have GW132 := n2_; have GE132 := n3_; clear n0_ n1_ n2_ n3_; clear hb hbox hg) | ((with_reducible refine gate_dst (N := 5) rfl ?_); refine box_event ?hg (N := 5) ?hd (cs := #[.int .u8 a2_0, .int .u8 a2_1, .int .u32 a2_2, .slice A2_3 l2_3.length c2_3, .string a2_4]) (t := 35) ?hr ?_; (case hd => rfl); (case hg => rfl); (case hr => first | (go_simp; done) | (go_simp; rfl)); intro gb133 hg w6 hbox hb; have n0_ := Aside0.mk (blk_below (g := gb132) (o := .cells #[.string a0_0, .int .u32 a0_1, .int .u32 a0_2, .int .u64 a0_3] 41 (0, 0)) (by (with_reducible repeat (first | refine blk_drewN ?_ _ | refine blk_drew ?_ | refine blk_alloc ?_ _)); exact BK132.out) hb); have n1_ := Aside0.mk (below_step (by repeat (first | (with_reducible first | exact HB.out | apply below_alloc | apply pw_below_drewN | apply below_drew1 | refine below_set ?_ GE132.out) | exact HB.out)) hb); have n2_ := Aside0.mk (hbox); have n3_ := Aside0.mk ((by rw [hg]; exact (below_size (by repeat (first | (with_reducible first | exact HB.out | apply below_alloc | apply pw_below_drewN | apply below_drew1 | refine below_set ?_ GE132.out) | exact HB.out))) : w.heap.size ≤ gb133)); have n4_ := Aside0.mk ((by rw [hg]; exact (below_size (by repeat (first | (with_reducible first | exact HB.out | apply below_alloc | apply pw_below_drewN | apply below_drew1 | refine below_set ?_ GE132.out) | exact HB.out))) : w.heap.size ≤ gb133)); have n5_ := Aside0.mk ((by rw [hg]; exact Nat.ne_of_lt (blk_lt (g := gb132) (o := .cells #[.string a0_0, .int .u32 a0_1, .int .u32 a0_2, .int .u64 a0_3] 41 (0, 0)) (by (with_reducible repeat (first | refine blk_drewN ?_ _ | refine blk_drew ?_ | refine blk_alloc ?_ _)); exact BK132.out)) : gb132 ≠ gb133)); have n6_ := Aside0.mk ((by rw [hg]; exact Nat.ne_of_gt (blk_lt (g := gb132) (o := .cells #[.string a0_0, .int .u32 a0_1, .int .u32 a0_2, .int .u64 a0_3] 41 (0, 0)) (by (with_reducible repeat (first | refine blk_drewN ?_ _ | refine blk_drew ?_ | refine blk_alloc ?_ _)); exact BK132.out)) : gb133 ≠ gb132)); clear BK132; clear HB; have BK132 := n0_; have HB := n1_; have BK133 := n2_; have GW133 := n3_; have GE133 := n4_; have NB132_133 := n5_; have NB133_132 := n6_; clear n0_ n1_ n2_ n3_ n4_ n5_ n6_; clear hb hbox hg) | ((with_reducible refine gate_dst (N := 6) rfl ?_); refine box_event ?hg (N := 6) ?hd (cs := #[.string (⟨#[]⟩ : ByteArray), .int .u32 0, .int .u32 0, .int .u64 0]) (t := 41) ?hr ?_; (case hd => rfl); (case hg => rfl); (case hr => first | (go_simp; done) | (go_simp; rfl)); intro gb134 hg w7 hbox hb; have n0_ := Aside0.mk (blk_below (g := gb132) (o := .cells #[.string a0_0, .int .u32 a0_1, .int .u32 a0_2, .int .u64 a0_3] 41 (0, 0)) (by (with_reducible repeat (first | refine blk_drewN ?_ _ | refine blk_drew ?_ | refine blk_alloc ?_ _)); exact BK132.out) hb); have n1_ := Aside0.mk (blk_below (g := gb133) (o := .cells #[.int .u8 a2_0, .int .u8 a2_1, .int .u32 a2_2, .slice A2_3 l2_3.length c2_3, .string a2_4] 35 (0, 0)) (by (with_reducible repeat (first | refine blk_drewN ?_ _ | refine blk_drew ?_ | refine blk_alloc ?_ _)); exact BK133.out) hb); have n2_ := Aside0.mk (below_step (by repeat (first | (with_reducible first | exact HB.out | apply below_alloc | apply pw_below_drewN | apply below_drew1 | refine below_set ?_ GE132.out | refine below_set ?_ GE133.out) | exact HB.out)) hb); have n3_ := Aside0.mk (hbox); have n4_ := Aside0.mk ((by rw [hg]; exact (below_size (by repeat (first | (with_reducible first | exact HB.out | apply below_alloc | apply pw_below_drewN | apply below_drew1 | refine below_set ?_ GE132.out | refine below_set ?_ GE133.out) | exact HB.out))) : w.heap.size ≤ gb134)); have n5_ := Aside0.mk ((by rw [hg]; exact (below_size (by repeat (first | (with_reducible first | exact HB.out | apply below_alloc | apply pw_below_drewN | apply below_drew1 | refine below_set ?_ GE132.out | refine below_set ?_ GE133.out) | exact HB.out))) : w.heap.size ≤ gb134)); have n6_ := Aside0.mk ((by rw [hg]; exact Nat.ne_of_lt (blk_lt (g := gb132) (o := .cells #[.string a0_0, .int .u32 a0_1, .int .u32 a0_2, .int .u64 a0_3] 41 (0, 0)) (by (with_reducible repeat (first | refine blk_drewN ?_ _ | refine blk_drew ?_ | refine blk_alloc ?_ _)); exact BK132.out)) : gb132 ≠ gb134)); have n7_ := Aside0.mk ((by rw [hg]; exact Nat.ne_of_gt (blk_lt (g := gb132) (o := .cells #[.string a0_0, .int .u32 a0_1, .int .u32 a0_2, .int .u64 a0_3] 41 (0, 0)) (by (with_reducible repeat (first | refine blk_drewN ?_ _ | refine blk_drew ?_ | refine blk_alloc ?_ _)); exact BK132.out)) : gb134 ≠ gb132)); have n8_ := Aside0.mk ((by rw [hg]; exact Nat.ne_of_lt (blk_lt (g := gb133) (o := .cells #[.int .u8 a2_0, .int .u8 a2_1, .int .u32 a2_2, .slice A2_3 l2_3.length c2_3, .string a2_4] 35 (0, 0)) (by (with_reducible repeat (first | refine blk_drewN ?_ _ | refine blk_drew ?_ | refine blk_alloc ?_ _)); exact BK133.out)) : gb133 ≠ gb134)); have n9_ := Aside0.mk ((by rw [hg]; exact Nat.ne_of_gt (blk_lt (g := gb133) (o := .cells #[.int .u8 a2_0, .int .u8 a2_1, .int .u32 a2_2, .slice A2_3 l2_3.length c2_3, .string a2_4] 35 (0, 0)) (by (with_reducible repeat (first | refine blk_drewN ?_ _ | refine blk_drew ?_ | refine blk_alloc ?_ _)); exact BK133.out)) : gb134 ≠ gb133)); clear BK132; clear BK133; clear HB; have BK132 := n0_; have BK133 := n1_; have HB := n2_; have BK134 := n3_; have GW134 := n4_; have GE134 := n5_; have NB132_134 := n6_; have NB134_132 := n7_; have NB133_134 := n8_; have NB134_133 := n9_; clear n0_ n1_ n2_ n3_ n4_ n5_ n6_ n7_ n8_ n9_; clear hb hbox hg))
  (try simp only [Act.put, List.setIfInBounds_toArray, List.set_cons_zero, List.set_cons_succ])
  go_cut [27] (fun v27 wc => ∃ (kq : Nat) (x27_3 : Bool), v27 = .bool x27_3 ∧ Aside0 (link_Accept.j0 kq x27_3 a0_0 a0_1 a0_2 a0_3 a2_0 a2_1 a2_2 l2_3 a2_4 = some (r1, r2, r3, r4, r5)) ∧ Aside0 (kq ≤ k) ∧ Aside0 (wc.heap[gb132]? = some (.cells #[.string a0_0, .int .u32 a0_1, .int .u32 a0_2, .int .u64 a0_3] 41 (0, 0))) ∧ Aside0 (wc.heap[gb133]? = some (.cells #[.int .u8 a2_0, .int .u8 a2_1, .int .u32 a2_2, (.slice A2_3 l2_3.length c2_3), .string a2_4] 35 (0, 0))) ∧ Aside0 (wc.heap[gb134]? = some (.cells #[.string (⟨#[]⟩ : ByteArray), .int .u32 0, .int .u32 0, .int .u64 0] 41 (0, 0))) ∧ Aside0 (Below w.heap.size w wc))
  case first =>
    have H := HC4.out
    clear HC4
    by_cases c8 : a2_1 = a1
    · rw [if_pos c8] at H
      have c8b0 : (a2_1 == a1) = true := beq_iff_eq.mpr c8
      have c8b1 : (a2_1 != a1) = false := bne_eq_false_iff_eq.mpr c8
      clear c8
      (first | rw [c8b0] | (simp only [i64_w, i32_w]; rw [c8b0]) | skip)
      replace H := Option.bind_eq_some_iff.mp H
      obtain ⟨t135, A90, H⟩ := H
      replace H : (if t135 = true then (link_Accept.j0 k (a2_2 == 0) a0_0 a0_1 a0_2 a0_3 a2_0 a2_1 a2_2 l2_3 a2_4) else (link_Accept.j0 k true a0_0 a0_1 a0_2 a0_3 a2_0 a2_1 a2_2 l2_3 a2_4)) = some (r1, r2, r3, r4, r5) := H
      have A9 := Aside0.mk A90
      clear A90
      by_cases c10 : t135 = true
      · subst c10
        have H1 : (link_Accept.j0 k (a2_2 == 0) a0_0 a0_1 a0_2 a0_3 a2_0 a2_1 a2_2 l2_3 a2_4) = some (r1, r2, r3, r4, r5) := by rw [if_pos rfl] at H; exact H
        clear H
        have H := H1
        clear H1
        have H' := Aside0.mk H
        clear H
        have hnb11 := NB133_132.out
        have hnc11 := NB132_133.out
        have hnb12 := NB133_134.out
        have hnc12 := NB134_133.out
        have hcz13_0 : w7.cell? ⟨gb133, 0, none⟩ = some (.int .u8 a2_0) := (blk_cell BK133.out 0).trans rfl
        have hcz13_1 : w7.cell? ⟨gb133, 1, none⟩ = some (.int .u8 a2_1) := (blk_cell BK133.out 1).trans rfl
        have hcz13_2 : w7.cell? ⟨gb133, 2, none⟩ = some (.int .u32 a2_2) := (blk_cell BK133.out 2).trans rfl
        have hcz13_3 : w7.cell? ⟨gb133, 3, none⟩ = some (.slice A2_3 l2_3.length c2_3) := (blk_cell BK133.out 3).trans rfl
        have hcz13_4 : w7.cell? ⟨gb133, 4, none⟩ = some (.string a2_4) := (blk_cell BK133.out 4).trans rfl
        have hfz13_0 := blk_frozen BK133.out 0
        have hfz13_1 := blk_frozen BK133.out 1
        have hfz13_2 := blk_frozen BK133.out 2
        have hfz13_3 := blk_frozen BK133.out 3
        have hfz13_4 := blk_frozen BK133.out 4
        go_wp2_with (first | (go_at_call 25; (with_reducible refine (link_two.calls a2_0 a2_1 true _ A9.out).mono ?_); rintro e w' ⟨rfl, ⟨nd, rfl⟩⟩))
        go_meet
        case rel => exact ⟨_, ((a2_2 == 0)), (by first | rfl | (simp; done) | (simp [*]; done)), H', ⟨by first | omega | exact Nat.le_refl _⟩, ⟨by (with_reducible repeat (first | refine blk_drewN ?_ _ | refine blk_drew ?_ | refine blk_alloc ?_ _)); exact BK132.out⟩, ⟨by (with_reducible repeat (first | refine blk_drewN ?_ _ | refine blk_drew ?_ | refine blk_alloc ?_ _)); exact BK133.out⟩, ⟨by (with_reducible repeat (first | refine blk_drewN ?_ _ | refine blk_drew ?_ | refine blk_alloc ?_ _)); exact BK134.out⟩, ⟨by repeat (first | (with_reducible first | exact HB.out | apply below_alloc | apply pw_below_drewN | apply below_drew1 | refine below_set ?_ GE132.out | refine below_set ?_ GE133.out | refine below_set ?_ GE134.out) | exact HB.out)⟩⟩
      · replace c10 := Bool.eq_false_iff.mpr c10
        subst c10
        have H1 : (link_Accept.j0 k true a0_0 a0_1 a0_2 a0_3 a2_0 a2_1 a2_2 l2_3 a2_4) = some (r1, r2, r3, r4, r5) := by rw [if_neg (show ¬ (false = true) by decide)] at H; exact H
        clear H
        have H := H1
        clear H1
        have H' := Aside0.mk H
        clear H
        have hnb14 := NB133_132.out
        have hnc14 := NB132_133.out
        have hnb15 := NB133_134.out
        have hnc15 := NB134_133.out
        have hcz16_0 : w7.cell? ⟨gb133, 0, none⟩ = some (.int .u8 a2_0) := (blk_cell BK133.out 0).trans rfl
        have hcz16_1 : w7.cell? ⟨gb133, 1, none⟩ = some (.int .u8 a2_1) := (blk_cell BK133.out 1).trans rfl
        have hcz16_2 : w7.cell? ⟨gb133, 2, none⟩ = some (.int .u32 a2_2) := (blk_cell BK133.out 2).trans rfl
        have hcz16_3 : w7.cell? ⟨gb133, 3, none⟩ = some (.slice A2_3 l2_3.length c2_3) := (blk_cell BK133.out 3).trans rfl
        have hcz16_4 : w7.cell? ⟨gb133, 4, none⟩ = some (.string a2_4) := (blk_cell BK133.out 4).trans rfl
        have hfz16_0 := blk_frozen BK133.out 0
        have hfz16_1 := blk_frozen BK133.out 1
        have hfz16_2 := blk_frozen BK133.out 2
        have hfz16_3 := blk_frozen BK133.out 3
        have hfz16_4 := blk_frozen BK133.out 4
        go_wp2_with (first | (go_at_call 25; (with_reducible refine (link_two.calls a2_0 a2_1 false _ A9.out).mono ?_); rintro e w' ⟨rfl, ⟨nd, rfl⟩⟩))
        go_meet
        case rel => exact ⟨_, (true), (by first | rfl | (simp; done) | (simp [*]; done)), H', ⟨by first | omega | exact Nat.le_refl _⟩, ⟨by (with_reducible repeat (first | refine blk_drewN ?_ _ | refine blk_drew ?_ | refine blk_alloc ?_ _)); exact BK132.out⟩, ⟨by (with_reducible repeat (first | refine blk_drewN ?_ _ | refine blk_drew ?_ | refine blk_alloc ?_ _)); exact BK133.out⟩, ⟨by (with_reducible repeat (first | refine blk_drewN ?_ _ | refine blk_drew ?_ | refine blk_alloc ?_ _)); exact BK134.out⟩, ⟨by repeat (first | (with_reducible first | exact HB.out | apply below_alloc | apply pw_below_drewN | apply below_drew1 | refine below_set ?_ GE132.out | refine below_set ?_ GE133.out | refine below_set ?_ GE134.out) | exact HB.out)⟩⟩
    · rw [if_neg c8] at H
      have c8b0 : (a2_1 == a1) = false := beq_eq_false_iff_ne.mpr c8
      have c8b1 : (a2_1 != a1) = true := bne_iff_ne.mpr c8
      (first | rw [c8b0] | (simp only [i64_w, i32_w]; rw [c8b0]) | skip)
      have H' := Aside0.mk H
      clear H
      have hnb17 := NB133_132.out
      have hnc17 := NB132_133.out
      have hnb18 := NB133_134.out
      have hnc18 := NB134_133.out
      have hcz19_0 : w7.cell? ⟨gb133, 0, none⟩ = some (.int .u8 a2_0) := (blk_cell BK133.out 0).trans rfl
      have hcz19_1 : w7.cell? ⟨gb133, 1, none⟩ = some (.int .u8 a2_1) := (blk_cell BK133.out 1).trans rfl
      have hcz19_2 : w7.cell? ⟨gb133, 2, none⟩ = some (.int .u32 a2_2) := (blk_cell BK133.out 2).trans rfl
      have hcz19_3 : w7.cell? ⟨gb133, 3, none⟩ = some (.slice A2_3 l2_3.length c2_3) := (blk_cell BK133.out 3).trans rfl
      have hcz19_4 : w7.cell? ⟨gb133, 4, none⟩ = some (.string a2_4) := (blk_cell BK133.out 4).trans rfl
      have hfz19_0 := blk_frozen BK133.out 0
      have hfz19_1 := blk_frozen BK133.out 1
      have hfz19_2 := blk_frozen BK133.out 2
      have hfz19_3 := blk_frozen BK133.out 3
      have hfz19_4 := blk_frozen BK133.out 4
      go_wp2
      go_meet
      case rel => exact ⟨_, (true), (by first | rfl | (simp; done) | (simp [*]; done)), H', ⟨by first | omega | exact Nat.le_refl _⟩, ⟨by (with_reducible repeat (first | refine blk_drewN ?_ _ | refine blk_drew ?_ | refine blk_alloc ?_ _)); exact BK132.out⟩, ⟨by (with_reducible repeat (first | refine blk_drewN ?_ _ | refine blk_drew ?_ | refine blk_alloc ?_ _)); exact BK133.out⟩, ⟨by (with_reducible repeat (first | refine blk_drewN ?_ _ | refine blk_drew ?_ | refine blk_alloc ?_ _)); exact BK134.out⟩, ⟨by repeat (first | (with_reducible first | exact HB.out | apply below_alloc | apply pw_below_drewN | apply below_drew1 | refine below_set ?_ GE132.out | refine below_set ?_ GE133.out | refine below_set ?_ GE134.out) | exact HB.out)⟩⟩
  case rest =>
    clear HC4
    try clear c1
    try clear c2
    try clear p2
    try clear c8
    try clear c8b0
    try clear c8b1
    try clear c10
    try clear c11
    try clear c12
    try clear c14
    try clear c15
    try clear c17
    try clear c18
    try clear c19
    try clear hcz13_0
    try clear hcz13_1
    try clear hcz13_2
    try clear hcz13_3
    try clear hcz13_4
    try clear hcz16_0
    try clear hcz16_1
    try clear hcz16_2
    try clear hcz16_3
    try clear hcz16_4
    try clear hcz19_0
    try clear hcz19_1
    try clear hcz19_2
    try clear hcz19_3
    try clear hcz19_4
    try clear hfz13_0
    try clear hfz13_1
    try clear hfz13_2
    try clear hfz13_3
    try clear hfz13_4
    try clear hfz16_0
    try clear hfz16_1
    try clear hfz16_2
    try clear hfz16_3
    try clear hfz16_4
    try clear hfz19_0
    try clear hfz19_1
    try clear hfz19_2
    try clear hfz19_3
    try clear hfz19_4
    obtain ⟨kq, x27_3, rfl, HA, HJ3, BK132, BK133, BK134, HB⟩ := hcut
    cases kq with
    | zero => exact absurd HA.out (by simp [link_Accept.j0])
    | succ kj3 =>
      have H := HA.out
      clear HA
      simp only [link_Accept.j0] at H
      by_cases c20 : x27_3 = true
      · subst c20
        have H1 : (some (a0_0, a0_1, a0_2, a0_3, 2)) = some (r1, r2, r3, r4, r5) := by rw [if_pos rfl] at H; exact H
        clear H
        have H := H1
        clear H1
        simp only [Option.some.injEq, Prod.mk.injEq] at H
        obtain ⟨rfl, rfl, rfl, rfl, rfl⟩ := H
        have hnb21 := NB132_133.out
        have hnc21 := NB133_132.out
        have hnb22 := NB132_134.out
        have hnc22 := NB134_132.out
        have hcz23_0 : wc.cell? ⟨gb132, 0, none⟩ = some (.string a0_0) := (blk_cell BK132.out 0).trans rfl
        have hcz23_1 : wc.cell? ⟨gb132, 1, none⟩ = some (.int .u32 a0_1) := (blk_cell BK132.out 1).trans rfl
        have hcz23_2 : wc.cell? ⟨gb132, 2, none⟩ = some (.int .u32 a0_2) := (blk_cell BK132.out 2).trans rfl
        have hcz23_3 : wc.cell? ⟨gb132, 3, none⟩ = some (.int .u64 a0_3) := (blk_cell BK132.out 3).trans rfl
        have hfz23_0 := blk_frozen BK132.out 0
        have hfz23_1 := blk_frozen BK132.out 1
        have hfz23_2 := blk_frozen BK132.out 2
        have hfz23_3 := blk_frozen BK132.out 3
        have hnb24 := NB134_133.out
        have hnc24 := NB133_134.out
        have hcz25_0 : wc.cell? ⟨gb134, 0, none⟩ = some (.string (⟨#[]⟩ : ByteArray)) := (blk_cell BK134.out 0).trans rfl
        have hcz25_1 : wc.cell? ⟨gb134, 1, none⟩ = some (.int .u32 0) := (blk_cell BK134.out 1).trans rfl
        have hcz25_2 : wc.cell? ⟨gb134, 2, none⟩ = some (.int .u32 0) := (blk_cell BK134.out 2).trans rfl
        have hcz25_3 : wc.cell? ⟨gb134, 3, none⟩ = some (.int .u64 0) := (blk_cell BK134.out 3).trans rfl
        have hfz25_0 := blk_frozen BK134.out 0
        have hfz25_1 := blk_frozen BK134.out 1
        have hfz25_2 := blk_frozen BK134.out 2
        have hfz25_3 := blk_frozen BK134.out 3
        go_wp2
        refine bodyPost_ret (results_ct rfl _ _ gb134 41 #[.string a0_0, .int .u32 a0_1, .int .u32 a0_2, .int .u64 a0_3] (0, 0) _ rfl (by (with_reducible repeat (first | refine blk_drewN ?_ _ | refine blk_drew ?_ | refine blk_alloc ?_ _)); refine blk_put (cs := #[.string a0_0, .int .u32 a0_1, .int .u32 a0_2, .int .u64 0]) ?_ 3 _ rfl; (with_reducible repeat (first | refine blk_drewN ?_ _ | refine blk_drew ?_ | refine blk_alloc ?_ _)); refine blk_put (cs := #[.string a0_0, .int .u32 a0_1, .int .u32 0, .int .u64 0]) ?_ 2 _ rfl; (with_reducible repeat (first | refine blk_drewN ?_ _ | refine blk_drew ?_ | refine blk_alloc ?_ _)); refine blk_put (cs := #[.string a0_0, .int .u32 0, .int .u32 0, .int .u64 0]) ?_ 1 _ rfl; (with_reducible repeat (first | refine blk_drewN ?_ _ | refine blk_drew ?_ | refine blk_alloc ?_ _)); refine blk_put (cs := #[.string (⟨#[]⟩ : ByteArray), .int .u32 0, .int .u32 0, .int .u64 0]) ?_ 0 _ rfl; (with_reducible repeat (first | refine blk_drewN ?_ _ | refine blk_drew ?_ | refine blk_alloc ?_ _)); exact BK134.out) Try.underlying41 rfl (by kernel_rfl)) rfl ?_
        exact ⟨by first | rfl | (simp [errW_none, errW_some] <;> rfl) | (simp [*, errW_none, errW_some] <;> rfl), by repeat (first | (with_reducible first | exact HB.out | apply below_alloc | apply pw_below_drewN | apply below_drew1 | refine below_set ?_ GE132.out | refine below_set ?_ GE133.out | refine below_set ?_ GE134.out) | exact HB.out)⟩
      · replace c20 := Bool.eq_false_iff.mpr c20
        subst c20
        have H1 : ((link_Tag.f a0_0 a2_0 a2_1 a2_2 l2_3 a2_4).bind fun bt136 => (if bt136.2 = 0 then (if bt136.1.toList = a2_4.toList then (if a2_2 > a0_2 then (some (a0_0, a0_1, a2_2, Go.bits .or .u64 (shl .u64 a0_3 ((a2_2 - a0_2) % 4294967296)) 1, 0)) else (if ((a0_2 - a2_2) % 4294967296) ≥ 64 then (some (a0_0, a0_1, a0_2, a0_3, 6)) else (if (Go.bits .and .u64 (shr .u64 a0_3 ((a0_2 - a2_2) % 4294967296)) 1) = 1 then (some (a0_0, a0_1, a0_2, a0_3, 6)) else (some (a0_0, a0_1, a0_2, Go.bits .or .u64 a0_3 (shl .u64 1 ((a0_2 - a2_2) % 4294967296)), 0))))) else (some (a0_0, a0_1, a0_2, a0_3, 5))) else (some (a0_0, a0_1, a0_2, a0_3, bt136.2)))) = some (r1, r2, r3, r4, r5) := by rw [if_neg (show ¬ (false = true) by decide)] at H; exact H
        clear H
        have H := H1
        clear H1
        replace H := Option.bind_eq_some_iff.mp H
        obtain ⟨⟨t136, t137⟩, A260, H⟩ := H
        replace H : (if t137 = 0 then (if t136.toList = a2_4.toList then (if a2_2 > a0_2 then (some (a0_0, a0_1, a2_2, Go.bits .or .u64 (shl .u64 a0_3 ((a2_2 - a0_2) % 4294967296)) 1, 0)) else (if ((a0_2 - a2_2) % 4294967296) ≥ 64 then (some (a0_0, a0_1, a0_2, a0_3, 6)) else (if (Go.bits .and .u64 (shr .u64 a0_3 ((a0_2 - a2_2) % 4294967296)) 1) = 1 then (some (a0_0, a0_1, a0_2, a0_3, 6)) else (some (a0_0, a0_1, a0_2, Go.bits .or .u64 a0_3 (shl .u64 1 ((a0_2 - a2_2) % 4294967296)), 0))))) else (some (a0_0, a0_1, a0_2, a0_3, 5))) else (some (a0_0, a0_1, a0_2, a0_3, t137))) = some (r1, r2, r3, r4, r5) := H
        have A26 := Aside0.mk A260
        clear A260
        by_cases c27 : t137 = 0
        · rw [if_pos c27] at H
          have c27b0 : (t137 == 0) = true := beq_iff_eq.mpr c27
          have c27b1 : (t137 != 0) = false := bne_eq_false_iff_eq.mpr c27
          clear c27
          by_cases c28 : t136.toList = a2_4.toList
          · rw [if_pos c28] at H
            have c28b0 : (t136.toList == a2_4.toList) = true := beq_iff_eq.mpr c28
            have c28b1 : (t136.toList != a2_4.toList) = false := bne_eq_false_iff_eq.mpr c28
            clear c28
            by_cases c29 : a2_2 > a0_2
            · rw [if_pos c29] at H
              have c29b0 : decide (a0_2 < a2_2) = true := decide_eq_true c29
              clear c29
              obtain ⟨ji30, hji30⟩ : ∃ j_ : Int, (shl .u64 a0_3 ((a2_2 - a0_2) % 4294967296)) = j_ := ⟨_, rfl⟩
              replace H : (some (a0_0, a0_1, a2_2, Go.bits .or .u64 (ji30) 1, 0)) = some (r1, r2, r3, r4, r5) := by first | (rw [hji30] at H; exact H) | (simp only [hji30] at H ⊢; exact H)
              (try rw [hji30] at A26)
              have hji30_ : (IntKind.u64.wrap (a0_3 * 2 ^ min ((a2_2 - a0_2) % 4294967296).toNat 64)) = ji30 := hji30
              have hji30z : ((a2_2 - a0_2) % 4294967296) ≤ 64 → (IntKind.u64.wrap (a0_3 * 2 ^ ((a2_2 - a0_2) % 4294967296).toNat)) = ji30 := shl_small hji30
              have hji30s : ∀ W : World, Sem.run Try.prog (Op.shift .shl .u64 a0_3 .u32 ((a2_2 - a0_2) % 4294967296)) W = .ok (.int .u64 ji30) W := fun W => by rw [← hji30]; exact shift_shl W a0_3 _ (by omega)
              simp only [Option.some.injEq, Prod.mk.injEq] at H
              obtain ⟨rfl, rfl, rfl, rfl, rfl⟩ := H
              have hnb31 := NB132_133.out
              have hnc31 := NB133_132.out
              have hnb32 := NB132_134.out
              have hnc32 := NB134_132.out
              have hcz33_0 : wc.cell? ⟨gb132, 0, none⟩ = some (.string a0_0) := (blk_cell BK132.out 0).trans rfl
              have hcz33_1 : wc.cell? ⟨gb132, 1, none⟩ = some (.int .u32 a0_1) := (blk_cell BK132.out 1).trans rfl
              have hcz33_2 : wc.cell? ⟨gb132, 2, none⟩ = some (.int .u32 a0_2) := (blk_cell BK132.out 2).trans rfl
              have hcz33_3 : wc.cell? ⟨gb132, 3, none⟩ = some (.int .u64 a0_3) := (blk_cell BK132.out 3).trans rfl
              have hfz33_0 := blk_frozen BK132.out 0
              have hfz33_1 := blk_frozen BK132.out 1
              have hfz33_2 := blk_frozen BK132.out 2
              have hfz33_3 := blk_frozen BK132.out 3
              have hnb34 := NB133_134.out
              have hnc34 := NB134_133.out
              have hcz35_0 : wc.cell? ⟨gb133, 0, none⟩ = some (.int .u8 a2_0) := (blk_cell BK133.out 0).trans rfl
              have hcz35_1 : wc.cell? ⟨gb133, 1, none⟩ = some (.int .u8 a2_1) := (blk_cell BK133.out 1).trans rfl
              have hcz35_2 : wc.cell? ⟨gb133, 2, none⟩ = some (.int .u32 a2_2) := (blk_cell BK133.out 2).trans rfl
              have hcz35_3 : wc.cell? ⟨gb133, 3, none⟩ = some (.slice A2_3 l2_3.length c2_3) := (blk_cell BK133.out 3).trans rfl
              have hcz35_4 : wc.cell? ⟨gb133, 4, none⟩ = some (.string a2_4) := (blk_cell BK133.out 4).trans rfl
              have hfz35_0 := blk_frozen BK133.out 0
              have hfz35_1 := blk_frozen BK133.out 1
              have hfz35_2 := blk_frozen BK133.out 2
              have hfz35_3 := blk_frozen BK133.out 3
              have hfz35_4 := blk_frozen BK133.out 4
              go_wp2_with (first | ((with_reducible refine gate_callee (f := 15) rfl ?_); refine goesL_ (some 33) rfl rfl Try.func15 (by kernel_rfl) rfl #[.string a0_0, .agg #[.int .u8 a2_0, .int .u8 a2_1, .int .u32 a2_2, .slice A2_3 l2_3.length c2_3, .string a2_4]] rfl (by (try simp only [List.map_toArray, List.map_cons, List.map_nil]); first | done | rfl | (simp only [List.length_drop, List.length_take]; rfl)) ?_; (with_reducible refine (link_Tag.calls a0_0 a2_0 a2_1 a2_2 _ _ l2_3 a2_4 t136 t137 _ ?side1 ?side2 A26.out).mono ?_); (case side1 => repeat (first | exact (Kd.C_below HR2_3.out HB.out) | (with_reducible refine Kd.C_alloc ?_ _) | (with_reducible refine Kd.C_drewN ?_ _) | (with_reducible refine Kd.C_drew ?_))); (case side2 => exact HC2_3.out); rintro e w36 ⟨rfl, hb⟩; refine ⟨_, rfl, ?_⟩; have n0_ := Aside0.mk (blk_below (g := gb132) (o := .cells #[.string a0_0, .int .u32 a0_1, .int .u32 a0_2, .int .u64 a0_3] 41 (0, 0)) (by (with_reducible repeat (first | refine blk_drewN ?_ _ | refine blk_drew ?_ | refine blk_alloc ?_ _)); exact BK132.out) hb); have n1_ := Aside0.mk (blk_below (g := gb133) (o := .cells #[.int .u8 a2_0, .int .u8 a2_1, .int .u32 a2_2, .slice A2_3 l2_3.length c2_3, .string a2_4] 35 (0, 0)) (by (with_reducible repeat (first | refine blk_drewN ?_ _ | refine blk_drew ?_ | refine blk_alloc ?_ _)); exact BK133.out) hb); have n2_ := Aside0.mk (blk_below (g := gb134) (o := .cells #[.string (⟨#[]⟩ : ByteArray), .int .u32 0, .int .u32 0, .int .u64 0] 41 (0, 0)) (by (with_reducible repeat (first | refine blk_drewN ?_ _ | refine blk_drew ?_ | refine blk_alloc ?_ _)); exact BK134.out) hb); have n3_ := Aside0.mk (below_step (by repeat (first | (with_reducible first | exact HB.out | apply below_alloc | apply pw_below_drewN | apply below_drew1 | refine below_set ?_ GE132.out | refine below_set ?_ GE133.out | refine below_set ?_ GE134.out) | exact HB.out)) hb); clear BK132; clear BK133; clear BK134; clear HB; have BK132 := n0_; have BK133 := n1_; have BK134 := n2_; have HB := n3_; clear n0_ n1_ n2_ n3_; (try clear hb); (try clear hb2); (try clear hk); (try clear hi); have hcz37_0 : w36.cell? ⟨gb133, 0, none⟩ = some (.int .u8 a2_0) := (blk_cell BK133.out 0).trans rfl; have hcz37_1 : w36.cell? ⟨gb133, 1, none⟩ = some (.int .u8 a2_1) := (blk_cell BK133.out 1).trans rfl; have hcz37_2 : w36.cell? ⟨gb133, 2, none⟩ = some (.int .u32 a2_2) := (blk_cell BK133.out 2).trans rfl; have hcz37_3 : w36.cell? ⟨gb133, 3, none⟩ = some (.slice A2_3 l2_3.length c2_3) := (blk_cell BK133.out 3).trans rfl; have hcz37_4 : w36.cell? ⟨gb133, 4, none⟩ = some (.string a2_4) := (blk_cell BK133.out 4).trans rfl; have hfz37_0 := blk_frozen BK133.out 0; have hfz37_1 := blk_frozen BK133.out 1; have hfz37_2 := blk_frozen BK133.out 2; have hfz37_3 := blk_frozen BK133.out 3; have hfz37_4 := blk_frozen BK133.out 4; have hcz38_0 : w36.cell? ⟨gb132, 0, none⟩ = some (.string a0_0) := (blk_cell BK132.out 0).trans rfl; have hcz38_1 : w36.cell? ⟨gb132, 1, none⟩ = some (.int .u32 a0_1) := (blk_cell BK132.out 1).trans rfl; have hcz38_2 : w36.cell? ⟨gb132, 2, none⟩ = some (.int .u32 a0_2) := (blk_cell BK132.out 2).trans rfl; have hcz38_3 : w36.cell? ⟨gb132, 3, none⟩ = some (.int .u64 a0_3) := (blk_cell BK132.out 3).trans rfl; have hfz38_0 := blk_frozen BK132.out 0; have hfz38_1 := blk_frozen BK132.out 1; have hfz38_2 := blk_frozen BK132.out 2; have hfz38_3 := blk_frozen BK132.out 3; have hcz39_0 : w36.cell? ⟨gb134, 0, none⟩ = some (.string (⟨#[]⟩ : ByteArray)) := (blk_cell BK134.out 0).trans rfl; have hcz39_1 : w36.cell? ⟨gb134, 1, none⟩ = some (.int .u32 0) := (blk_cell BK134.out 1).trans rfl; have hcz39_2 : w36.cell? ⟨gb134, 2, none⟩ = some (.int .u32 0) := (blk_cell BK134.out 2).trans rfl; have hcz39_3 : w36.cell? ⟨gb134, 3, none⟩ = some (.int .u64 0) := (blk_cell BK134.out 3).trans rfl; have hfz39_0 := blk_frozen BK134.out 0; have hfz39_1 := blk_frozen BK134.out 1; have hfz39_2 := blk_frozen BK134.out 2; have hfz39_3 := blk_frozen BK134.out 3))
              refine bodyPost_ret (results_ct rfl _ _ gb134 41 #[.string a0_0, .int .u32 a0_1, .int .u32 a2_2, .int .u64 (Go.bits .or .u64 (ji30) 1)] (0, 0) _ rfl (by (with_reducible repeat (first | refine blk_drewN ?_ _ | refine blk_drew ?_ | refine blk_alloc ?_ _)); refine blk_put (cs := #[.string a0_0, .int .u32 a0_1, .int .u32 a2_2, .int .u64 0]) ?_ 3 _ rfl; (with_reducible repeat (first | refine blk_drewN ?_ _ | refine blk_drew ?_ | refine blk_alloc ?_ _)); refine blk_put (cs := #[.string a0_0, .int .u32 a0_1, .int .u32 0, .int .u64 0]) ?_ 2 _ rfl; (with_reducible repeat (first | refine blk_drewN ?_ _ | refine blk_drew ?_ | refine blk_alloc ?_ _)); refine blk_put (cs := #[.string a0_0, .int .u32 0, .int .u32 0, .int .u64 0]) ?_ 1 _ rfl; (with_reducible repeat (first | refine blk_drewN ?_ _ | refine blk_drew ?_ | refine blk_alloc ?_ _)); refine blk_put (cs := #[.string (⟨#[]⟩ : ByteArray), .int .u32 0, .int .u32 0, .int .u64 0]) ?_ 0 _ rfl; (with_reducible repeat (first | refine blk_drewN ?_ _ | refine blk_drew ?_ | refine blk_alloc ?_ _)); refine blk_far ?_ NB134_132.out _; (with_reducible repeat (first | refine blk_drewN ?_ _ | refine blk_drew ?_ | refine blk_alloc ?_ _)); refine blk_far ?_ NB134_132.out _; (with_reducible repeat (first | refine blk_drewN ?_ _ | refine blk_drew ?_ | refine blk_alloc ?_ _)); exact BK134.out) Try.underlying41 rfl (by kernel_rfl)) rfl ?_
              exact ⟨by first | rfl | (simp [errW_none, errW_some] <;> rfl) | (simp only [← hji30]; first | rfl | (simp [errW_none, errW_some] <;> rfl)) | (simp [*, errW_none, errW_some] <;> rfl), by repeat (first | (with_reducible first | exact HB.out | apply below_alloc | apply pw_below_drewN | apply below_drew1 | refine below_set ?_ GE132.out | refine below_set ?_ GE133.out | refine below_set ?_ GE134.out) | exact HB.out)⟩
            · rw [if_neg c29] at H
              have c29b0 : decide (a0_2 < a2_2) = false := decide_eq_false c29
              clear c29
              by_cases c40 : ((a0_2 - a2_2) % 4294967296) ≥ 64
              · rw [if_pos c40] at H
                have c40b0 : decide (64 ≤ ((a0_2 - a2_2) % 4294967296)) = true := decide_eq_true c40
                clear c40
                simp only [Option.some.injEq, Prod.mk.injEq] at H
                obtain ⟨rfl, rfl, rfl, rfl, rfl⟩ := H
                have hnb41 := NB132_133.out
                have hnc41 := NB133_132.out
                have hnb42 := NB132_134.out
                have hnc42 := NB134_132.out
                have hcz43_0 : wc.cell? ⟨gb132, 0, none⟩ = some (.string a0_0) := (blk_cell BK132.out 0).trans rfl
                have hcz43_1 : wc.cell? ⟨gb132, 1, none⟩ = some (.int .u32 a0_1) := (blk_cell BK132.out 1).trans rfl
                have hcz43_2 : wc.cell? ⟨gb132, 2, none⟩ = some (.int .u32 a0_2) := (blk_cell BK132.out 2).trans rfl
                have hcz43_3 : wc.cell? ⟨gb132, 3, none⟩ = some (.int .u64 a0_3) := (blk_cell BK132.out 3).trans rfl
                have hfz43_0 := blk_frozen BK132.out 0
                have hfz43_1 := blk_frozen BK132.out 1
                have hfz43_2 := blk_frozen BK132.out 2
                have hfz43_3 := blk_frozen BK132.out 3
                have hnb44 := NB133_134.out
                have hnc44 := NB134_133.out
                have hcz45_0 : wc.cell? ⟨gb133, 0, none⟩ = some (.int .u8 a2_0) := (blk_cell BK133.out 0).trans rfl
                have hcz45_1 : wc.cell? ⟨gb133, 1, none⟩ = some (.int .u8 a2_1) := (blk_cell BK133.out 1).trans rfl
                have hcz45_2 : wc.cell? ⟨gb133, 2, none⟩ = some (.int .u32 a2_2) := (blk_cell BK133.out 2).trans rfl
                have hcz45_3 : wc.cell? ⟨gb133, 3, none⟩ = some (.slice A2_3 l2_3.length c2_3) := (blk_cell BK133.out 3).trans rfl
                have hcz45_4 : wc.cell? ⟨gb133, 4, none⟩ = some (.string a2_4) := (blk_cell BK133.out 4).trans rfl
                have hfz45_0 := blk_frozen BK133.out 0
                have hfz45_1 := blk_frozen BK133.out 1
                have hfz45_2 := blk_frozen BK133.out 2
                have hfz45_3 := blk_frozen BK133.out 3
                have hfz45_4 := blk_frozen BK133.out 4
                go_wp2_with (first | ((with_reducible refine gate_callee (f := 15) rfl ?_); refine goesL_ (some 33) rfl rfl Try.func15 (by kernel_rfl) rfl #[.string a0_0, .agg #[.int .u8 a2_0, .int .u8 a2_1, .int .u32 a2_2, .slice A2_3 l2_3.length c2_3, .string a2_4]] rfl (by (try simp only [List.map_toArray, List.map_cons, List.map_nil]); first | done | rfl | (simp only [List.length_drop, List.length_take]; rfl)) ?_; (with_reducible refine (link_Tag.calls a0_0 a2_0 a2_1 a2_2 _ _ l2_3 a2_4 t136 t137 _ ?side1 ?side2 A26.out).mono ?_); (case side1 => repeat (first | exact (Kd.C_below HR2_3.out HB.out) | (with_reducible refine Kd.C_alloc ?_ _) | (with_reducible refine Kd.C_drewN ?_ _) | (with_reducible refine Kd.C_drew ?_))); (case side2 => exact HC2_3.out); rintro e w46 ⟨rfl, hb⟩; refine ⟨_, rfl, ?_⟩; have n0_ := Aside0.mk (blk_below (g := gb132) (o := .cells #[.string a0_0, .int .u32 a0_1, .int .u32 a0_2, .int .u64 a0_3] 41 (0, 0)) (by (with_reducible repeat (first | refine blk_drewN ?_ _ | refine blk_drew ?_ | refine blk_alloc ?_ _)); exact BK132.out) hb); have n1_ := Aside0.mk (blk_below (g := gb133) (o := .cells #[.int .u8 a2_0, .int .u8 a2_1, .int .u32 a2_2, .slice A2_3 l2_3.length c2_3, .string a2_4] 35 (0, 0)) (by (with_reducible repeat (first | refine blk_drewN ?_ _ | refine blk_drew ?_ | refine blk_alloc ?_ _)); exact BK133.out) hb); have n2_ := Aside0.mk (blk_below (g := gb134) (o := .cells #[.string (⟨#[]⟩ : ByteArray), .int .u32 0, .int .u32 0, .int .u64 0] 41 (0, 0)) (by (with_reducible repeat (first | refine blk_drewN ?_ _ | refine blk_drew ?_ | refine blk_alloc ?_ _)); exact BK134.out) hb); have n3_ := Aside0.mk (below_step (by repeat (first | (with_reducible first | exact HB.out | apply below_alloc | apply pw_below_drewN | apply below_drew1 | refine below_set ?_ GE132.out | refine below_set ?_ GE133.out | refine below_set ?_ GE134.out) | exact HB.out)) hb); clear BK132; clear BK133; clear BK134; clear HB; have BK132 := n0_; have BK133 := n1_; have BK134 := n2_; have HB := n3_; clear n0_ n1_ n2_ n3_; (try clear hb); (try clear hb2); (try clear hk); (try clear hi); have hcz47_0 : w46.cell? ⟨gb133, 0, none⟩ = some (.int .u8 a2_0) := (blk_cell BK133.out 0).trans rfl; have hcz47_1 : w46.cell? ⟨gb133, 1, none⟩ = some (.int .u8 a2_1) := (blk_cell BK133.out 1).trans rfl; have hcz47_2 : w46.cell? ⟨gb133, 2, none⟩ = some (.int .u32 a2_2) := (blk_cell BK133.out 2).trans rfl; have hcz47_3 : w46.cell? ⟨gb133, 3, none⟩ = some (.slice A2_3 l2_3.length c2_3) := (blk_cell BK133.out 3).trans rfl; have hcz47_4 : w46.cell? ⟨gb133, 4, none⟩ = some (.string a2_4) := (blk_cell BK133.out 4).trans rfl; have hfz47_0 := blk_frozen BK133.out 0; have hfz47_1 := blk_frozen BK133.out 1; have hfz47_2 := blk_frozen BK133.out 2; have hfz47_3 := blk_frozen BK133.out 3; have hfz47_4 := blk_frozen BK133.out 4; have hcz48_0 : w46.cell? ⟨gb132, 0, none⟩ = some (.string a0_0) := (blk_cell BK132.out 0).trans rfl; have hcz48_1 : w46.cell? ⟨gb132, 1, none⟩ = some (.int .u32 a0_1) := (blk_cell BK132.out 1).trans rfl; have hcz48_2 : w46.cell? ⟨gb132, 2, none⟩ = some (.int .u32 a0_2) := (blk_cell BK132.out 2).trans rfl; have hcz48_3 : w46.cell? ⟨gb132, 3, none⟩ = some (.int .u64 a0_3) := (blk_cell BK132.out 3).trans rfl; have hfz48_0 := blk_frozen BK132.out 0; have hfz48_1 := blk_frozen BK132.out 1; have hfz48_2 := blk_frozen BK132.out 2; have hfz48_3 := blk_frozen BK132.out 3; have hcz49_0 : w46.cell? ⟨gb134, 0, none⟩ = some (.string (⟨#[]⟩ : ByteArray)) := (blk_cell BK134.out 0).trans rfl; have hcz49_1 : w46.cell? ⟨gb134, 1, none⟩ = some (.int .u32 0) := (blk_cell BK134.out 1).trans rfl; have hcz49_2 : w46.cell? ⟨gb134, 2, none⟩ = some (.int .u32 0) := (blk_cell BK134.out 2).trans rfl; have hcz49_3 : w46.cell? ⟨gb134, 3, none⟩ = some (.int .u64 0) := (blk_cell BK134.out 3).trans rfl; have hfz49_0 := blk_frozen BK134.out 0; have hfz49_1 := blk_frozen BK134.out 1; have hfz49_2 := blk_frozen BK134.out 2; have hfz49_3 := blk_frozen BK134.out 3))
                refine bodyPost_ret (results_ct rfl _ _ gb134 41 #[.string a0_0, .int .u32 a0_1, .int .u32 a0_2, .int .u64 a0_3] (0, 0) _ rfl (by (with_reducible repeat (first | refine blk_drewN ?_ _ | refine blk_drew ?_ | refine blk_alloc ?_ _)); refine blk_put (cs := #[.string a0_0, .int .u32 a0_1, .int .u32 a0_2, .int .u64 0]) ?_ 3 _ rfl; (with_reducible repeat (first | refine blk_drewN ?_ _ | refine blk_drew ?_ | refine blk_alloc ?_ _)); refine blk_put (cs := #[.string a0_0, .int .u32 a0_1, .int .u32 0, .int .u64 0]) ?_ 2 _ rfl; (with_reducible repeat (first | refine blk_drewN ?_ _ | refine blk_drew ?_ | refine blk_alloc ?_ _)); refine blk_put (cs := #[.string a0_0, .int .u32 0, .int .u32 0, .int .u64 0]) ?_ 1 _ rfl; (with_reducible repeat (first | refine blk_drewN ?_ _ | refine blk_drew ?_ | refine blk_alloc ?_ _)); refine blk_put (cs := #[.string (⟨#[]⟩ : ByteArray), .int .u32 0, .int .u32 0, .int .u64 0]) ?_ 0 _ rfl; (with_reducible repeat (first | refine blk_drewN ?_ _ | refine blk_drew ?_ | refine blk_alloc ?_ _)); exact BK134.out) Try.underlying41 rfl (by kernel_rfl)) rfl ?_
                exact ⟨by first | rfl | (simp [errW_none, errW_some] <;> rfl) | (simp [*, errW_none, errW_some] <;> rfl), by repeat (first | (with_reducible first | exact HB.out | apply below_alloc | apply pw_below_drewN | apply below_drew1 | refine below_set ?_ GE132.out | refine below_set ?_ GE133.out | refine below_set ?_ GE134.out) | exact HB.out)⟩
              · rw [if_neg c40] at H
                have c40b0 : decide (64 ≤ ((a0_2 - a2_2) % 4294967296)) = false := decide_eq_false c40
                clear c40
                obtain ⟨ji50, hji50⟩ : ∃ j_ : Int, (shr .u64 a0_3 ((a0_2 - a2_2) % 4294967296)) = j_ := ⟨_, rfl⟩
                replace H : (if (Go.bits .and .u64 (ji50) 1) = 1 then (some (a0_0, a0_1, a0_2, a0_3, 6)) else (some (a0_0, a0_1, a0_2, Go.bits .or .u64 a0_3 (shl .u64 1 ((a0_2 - a2_2) % 4294967296)), 0))) = some (r1, r2, r3, r4, r5) := by first | (rw [hji50] at H; exact H) | (simp only [hji50] at H ⊢; exact H)
                (try rw [hji50] at A26)
                have hji50_ : (a0_3 / 2 ^ min ((a0_2 - a2_2) % 4294967296).toNat 64) = ji50 := hji50
                have hji50z : ((a0_2 - a2_2) % 4294967296) ≤ 64 → (a0_3 / 2 ^ ((a0_2 - a2_2) % 4294967296).toNat) = ji50 := shr_small hji50
                have hji50s : ∀ W : World, Sem.run Try.prog (Op.shift .shr .u64 a0_3 .u32 ((a0_2 - a2_2) % 4294967296)) W = .ok (.int .u64 ji50) W := fun W => by rw [← hji50]; exact shift_shr W a0_3 _ (by omega)
                by_cases c51 : (Go.bits .and .u64 (ji50) 1) = 1
                · rw [if_pos c51] at H
                  have c51b0 : ((Go.bits .and .u64 (ji50) 1) == 1) = true := beq_iff_eq.mpr c51
                  have c51b1 : ((Go.bits .and .u64 (ji50) 1) != 1) = false := bne_eq_false_iff_eq.mpr c51
                  clear c51
                  simp only [Option.some.injEq, Prod.mk.injEq] at H
                  obtain ⟨rfl, rfl, rfl, rfl, rfl⟩ := H
                  have hnb52 := NB132_133.out
                  have hnc52 := NB133_132.out
                  have hnb53 := NB132_134.out
                  have hnc53 := NB134_132.out
                  have hcz54_0 : wc.cell? ⟨gb132, 0, none⟩ = some (.string a0_0) := (blk_cell BK132.out 0).trans rfl
                  have hcz54_1 : wc.cell? ⟨gb132, 1, none⟩ = some (.int .u32 a0_1) := (blk_cell BK132.out 1).trans rfl
                  have hcz54_2 : wc.cell? ⟨gb132, 2, none⟩ = some (.int .u32 a0_2) := (blk_cell BK132.out 2).trans rfl
                  have hcz54_3 : wc.cell? ⟨gb132, 3, none⟩ = some (.int .u64 a0_3) := (blk_cell BK132.out 3).trans rfl
                  have hfz54_0 := blk_frozen BK132.out 0
                  have hfz54_1 := blk_frozen BK132.out 1
                  have hfz54_2 := blk_frozen BK132.out 2
                  have hfz54_3 := blk_frozen BK132.out 3
                  have hnb55 := NB133_134.out
                  have hnc55 := NB134_133.out
                  have hcz56_0 : wc.cell? ⟨gb133, 0, none⟩ = some (.int .u8 a2_0) := (blk_cell BK133.out 0).trans rfl
                  have hcz56_1 : wc.cell? ⟨gb133, 1, none⟩ = some (.int .u8 a2_1) := (blk_cell BK133.out 1).trans rfl
                  have hcz56_2 : wc.cell? ⟨gb133, 2, none⟩ = some (.int .u32 a2_2) := (blk_cell BK133.out 2).trans rfl
                  have hcz56_3 : wc.cell? ⟨gb133, 3, none⟩ = some (.slice A2_3 l2_3.length c2_3) := (blk_cell BK133.out 3).trans rfl
                  have hcz56_4 : wc.cell? ⟨gb133, 4, none⟩ = some (.string a2_4) := (blk_cell BK133.out 4).trans rfl
                  have hfz56_0 := blk_frozen BK133.out 0
                  have hfz56_1 := blk_frozen BK133.out 1
                  have hfz56_2 := blk_frozen BK133.out 2
                  have hfz56_3 := blk_frozen BK133.out 3
                  have hfz56_4 := blk_frozen BK133.out 4
                  go_wp2_with (first | ((with_reducible refine gate_callee (f := 15) rfl ?_); refine goesL_ (some 33) rfl rfl Try.func15 (by kernel_rfl) rfl #[.string a0_0, .agg #[.int .u8 a2_0, .int .u8 a2_1, .int .u32 a2_2, .slice A2_3 l2_3.length c2_3, .string a2_4]] rfl (by (try simp only [List.map_toArray, List.map_cons, List.map_nil]); first | done | rfl | (simp only [List.length_drop, List.length_take]; rfl)) ?_; (with_reducible refine (link_Tag.calls a0_0 a2_0 a2_1 a2_2 _ _ l2_3 a2_4 t136 t137 _ ?side1 ?side2 A26.out).mono ?_); (case side1 => repeat (first | exact (Kd.C_below HR2_3.out HB.out) | (with_reducible refine Kd.C_alloc ?_ _) | (with_reducible refine Kd.C_drewN ?_ _) | (with_reducible refine Kd.C_drew ?_))); (case side2 => exact HC2_3.out); rintro e w57 ⟨rfl, hb⟩; refine ⟨_, rfl, ?_⟩; have n0_ := Aside0.mk (blk_below (g := gb132) (o := .cells #[.string a0_0, .int .u32 a0_1, .int .u32 a0_2, .int .u64 a0_3] 41 (0, 0)) (by (with_reducible repeat (first | refine blk_drewN ?_ _ | refine blk_drew ?_ | refine blk_alloc ?_ _)); exact BK132.out) hb); have n1_ := Aside0.mk (blk_below (g := gb133) (o := .cells #[.int .u8 a2_0, .int .u8 a2_1, .int .u32 a2_2, .slice A2_3 l2_3.length c2_3, .string a2_4] 35 (0, 0)) (by (with_reducible repeat (first | refine blk_drewN ?_ _ | refine blk_drew ?_ | refine blk_alloc ?_ _)); exact BK133.out) hb); have n2_ := Aside0.mk (blk_below (g := gb134) (o := .cells #[.string (⟨#[]⟩ : ByteArray), .int .u32 0, .int .u32 0, .int .u64 0] 41 (0, 0)) (by (with_reducible repeat (first | refine blk_drewN ?_ _ | refine blk_drew ?_ | refine blk_alloc ?_ _)); exact BK134.out) hb); have n3_ := Aside0.mk (below_step (by repeat (first | (with_reducible first | exact HB.out | apply below_alloc | apply pw_below_drewN | apply below_drew1 | refine below_set ?_ GE132.out | refine below_set ?_ GE133.out | refine below_set ?_ GE134.out) | exact HB.out)) hb); clear BK132; clear BK133; clear BK134; clear HB; have BK132 := n0_; have BK133 := n1_; have BK134 := n2_; have HB := n3_; clear n0_ n1_ n2_ n3_; (try clear hb); (try clear hb2); (try clear hk); (try clear hi); have hcz58_0 : w57.cell? ⟨gb133, 0, none⟩ = some (.int .u8 a2_0) := (blk_cell BK133.out 0).trans rfl; have hcz58_1 : w57.cell? ⟨gb133, 1, none⟩ = some (.int .u8 a2_1) := (blk_cell BK133.out 1).trans rfl; have hcz58_2 : w57.cell? ⟨gb133, 2, none⟩ = some (.int .u32 a2_2) := (blk_cell BK133.out 2).trans rfl; have hcz58_3 : w57.cell? ⟨gb133, 3, none⟩ = some (.slice A2_3 l2_3.length c2_3) := (blk_cell BK133.out 3).trans rfl; have hcz58_4 : w57.cell? ⟨gb133, 4, none⟩ = some (.string a2_4) := (blk_cell BK133.out 4).trans rfl; have hfz58_0 := blk_frozen BK133.out 0; have hfz58_1 := blk_frozen BK133.out 1; have hfz58_2 := blk_frozen BK133.out 2; have hfz58_3 := blk_frozen BK133.out 3; have hfz58_4 := blk_frozen BK133.out 4; have hcz59_0 : w57.cell? ⟨gb132, 0, none⟩ = some (.string a0_0) := (blk_cell BK132.out 0).trans rfl; have hcz59_1 : w57.cell? ⟨gb132, 1, none⟩ = some (.int .u32 a0_1) := (blk_cell BK132.out 1).trans rfl; have hcz59_2 : w57.cell? ⟨gb132, 2, none⟩ = some (.int .u32 a0_2) := (blk_cell BK132.out 2).trans rfl; have hcz59_3 : w57.cell? ⟨gb132, 3, none⟩ = some (.int .u64 a0_3) := (blk_cell BK132.out 3).trans rfl; have hfz59_0 := blk_frozen BK132.out 0; have hfz59_1 := blk_frozen BK132.out 1; have hfz59_2 := blk_frozen BK132.out 2; have hfz59_3 := blk_frozen BK132.out 3; have hcz60_0 : w57.cell? ⟨gb134, 0, none⟩ = some (.string (⟨#[]⟩ : ByteArray)) := (blk_cell BK134.out 0).trans rfl; have hcz60_1 : w57.cell? ⟨gb134, 1, none⟩ = some (.int .u32 0) := (blk_cell BK134.out 1).trans rfl; have hcz60_2 : w57.cell? ⟨gb134, 2, none⟩ = some (.int .u32 0) := (blk_cell BK134.out 2).trans rfl; have hcz60_3 : w57.cell? ⟨gb134, 3, none⟩ = some (.int .u64 0) := (blk_cell BK134.out 3).trans rfl; have hfz60_0 := blk_frozen BK134.out 0; have hfz60_1 := blk_frozen BK134.out 1; have hfz60_2 := blk_frozen BK134.out 2; have hfz60_3 := blk_frozen BK134.out 3))
                  refine bodyPost_ret (results_ct rfl _ _ gb134 41 #[.string a0_0, .int .u32 a0_1, .int .u32 a0_2, .int .u64 a0_3] (0, 0) _ rfl (by (with_reducible repeat (first | refine blk_drewN ?_ _ | refine blk_drew ?_ | refine blk_alloc ?_ _)); refine blk_put (cs := #[.string a0_0, .int .u32 a0_1, .int .u32 a0_2, .int .u64 0]) ?_ 3 _ rfl; (with_reducible repeat (first | refine blk_drewN ?_ _ | refine blk_drew ?_ | refine blk_alloc ?_ _)); refine blk_put (cs := #[.string a0_0, .int .u32 a0_1, .int .u32 0, .int .u64 0]) ?_ 2 _ rfl; (with_reducible repeat (first | refine blk_drewN ?_ _ | refine blk_drew ?_ | refine blk_alloc ?_ _)); refine blk_put (cs := #[.string a0_0, .int .u32 0, .int .u32 0, .int .u64 0]) ?_ 1 _ rfl; (with_reducible repeat (first | refine blk_drewN ?_ _ | refine blk_drew ?_ | refine blk_alloc ?_ _)); refine blk_put (cs := #[.string (⟨#[]⟩ : ByteArray), .int .u32 0, .int .u32 0, .int .u64 0]) ?_ 0 _ rfl; (with_reducible repeat (first | refine blk_drewN ?_ _ | refine blk_drew ?_ | refine blk_alloc ?_ _)); exact BK134.out) Try.underlying41 rfl (by kernel_rfl)) rfl ?_
                  exact ⟨by first | rfl | (simp [errW_none, errW_some] <;> rfl) | (simp only [← hji50]; first | rfl | (simp [errW_none, errW_some] <;> rfl)) | (simp [*, errW_none, errW_some] <;> rfl), by repeat (first | (with_reducible first | exact HB.out | apply below_alloc | apply pw_below_drewN | apply below_drew1 | refine below_set ?_ GE132.out | refine below_set ?_ GE133.out | refine below_set ?_ GE134.out) | exact HB.out)⟩
                · rw [if_neg c51] at H
                  have c51b0 : ((Go.bits .and .u64 (ji50) 1) == 1) = false := beq_eq_false_iff_ne.mpr c51
                  have c51b1 : ((Go.bits .and .u64 (ji50) 1) != 1) = true := bne_iff_ne.mpr c51
                  obtain ⟨ji61, hji61⟩ : ∃ j_ : Int, (shl .u64 1 ((a0_2 - a2_2) % 4294967296)) = j_ := ⟨_, rfl⟩
                  replace H : (some (a0_0, a0_1, a0_2, Go.bits .or .u64 a0_3 (ji61), 0)) = some (r1, r2, r3, r4, r5) := by first | (rw [hji61] at H; exact H) | (simp only [hji61] at H ⊢; exact H)
                  (try rw [hji61] at A26)
                  have hji61_ : (IntKind.u64.wrap (1 * 2 ^ min ((a0_2 - a2_2) % 4294967296).toNat 64)) = ji61 := hji61
                  have hji61z : ((a0_2 - a2_2) % 4294967296) ≤ 64 → (IntKind.u64.wrap (1 * 2 ^ ((a0_2 - a2_2) % 4294967296).toNat)) = ji61 := shl_small hji61
                  have hji61s : ∀ W : World, Sem.run Try.prog (Op.shift .shl .u64 1 .u32 ((a0_2 - a2_2) % 4294967296)) W = .ok (.int .u64 ji61) W := fun W => by rw [← hji61]; exact shift_shl W 1 _ (by omega)
                  have hji61u : (IntKind.u64.wrap (2 ^ min ((a0_2 - a2_2) % 4294967296).toNat 64)) = ji61 := by have h_ := hji61_; rw [Int.one_mul] at h_; exact h_
                  have hji61v : ((a0_2 - a2_2) % 4294967296) ≤ 64 → (IntKind.u64.wrap (2 ^ ((a0_2 - a2_2) % 4294967296).toNat)) = ji61 := fun hle_ => by have h_ := hji61z hle_; rw [Int.one_mul] at h_; exact h_
                  simp only [Option.some.injEq, Prod.mk.injEq] at H
                  obtain ⟨rfl, rfl, rfl, rfl, rfl⟩ := H
                  have hnb62 := NB132_133.out
                  have hnc62 := NB133_132.out
                  have hnb63 := NB132_134.out
                  have hnc63 := NB134_132.out
                  have hcz64_0 : wc.cell? ⟨gb132, 0, none⟩ = some (.string a0_0) := (blk_cell BK132.out 0).trans rfl
                  have hcz64_1 : wc.cell? ⟨gb132, 1, none⟩ = some (.int .u32 a0_1) := (blk_cell BK132.out 1).trans rfl
                  have hcz64_2 : wc.cell? ⟨gb132, 2, none⟩ = some (.int .u32 a0_2) := (blk_cell BK132.out 2).trans rfl
                  have hcz64_3 : wc.cell? ⟨gb132, 3, none⟩ = some (.int .u64 a0_3) := (blk_cell BK132.out 3).trans rfl
                  have hfz64_0 := blk_frozen BK132.out 0
                  have hfz64_1 := blk_frozen BK132.out 1
                  have hfz64_2 := blk_frozen BK132.out 2
                  have hfz64_3 := blk_frozen BK132.out 3
                  have hnb65 := NB133_134.out
                  have hnc65 := NB134_133.out
                  have hcz66_0 : wc.cell? ⟨gb133, 0, none⟩ = some (.int .u8 a2_0) := (blk_cell BK133.out 0).trans rfl
                  have hcz66_1 : wc.cell? ⟨gb133, 1, none⟩ = some (.int .u8 a2_1) := (blk_cell BK133.out 1).trans rfl
                  have hcz66_2 : wc.cell? ⟨gb133, 2, none⟩ = some (.int .u32 a2_2) := (blk_cell BK133.out 2).trans rfl
                  have hcz66_3 : wc.cell? ⟨gb133, 3, none⟩ = some (.slice A2_3 l2_3.length c2_3) := (blk_cell BK133.out 3).trans rfl
                  have hcz66_4 : wc.cell? ⟨gb133, 4, none⟩ = some (.string a2_4) := (blk_cell BK133.out 4).trans rfl
                  have hfz66_0 := blk_frozen BK133.out 0
                  have hfz66_1 := blk_frozen BK133.out 1
                  have hfz66_2 := blk_frozen BK133.out 2
                  have hfz66_3 := blk_frozen BK133.out 3
                  have hfz66_4 := blk_frozen BK133.out 4
                  go_wp2_with (first | ((with_reducible refine gate_callee (f := 15) rfl ?_); refine goesL_ (some 33) rfl rfl Try.func15 (by kernel_rfl) rfl #[.string a0_0, .agg #[.int .u8 a2_0, .int .u8 a2_1, .int .u32 a2_2, .slice A2_3 l2_3.length c2_3, .string a2_4]] rfl (by (try simp only [List.map_toArray, List.map_cons, List.map_nil]); first | done | rfl | (simp only [List.length_drop, List.length_take]; rfl)) ?_; (with_reducible refine (link_Tag.calls a0_0 a2_0 a2_1 a2_2 _ _ l2_3 a2_4 t136 t137 _ ?side1 ?side2 A26.out).mono ?_); (case side1 => repeat (first | exact (Kd.C_below HR2_3.out HB.out) | (with_reducible refine Kd.C_alloc ?_ _) | (with_reducible refine Kd.C_drewN ?_ _) | (with_reducible refine Kd.C_drew ?_))); (case side2 => exact HC2_3.out); rintro e w67 ⟨rfl, hb⟩; refine ⟨_, rfl, ?_⟩; have n0_ := Aside0.mk (blk_below (g := gb132) (o := .cells #[.string a0_0, .int .u32 a0_1, .int .u32 a0_2, .int .u64 a0_3] 41 (0, 0)) (by (with_reducible repeat (first | refine blk_drewN ?_ _ | refine blk_drew ?_ | refine blk_alloc ?_ _)); exact BK132.out) hb); have n1_ := Aside0.mk (blk_below (g := gb133) (o := .cells #[.int .u8 a2_0, .int .u8 a2_1, .int .u32 a2_2, .slice A2_3 l2_3.length c2_3, .string a2_4] 35 (0, 0)) (by (with_reducible repeat (first | refine blk_drewN ?_ _ | refine blk_drew ?_ | refine blk_alloc ?_ _)); exact BK133.out) hb); have n2_ := Aside0.mk (blk_below (g := gb134) (o := .cells #[.string (⟨#[]⟩ : ByteArray), .int .u32 0, .int .u32 0, .int .u64 0] 41 (0, 0)) (by (with_reducible repeat (first | refine blk_drewN ?_ _ | refine blk_drew ?_ | refine blk_alloc ?_ _)); exact BK134.out) hb); have n3_ := Aside0.mk (below_step (by repeat (first | (with_reducible first | exact HB.out | apply below_alloc | apply pw_below_drewN | apply below_drew1 | refine below_set ?_ GE132.out | refine below_set ?_ GE133.out | refine below_set ?_ GE134.out) | exact HB.out)) hb); clear BK132; clear BK133; clear BK134; clear HB; have BK132 := n0_; have BK133 := n1_; have BK134 := n2_; have HB := n3_; clear n0_ n1_ n2_ n3_; (try clear hb); (try clear hb2); (try clear hk); (try clear hi); have hcz68_0 : w67.cell? ⟨gb133, 0, none⟩ = some (.int .u8 a2_0) := (blk_cell BK133.out 0).trans rfl; have hcz68_1 : w67.cell? ⟨gb133, 1, none⟩ = some (.int .u8 a2_1) := (blk_cell BK133.out 1).trans rfl; have hcz68_2 : w67.cell? ⟨gb133, 2, none⟩ = some (.int .u32 a2_2) := (blk_cell BK133.out 2).trans rfl; have hcz68_3 : w67.cell? ⟨gb133, 3, none⟩ = some (.slice A2_3 l2_3.length c2_3) := (blk_cell BK133.out 3).trans rfl; have hcz68_4 : w67.cell? ⟨gb133, 4, none⟩ = some (.string a2_4) := (blk_cell BK133.out 4).trans rfl; have hfz68_0 := blk_frozen BK133.out 0; have hfz68_1 := blk_frozen BK133.out 1; have hfz68_2 := blk_frozen BK133.out 2; have hfz68_3 := blk_frozen BK133.out 3; have hfz68_4 := blk_frozen BK133.out 4; have hcz69_0 : w67.cell? ⟨gb132, 0, none⟩ = some (.string a0_0) := (blk_cell BK132.out 0).trans rfl; have hcz69_1 : w67.cell? ⟨gb132, 1, none⟩ = some (.int .u32 a0_1) := (blk_cell BK132.out 1).trans rfl; have hcz69_2 : w67.cell? ⟨gb132, 2, none⟩ = some (.int .u32 a0_2) := (blk_cell BK132.out 2).trans rfl; have hcz69_3 : w67.cell? ⟨gb132, 3, none⟩ = some (.int .u64 a0_3) := (blk_cell BK132.out 3).trans rfl; have hfz69_0 := blk_frozen BK132.out 0; have hfz69_1 := blk_frozen BK132.out 1; have hfz69_2 := blk_frozen BK132.out 2; have hfz69_3 := blk_frozen BK132.out 3; have hcz70_0 : w67.cell? ⟨gb134, 0, none⟩ = some (.string (⟨#[]⟩ : ByteArray)) := (blk_cell BK134.out 0).trans rfl; have hcz70_1 : w67.cell? ⟨gb134, 1, none⟩ = some (.int .u32 0) := (blk_cell BK134.out 1).trans rfl; have hcz70_2 : w67.cell? ⟨gb134, 2, none⟩ = some (.int .u32 0) := (blk_cell BK134.out 2).trans rfl; have hcz70_3 : w67.cell? ⟨gb134, 3, none⟩ = some (.int .u64 0) := (blk_cell BK134.out 3).trans rfl; have hfz70_0 := blk_frozen BK134.out 0; have hfz70_1 := blk_frozen BK134.out 1; have hfz70_2 := blk_frozen BK134.out 2; have hfz70_3 := blk_frozen BK134.out 3))
                  refine bodyPost_ret (results_ct rfl _ _ gb134 41 #[.string a0_0, .int .u32 a0_1, .int .u32 a0_2, .int .u64 (Go.bits .or .u64 a0_3 (ji61))] (0, 0) _ rfl (by (with_reducible repeat (first | refine blk_drewN ?_ _ | refine blk_drew ?_ | refine blk_alloc ?_ _)); refine blk_put (cs := #[.string a0_0, .int .u32 a0_1, .int .u32 a0_2, .int .u64 0]) ?_ 3 _ rfl; (with_reducible repeat (first | refine blk_drewN ?_ _ | refine blk_drew ?_ | refine blk_alloc ?_ _)); refine blk_put (cs := #[.string a0_0, .int .u32 a0_1, .int .u32 0, .int .u64 0]) ?_ 2 _ rfl; (with_reducible repeat (first | refine blk_drewN ?_ _ | refine blk_drew ?_ | refine blk_alloc ?_ _)); refine blk_put (cs := #[.string a0_0, .int .u32 0, .int .u32 0, .int .u64 0]) ?_ 1 _ rfl; (with_reducible repeat (first | refine blk_drewN ?_ _ | refine blk_drew ?_ | refine blk_alloc ?_ _)); refine blk_put (cs := #[.string (⟨#[]⟩ : ByteArray), .int .u32 0, .int .u32 0, .int .u64 0]) ?_ 0 _ rfl; (with_reducible repeat (first | refine blk_drewN ?_ _ | refine blk_drew ?_ | refine blk_alloc ?_ _)); refine blk_far ?_ NB134_132.out _; (with_reducible repeat (first | refine blk_drewN ?_ _ | refine blk_drew ?_ | refine blk_alloc ?_ _)); exact BK134.out) Try.underlying41 rfl (by kernel_rfl)) rfl ?_
                  exact ⟨by first | rfl | (simp [errW_none, errW_some] <;> rfl) | (simp only [← hji50, ← hji61]; first | rfl | (simp [errW_none, errW_some] <;> rfl)) | (simp [*, errW_none, errW_some] <;> rfl), by repeat (first | (with_reducible first | exact HB.out | apply below_alloc | apply pw_below_drewN | apply below_drew1 | refine below_set ?_ GE132.out | refine below_set ?_ GE133.out | refine below_set ?_ GE134.out) | exact HB.out)⟩
          · rw [if_neg c28] at H
            have c28b0 : (t136.toList == a2_4.toList) = false := beq_eq_false_iff_ne.mpr c28
            have c28b1 : (t136.toList != a2_4.toList) = true := bne_iff_ne.mpr c28
            simp only [Option.some.injEq, Prod.mk.injEq] at H
            obtain ⟨rfl, rfl, rfl, rfl, rfl⟩ := H
            have hnb71 := NB132_133.out
            have hnc71 := NB133_132.out
            have hnb72 := NB132_134.out
            have hnc72 := NB134_132.out
            have hcz73_0 : wc.cell? ⟨gb132, 0, none⟩ = some (.string a0_0) := (blk_cell BK132.out 0).trans rfl
            have hcz73_1 : wc.cell? ⟨gb132, 1, none⟩ = some (.int .u32 a0_1) := (blk_cell BK132.out 1).trans rfl
            have hcz73_2 : wc.cell? ⟨gb132, 2, none⟩ = some (.int .u32 a0_2) := (blk_cell BK132.out 2).trans rfl
            have hcz73_3 : wc.cell? ⟨gb132, 3, none⟩ = some (.int .u64 a0_3) := (blk_cell BK132.out 3).trans rfl
            have hfz73_0 := blk_frozen BK132.out 0
            have hfz73_1 := blk_frozen BK132.out 1
            have hfz73_2 := blk_frozen BK132.out 2
            have hfz73_3 := blk_frozen BK132.out 3
            have hnb74 := NB133_134.out
            have hnc74 := NB134_133.out
            have hcz75_0 : wc.cell? ⟨gb133, 0, none⟩ = some (.int .u8 a2_0) := (blk_cell BK133.out 0).trans rfl
            have hcz75_1 : wc.cell? ⟨gb133, 1, none⟩ = some (.int .u8 a2_1) := (blk_cell BK133.out 1).trans rfl
            have hcz75_2 : wc.cell? ⟨gb133, 2, none⟩ = some (.int .u32 a2_2) := (blk_cell BK133.out 2).trans rfl
            have hcz75_3 : wc.cell? ⟨gb133, 3, none⟩ = some (.slice A2_3 l2_3.length c2_3) := (blk_cell BK133.out 3).trans rfl
            have hcz75_4 : wc.cell? ⟨gb133, 4, none⟩ = some (.string a2_4) := (blk_cell BK133.out 4).trans rfl
            have hfz75_0 := blk_frozen BK133.out 0
            have hfz75_1 := blk_frozen BK133.out 1
            have hfz75_2 := blk_frozen BK133.out 2
            have hfz75_3 := blk_frozen BK133.out 3
            have hfz75_4 := blk_frozen BK133.out 4
            go_wp2_with (first | ((with_reducible refine gate_callee (f := 15) rfl ?_); refine goesL_ (some 33) rfl rfl Try.func15 (by kernel_rfl) rfl #[.string a0_0, .agg #[.int .u8 a2_0, .int .u8 a2_1, .int .u32 a2_2, .slice A2_3 l2_3.length c2_3, .string a2_4]] rfl (by (try simp only [List.map_toArray, List.map_cons, List.map_nil]); first | done | rfl | (simp only [List.length_drop, List.length_take]; rfl)) ?_; (with_reducible refine (link_Tag.calls a0_0 a2_0 a2_1 a2_2 _ _ l2_3 a2_4 t136 t137 _ ?side1 ?side2 A26.out).mono ?_); (case side1 => repeat (first | exact (Kd.C_below HR2_3.out HB.out) | (with_reducible refine Kd.C_alloc ?_ _) | (with_reducible refine Kd.C_drewN ?_ _) | (with_reducible refine Kd.C_drew ?_))); (case side2 => exact HC2_3.out); rintro e w76 ⟨rfl, hb⟩; refine ⟨_, rfl, ?_⟩; have n0_ := Aside0.mk (blk_below (g := gb132) (o := .cells #[.string a0_0, .int .u32 a0_1, .int .u32 a0_2, .int .u64 a0_3] 41 (0, 0)) (by (with_reducible repeat (first | refine blk_drewN ?_ _ | refine blk_drew ?_ | refine blk_alloc ?_ _)); exact BK132.out) hb); have n1_ := Aside0.mk (blk_below (g := gb133) (o := .cells #[.int .u8 a2_0, .int .u8 a2_1, .int .u32 a2_2, .slice A2_3 l2_3.length c2_3, .string a2_4] 35 (0, 0)) (by (with_reducible repeat (first | refine blk_drewN ?_ _ | refine blk_drew ?_ | refine blk_alloc ?_ _)); exact BK133.out) hb); have n2_ := Aside0.mk (blk_below (g := gb134) (o := .cells #[.string (⟨#[]⟩ : ByteArray), .int .u32 0, .int .u32 0, .int .u64 0] 41 (0, 0)) (by (with_reducible repeat (first | refine blk_drewN ?_ _ | refine blk_drew ?_ | refine blk_alloc ?_ _)); exact BK134.out) hb); have n3_ := Aside0.mk (below_step (by repeat (first | (with_reducible first | exact HB.out | apply below_alloc | apply pw_below_drewN | apply below_drew1 | refine below_set ?_ GE132.out | refine below_set ?_ GE133.out | refine below_set ?_ GE134.out) | exact HB.out)) hb); clear BK132; clear BK133; clear BK134; clear HB; have BK132 := n0_; have BK133 := n1_; have BK134 := n2_; have HB := n3_; clear n0_ n1_ n2_ n3_; (try clear hb); (try clear hb2); (try clear hk); (try clear hi); have hcz77_0 : w76.cell? ⟨gb133, 0, none⟩ = some (.int .u8 a2_0) := (blk_cell BK133.out 0).trans rfl; have hcz77_1 : w76.cell? ⟨gb133, 1, none⟩ = some (.int .u8 a2_1) := (blk_cell BK133.out 1).trans rfl; have hcz77_2 : w76.cell? ⟨gb133, 2, none⟩ = some (.int .u32 a2_2) := (blk_cell BK133.out 2).trans rfl; have hcz77_3 : w76.cell? ⟨gb133, 3, none⟩ = some (.slice A2_3 l2_3.length c2_3) := (blk_cell BK133.out 3).trans rfl; have hcz77_4 : w76.cell? ⟨gb133, 4, none⟩ = some (.string a2_4) := (blk_cell BK133.out 4).trans rfl; have hfz77_0 := blk_frozen BK133.out 0; have hfz77_1 := blk_frozen BK133.out 1; have hfz77_2 := blk_frozen BK133.out 2; have hfz77_3 := blk_frozen BK133.out 3; have hfz77_4 := blk_frozen BK133.out 4; have hcz78_0 : w76.cell? ⟨gb132, 0, none⟩ = some (.string a0_0) := (blk_cell BK132.out 0).trans rfl; have hcz78_1 : w76.cell? ⟨gb132, 1, none⟩ = some (.int .u32 a0_1) := (blk_cell BK132.out 1).trans rfl; have hcz78_2 : w76.cell? ⟨gb132, 2, none⟩ = some (.int .u32 a0_2) := (blk_cell BK132.out 2).trans rfl; have hcz78_3 : w76.cell? ⟨gb132, 3, none⟩ = some (.int .u64 a0_3) := (blk_cell BK132.out 3).trans rfl; have hfz78_0 := blk_frozen BK132.out 0; have hfz78_1 := blk_frozen BK132.out 1; have hfz78_2 := blk_frozen BK132.out 2; have hfz78_3 := blk_frozen BK132.out 3; have hcz79_0 : w76.cell? ⟨gb134, 0, none⟩ = some (.string (⟨#[]⟩ : ByteArray)) := (blk_cell BK134.out 0).trans rfl; have hcz79_1 : w76.cell? ⟨gb134, 1, none⟩ = some (.int .u32 0) := (blk_cell BK134.out 1).trans rfl; have hcz79_2 : w76.cell? ⟨gb134, 2, none⟩ = some (.int .u32 0) := (blk_cell BK134.out 2).trans rfl; have hcz79_3 : w76.cell? ⟨gb134, 3, none⟩ = some (.int .u64 0) := (blk_cell BK134.out 3).trans rfl; have hfz79_0 := blk_frozen BK134.out 0; have hfz79_1 := blk_frozen BK134.out 1; have hfz79_2 := blk_frozen BK134.out 2; have hfz79_3 := blk_frozen BK134.out 3))
            refine bodyPost_ret (results_ct rfl _ _ gb134 41 #[.string a0_0, .int .u32 a0_1, .int .u32 a0_2, .int .u64 a0_3] (0, 0) _ rfl (by (with_reducible repeat (first | refine blk_drewN ?_ _ | refine blk_drew ?_ | refine blk_alloc ?_ _)); refine blk_put (cs := #[.string a0_0, .int .u32 a0_1, .int .u32 a0_2, .int .u64 0]) ?_ 3 _ rfl; (with_reducible repeat (first | refine blk_drewN ?_ _ | refine blk_drew ?_ | refine blk_alloc ?_ _)); refine blk_put (cs := #[.string a0_0, .int .u32 a0_1, .int .u32 0, .int .u64 0]) ?_ 2 _ rfl; (with_reducible repeat (first | refine blk_drewN ?_ _ | refine blk_drew ?_ | refine blk_alloc ?_ _)); refine blk_put (cs := #[.string a0_0, .int .u32 0, .int .u32 0, .int .u64 0]) ?_ 1 _ rfl; (with_reducible repeat (first | refine blk_drewN ?_ _ | refine blk_drew ?_ | refine blk_alloc ?_ _)); refine blk_put (cs := #[.string (⟨#[]⟩ : ByteArray), .int .u32 0, .int .u32 0, .int .u64 0]) ?_ 0 _ rfl; (with_reducible repeat (first | refine blk_drewN ?_ _ | refine blk_drew ?_ | refine blk_alloc ?_ _)); exact BK134.out) Try.underlying41 rfl (by kernel_rfl)) rfl ?_
            exact ⟨by first | rfl | (simp [errW_none, errW_some] <;> rfl) | (simp [*, errW_none, errW_some] <;> rfl), by repeat (first | (with_reducible first | exact HB.out | apply below_alloc | apply pw_below_drewN | apply below_drew1 | refine below_set ?_ GE132.out | refine below_set ?_ GE133.out | refine below_set ?_ GE134.out) | exact HB.out)⟩
        · rw [if_neg c27] at H
          have c27b0 : (t137 == 0) = false := beq_eq_false_iff_ne.mpr c27
          have c27b1 : (t137 != 0) = true := bne_iff_ne.mpr c27
          simp only [Option.some.injEq, Prod.mk.injEq] at H
          obtain ⟨rfl, rfl, rfl, rfl, rfl⟩ := H
          have hnb80 := NB132_133.out
          have hnc80 := NB133_132.out
          have hnb81 := NB132_134.out
          have hnc81 := NB134_132.out
          have hcz82_0 : wc.cell? ⟨gb132, 0, none⟩ = some (.string a0_0) := (blk_cell BK132.out 0).trans rfl
          have hcz82_1 : wc.cell? ⟨gb132, 1, none⟩ = some (.int .u32 a0_1) := (blk_cell BK132.out 1).trans rfl
          have hcz82_2 : wc.cell? ⟨gb132, 2, none⟩ = some (.int .u32 a0_2) := (blk_cell BK132.out 2).trans rfl
          have hcz82_3 : wc.cell? ⟨gb132, 3, none⟩ = some (.int .u64 a0_3) := (blk_cell BK132.out 3).trans rfl
          have hfz82_0 := blk_frozen BK132.out 0
          have hfz82_1 := blk_frozen BK132.out 1
          have hfz82_2 := blk_frozen BK132.out 2
          have hfz82_3 := blk_frozen BK132.out 3
          have hnb83 := NB133_134.out
          have hnc83 := NB134_133.out
          have hcz84_0 : wc.cell? ⟨gb133, 0, none⟩ = some (.int .u8 a2_0) := (blk_cell BK133.out 0).trans rfl
          have hcz84_1 : wc.cell? ⟨gb133, 1, none⟩ = some (.int .u8 a2_1) := (blk_cell BK133.out 1).trans rfl
          have hcz84_2 : wc.cell? ⟨gb133, 2, none⟩ = some (.int .u32 a2_2) := (blk_cell BK133.out 2).trans rfl
          have hcz84_3 : wc.cell? ⟨gb133, 3, none⟩ = some (.slice A2_3 l2_3.length c2_3) := (blk_cell BK133.out 3).trans rfl
          have hcz84_4 : wc.cell? ⟨gb133, 4, none⟩ = some (.string a2_4) := (blk_cell BK133.out 4).trans rfl
          have hfz84_0 := blk_frozen BK133.out 0
          have hfz84_1 := blk_frozen BK133.out 1
          have hfz84_2 := blk_frozen BK133.out 2
          have hfz84_3 := blk_frozen BK133.out 3
          have hfz84_4 := blk_frozen BK133.out 4
          go_wp2_with (first | ((with_reducible refine gate_callee (f := 15) rfl ?_); refine goesL_ (some 33) rfl rfl Try.func15 (by kernel_rfl) rfl #[.string a0_0, .agg #[.int .u8 a2_0, .int .u8 a2_1, .int .u32 a2_2, .slice A2_3 l2_3.length c2_3, .string a2_4]] rfl (by (try simp only [List.map_toArray, List.map_cons, List.map_nil]); first | done | rfl | (simp only [List.length_drop, List.length_take]; rfl)) ?_; (with_reducible refine (link_Tag.calls a0_0 a2_0 a2_1 a2_2 _ _ l2_3 a2_4 t136 t137 _ ?side1 ?side2 A26.out).mono ?_); (case side1 => repeat (first | exact (Kd.C_below HR2_3.out HB.out) | (with_reducible refine Kd.C_alloc ?_ _) | (with_reducible refine Kd.C_drewN ?_ _) | (with_reducible refine Kd.C_drew ?_))); (case side2 => exact HC2_3.out); rintro e w85 ⟨rfl, hb⟩; refine ⟨_, rfl, ?_⟩; have n0_ := Aside0.mk (blk_below (g := gb132) (o := .cells #[.string a0_0, .int .u32 a0_1, .int .u32 a0_2, .int .u64 a0_3] 41 (0, 0)) (by (with_reducible repeat (first | refine blk_drewN ?_ _ | refine blk_drew ?_ | refine blk_alloc ?_ _)); exact BK132.out) hb); have n1_ := Aside0.mk (blk_below (g := gb133) (o := .cells #[.int .u8 a2_0, .int .u8 a2_1, .int .u32 a2_2, .slice A2_3 l2_3.length c2_3, .string a2_4] 35 (0, 0)) (by (with_reducible repeat (first | refine blk_drewN ?_ _ | refine blk_drew ?_ | refine blk_alloc ?_ _)); exact BK133.out) hb); have n2_ := Aside0.mk (blk_below (g := gb134) (o := .cells #[.string (⟨#[]⟩ : ByteArray), .int .u32 0, .int .u32 0, .int .u64 0] 41 (0, 0)) (by (with_reducible repeat (first | refine blk_drewN ?_ _ | refine blk_drew ?_ | refine blk_alloc ?_ _)); exact BK134.out) hb); have n3_ := Aside0.mk (below_step (by repeat (first | (with_reducible first | exact HB.out | apply below_alloc | apply pw_below_drewN | apply below_drew1 | refine below_set ?_ GE132.out | refine below_set ?_ GE133.out | refine below_set ?_ GE134.out) | exact HB.out)) hb); clear BK132; clear BK133; clear BK134; clear HB; have BK132 := n0_; have BK133 := n1_; have BK134 := n2_; have HB := n3_; clear n0_ n1_ n2_ n3_; (try clear hb); (try clear hb2); (try clear hk); (try clear hi); have hcz86_0 : w85.cell? ⟨gb132, 0, none⟩ = some (.string a0_0) := (blk_cell BK132.out 0).trans rfl; have hcz86_1 : w85.cell? ⟨gb132, 1, none⟩ = some (.int .u32 a0_1) := (blk_cell BK132.out 1).trans rfl; have hcz86_2 : w85.cell? ⟨gb132, 2, none⟩ = some (.int .u32 a0_2) := (blk_cell BK132.out 2).trans rfl; have hcz86_3 : w85.cell? ⟨gb132, 3, none⟩ = some (.int .u64 a0_3) := (blk_cell BK132.out 3).trans rfl; have hfz86_0 := blk_frozen BK132.out 0; have hfz86_1 := blk_frozen BK132.out 1; have hfz86_2 := blk_frozen BK132.out 2; have hfz86_3 := blk_frozen BK132.out 3; have hcz87_0 : w85.cell? ⟨gb134, 0, none⟩ = some (.string (⟨#[]⟩ : ByteArray)) := (blk_cell BK134.out 0).trans rfl; have hcz87_1 : w85.cell? ⟨gb134, 1, none⟩ = some (.int .u32 0) := (blk_cell BK134.out 1).trans rfl; have hcz87_2 : w85.cell? ⟨gb134, 2, none⟩ = some (.int .u32 0) := (blk_cell BK134.out 2).trans rfl; have hcz87_3 : w85.cell? ⟨gb134, 3, none⟩ = some (.int .u64 0) := (blk_cell BK134.out 3).trans rfl; have hfz87_0 := blk_frozen BK134.out 0; have hfz87_1 := blk_frozen BK134.out 1; have hfz87_2 := blk_frozen BK134.out 2; have hfz87_3 := blk_frozen BK134.out 3))
          refine bodyPost_ret (results_ct rfl _ _ gb134 41 #[.string a0_0, .int .u32 a0_1, .int .u32 a0_2, .int .u64 a0_3] (0, 0) _ rfl (by (with_reducible repeat (first | refine blk_drewN ?_ _ | refine blk_drew ?_ | refine blk_alloc ?_ _)); refine blk_put (cs := #[.string a0_0, .int .u32 a0_1, .int .u32 a0_2, .int .u64 0]) ?_ 3 _ rfl; (with_reducible repeat (first | refine blk_drewN ?_ _ | refine blk_drew ?_ | refine blk_alloc ?_ _)); refine blk_put (cs := #[.string a0_0, .int .u32 a0_1, .int .u32 0, .int .u64 0]) ?_ 2 _ rfl; (with_reducible repeat (first | refine blk_drewN ?_ _ | refine blk_drew ?_ | refine blk_alloc ?_ _)); refine blk_put (cs := #[.string a0_0, .int .u32 0, .int .u32 0, .int .u64 0]) ?_ 1 _ rfl; (with_reducible repeat (first | refine blk_drewN ?_ _ | refine blk_drew ?_ | refine blk_alloc ?_ _)); refine blk_put (cs := #[.string (⟨#[]⟩ : ByteArray), .int .u32 0, .int .u32 0, .int .u64 0]) ?_ 0 _ rfl; (with_reducible repeat (first | refine blk_drewN ?_ _ | refine blk_drew ?_ | refine blk_alloc ?_ _)); exact BK134.out) Try.underlying41 rfl (by kernel_rfl)) rfl ?_
          exact ⟨by first | rfl | (simp [errW_none, errW_some] <;> rfl) | (simp [*, errW_none, errW_some] <;> rfl), by repeat (first | (with_reducible first | exact HB.out | apply below_alloc | apply pw_below_drewN | apply below_drew1 | refine below_set ?_ GE132.out | refine below_set ?_ GE133.out | refine below_set ?_ GE134.out) | exact HB.out)⟩

/-! ### term_NewNonce: function 22 -/
def term_NewNonce.f (a0 : Int) : Option (ByteArray) := some (strOfNums (([110, (a0 / 256) % 256, (a0) % 256] : List Int)))
set_option maxHeartbeats 8000000 in
set_option maxRecDepth 100000 in
theorem term_NewNonce.calls (a0 : Int) (r : ByteArray) (w : World) (h : term_NewNonce.f a0 = some r) :
    Calls Try.prog 22 #[.int .u16 a0] w fun e w' => e = .returned (.string r) ∧ Below w.heap.size w w' := by
  have HB := Aside0.mk (Below.refl w.heap.size w)
  have H : (some (strOfNums (([110, (a0 / 256) % 256, (a0) % 256] : List Int)))) = some r := h
  clear h
  obtain ⟨y138, hy138⟩ : ∃ y_ : List Int, y_ = (([110, (a0 / 256) % 256, (a0) % 256] : List Int)) := ⟨_, rfl⟩
  replace H : (some (strOfNums y138)) = some r := by first | (rw [hy138]; with_reducible exact H) | (have H2_ := (Option.bind_some _ _).symm.trans H; rw [hy138]; with_reducible exact H2_) | (have H2_ := (Option.bind_some _ _).symm.trans H; with_reducible exact H2_) | with_reducible exact H | (rw [hy138]; exact H) | exact H
  have Ny138 := Aside0.mk hy138
  clear hy138
  obtain rfl := Option.some.inj H
  go_enter Try.func22, Try.ntmps22
  go_wp2_with (first | ((with_reducible refine gate_dst (N := 8) rfl ?_); refine Kd.R_lit (Kd.int .u8) _ 5 ?hg (N := 8) ?hd (xs := ([110, (a0 / 256) % 256, (a0) % 256] : List Int)) (inner := [.int .u8 110, .int .u8 ((a0 / 256) % 256), .int .u8 ((a0) % 256)]) (ok := fun _ => True) (okp := fun _ => True) ?hr ?hp (fun _ hk => hk) trivial (Below.refl _ _) (Nat.le_refl _) (by simp) ?_; (case hd => rfl); (case hg => rfl); (case hr => first | (go_simp; done) | (go_simp; rfl)); (case hp => exact (Reps.one (show Kd.M (Kd.int .u8) _ _ _ 110 [.int .u8 110] from rfl) (Reps.one (show Kd.M (Kd.int .u8) _ _ _ ((a0 / 256) % 256) [.int .u8 ((a0 / 256) % 256)] from rfl) (Reps.one (show Kd.M (Kd.int .u8) _ _ _ ((a0) % 256) [.int .u8 ((a0) % 256)] from rfl) (Reps.none _ _))))); intro v139 w2 ho3 hb hg_ hnew_; clear hg_ hnew_; (first | rw [← Ny138.out] at ho3 | (simp only [Int.reduceToNat] at ho3; rw [← Ny138.out] at ho3)); have n0_ := Aside0.mk (Kd.R_lower ho3 (below_size (by repeat (first | (with_reducible first | exact HB.out | apply below_alloc | apply pw_below_drewN | apply below_drew1) | exact HB.out)))); have n1_ := Aside0.mk (below_step (by repeat (first | (with_reducible first | exact HB.out | apply below_alloc | apply pw_below_drewN | apply below_drew1) | exact HB.out)) hb); clear HB; have HO140 := n0_; have HB := n1_; clear n0_ n1_; clear hb ho3; have hcv4 := own_string (P := Try.prog) Try.underlying24 Try.underlying5 Try.underlying22 (Kd.own_of_R HO140.out)))
  go_ret
  exact ⟨by first | rfl | (simp [errW_none, errW_some] <;> rfl) | (simp [*, errW_none, errW_some] <;> rfl), by repeat (first | (with_reducible first | exact HB.out | apply below_alloc | apply pw_below_drewN | apply below_drew1) | exact HB.out)⟩

end Go.Proofs.Ytimfhdpgkoonaaa.Pr
