/- EpochBack: its walk, by hand. -/
import Derived.Test.YtmdpkooiehlbcaaEv16b
import Derived.Test.YtmdpkooiehlbcaaPrx6
set_option linter.unusedVariables false
set_option linter.unusedSimpArgs false
namespace Go.Proofs.Ytmdpkooiehlbcaa.Ev16
open Go.RowKit Go.Proofs.Ytmdpkooiehlbcaa.Pr Go.Proofs.YtmdpkooiehlbcaaW.PrintWords Go.Proofs.YtmdpkooiehlbcaaW.PrintLast Go.Proofs.YtmdpkooiehlbcaaW.PrintMore Go.Proofs.Ytmdpkooiehlbcaa.TT Go.Proofs.Ytmdpkooiehlbcaa.Ev03

def DepthFact (e f g : Int) (text r0 : ByteArray) : Prop := e = 0 → f = 0 → g ≠ 0 → ¬ ((text.size : Int) > 40 ∧ g = 3) → ¬ (r0.size : Int) > 1500 → ∃ k dd, chantryref03_Depth.f k r0 = some dd ∧ dd > 55
def OpenFact (e f g h i j : Int) (o1 text : ByteArray) (v0 v1 : Int) (r0 r1 : ByteArray) : Prop := e = 0 → f = 0 → g = 0 → h = 0 ∧ o1 = text ∧ (i = 0 ↔ v0 = v1 ∧ r0 = r1) ∧ (j = 0 ↔ v0 = v1 ∧ r0 = r1)
set_option maxHeartbeats 3200000 in
set_option maxRecDepth 100000 in
theorem back_core (v0 v1 : Int) (hv0 : 0 ≤ v0 ∧ v0 < 65536) (hv1 : 0 ≤ v1 ∧ v1 < 65536) (r0 r1 text : ByteArray) (w : World) (x1 y1 s1 : Int) (x2 y2 s2 o1 o2 o3 : ByteArray) (e f g h i j : Int)
    (hx : epoch_New.f v0 r0 = some (x1, x2, e)) (hy : epoch_New.f v1 r1 = some (y1, y2, f)) (hs : epoch_Seal.f x1 x2 text = some (s1, s2, g)) (ho : epoch_Open.f x1 x2 s1 s2 = some (o1, h)) (hi : epoch_Open.f y1 y2 s1 s2 = some (o2, i)) (hj : epoch_Open.f y1 y2 y1 s2 = some (o3, j))
    (hd : DepthFact e f g text r0) (hf : OpenFact e f g h i j o1 text v0 v1 r0 r1) :
    Calls Try.prog 5 #[.agg #[.int .u16 v0, .int .u16 v1], .agg #[.string r0, .string r1], .string text] w fun e w' => e = .returned (.bool true) ∧ Below w.heap.size w w' := by
  have HX := Lib.hid hx; have HY := Lib.hid hy; have HS := Lib.hid hs; have HO := Lib.hid ho; have HI := Lib.hid hi; have HJ := Lib.hid hj; have HD := Lib.hid hd; have HF := Lib.hid hf
  clear hx hy hs ho hi hj hd hf
  have e0 : wrap64 v0 = v0 := by unfold wrap64; omega
  have e1 : wrap64 v1 = v1 := by unfold wrap64; omega
  clear hv0 hv1
  have HB0 := Lib.hid (((Below.refl w.heap.size w).alloc (Nat.le_refl _) (.cells #[.int .u16 v0, .int .u16 v1] 48 (0, 0))).alloc (by simp) (.cells #[.string r0, .string r1] 49 (0, 0)))
  go_enter Try.func5, Try.ntmps5
  go_wp2_with fail
  have B3 := Lib.hid (blk_alloc (blk_new w (.cells #[.int .u16 v0, .int .u16 v1] 48 (0, 0))) (.cells #[.string r0, .string r1] 49 (0, 0)))
  have B4 := Lib.hid (blk_new (w.alloc (.cells #[.int .u16 v0, .int .u16 v1] 48 (0, 0))) (.cells #[.string r0, .string r1] 49 (0, 0)))
  have hg4 : (w.alloc (.cells #[.int .u16 v0, .int .u16 v1] 48 (0, 0))).heap.size = w.heap.size + 1 := by simp
  rw [hg4] at B4
  clear hg4
  generalize (w.alloc (.cells #[.int .u16 v0, .int .u16 v1] 48 (0, 0))).alloc (.cells #[.string r0, .string r1] 49 (0, 0)) = w0 at *
  refine (chantrylaw16_alive.calls true w0 alive16).mono ?_
  rintro er w1 ⟨rfl, hb⟩
  replace B3 := Lib.hid (blk_below B3.out hb)
  replace B4 := Lib.hid (blk_below B4.out hb)
  replace HB0 := Lib.hid (HB0.out.trans (hb.mono HB0.out.size))
  clear hb
  have c30 : w1.cell? ⟨w.heap.size, 0, none⟩ = some (.int .u16 v0) := blk_cell B3.out 0
  have c31 : w1.cell? ⟨w.heap.size, 1, none⟩ = some (.int .u16 v1) := blk_cell B3.out 1
  have c40 : w1.cell? ⟨w.heap.size + 1, 0, none⟩ = some (.string r0) := blk_cell B4.out 0
  have c41 : w1.cell? ⟨w.heap.size + 1, 1, none⟩ = some (.string r1) := blk_cell B4.out 1
  by_cases z0 : (r0.size : Int) > 2100
  · go_wp2_with fail
    go_ret
    exact ⟨rfl, HB0.out⟩
  by_cases z1 : (r1.size : Int) > 2100
  · go_wp2_with fail
    go_ret
    exact ⟨rfl, HB0.out⟩
  by_cases z2 : (text.size : Int) > 2100
  · go_wp2_with fail
    go_ret
    exact ⟨rfl, HB0.out⟩
  go_wp2_with fail
  rw [e0]
  refine (epoch_New.calls v0 r0 x1 x2 e w1 HX.out).mono ?_
  rintro er w2 ⟨rfl, hb⟩
  clear c30 c31 c40 c41
  replace B3 := Lib.hid (blk_below B3.out hb)
  replace B4 := Lib.hid (blk_below B4.out hb)
  replace HB0 := Lib.hid (HB0.out.trans (hb.mono HB0.out.size))
  clear hb
  replace B3 := Lib.hid (blk_alloc B3.out (.cells #[.int .i64 x1, .string x2] 26 (0, 0)))
  replace B4 := Lib.hid (blk_alloc B4.out (.cells #[.int .i64 x1, .string x2] 26 (0, 0)))
  have Ba := Lib.hid (blk_new w2 (.cells #[.int .i64 x1, .string x2] 26 (0, 0)))
  replace HB0 := Lib.hid (HB0.out.alloc HB0.out.size (.cells #[.int .i64 x1, .string x2] 26 (0, 0)))
  have c30 : (w2.alloc (.cells #[.int .i64 x1, .string x2] 26 (0, 0))).cell? ⟨w.heap.size, 0, none⟩ = some (.int .u16 v0) := blk_cell B3.out 0
  have c31 : (w2.alloc (.cells #[.int .i64 x1, .string x2] 26 (0, 0))).cell? ⟨w.heap.size, 1, none⟩ = some (.int .u16 v1) := blk_cell B3.out 1
  have c40 : (w2.alloc (.cells #[.int .i64 x1, .string x2] 26 (0, 0))).cell? ⟨(w.heap.size + 1), 0, none⟩ = some (.string r0) := blk_cell B4.out 0
  have c41 : (w2.alloc (.cells #[.int .i64 x1, .string x2] 26 (0, 0))).cell? ⟨(w.heap.size + 1), 1, none⟩ = some (.string r1) := blk_cell B4.out 1
  have ca0 : (w2.alloc (.cells #[.int .i64 x1, .string x2] 26 (0, 0))).cell? ⟨w2.heap.size, 0, none⟩ = some (.int .i64 x1) := blk_cell Ba.out 0
  have ca1 : (w2.alloc (.cells #[.int .i64 x1, .string x2] 26 (0, 0))).cell? ⟨w2.heap.size, 1, none⟩ = some (.string x2) := blk_cell Ba.out 1
  go_wp2_with fail
  generalize (w2.alloc (.cells #[.int .i64 x1, .string x2] 26 (0, 0))) = wa at *
  rw [e1]
  refine (epoch_New.calls v1 r1 y1 y2 f wa HY.out).mono ?_
  rintro er w3 ⟨rfl, hb⟩
  clear c30 c31 c40 c41 ca0 ca1
  replace B3 := Lib.hid (blk_below B3.out hb)
  replace B4 := Lib.hid (blk_below B4.out hb)
  replace Ba := Lib.hid (blk_below Ba.out hb)
  replace HB0 := Lib.hid (HB0.out.trans (hb.mono HB0.out.size))
  clear hb
  replace B3 := Lib.hid (blk_alloc B3.out (.cells #[.int .i64 y1, .string y2] 26 (0, 0)))
  replace B4 := Lib.hid (blk_alloc B4.out (.cells #[.int .i64 y1, .string y2] 26 (0, 0)))
  replace Ba := Lib.hid (blk_alloc Ba.out (.cells #[.int .i64 y1, .string y2] 26 (0, 0)))
  have Bb := Lib.hid (blk_new w3 (.cells #[.int .i64 y1, .string y2] 26 (0, 0)))
  replace HB0 := Lib.hid (HB0.out.alloc HB0.out.size (.cells #[.int .i64 y1, .string y2] 26 (0, 0)))
  have c30 : (w3.alloc (.cells #[.int .i64 y1, .string y2] 26 (0, 0))).cell? ⟨w.heap.size, 0, none⟩ = some (.int .u16 v0) := blk_cell B3.out 0
  have c31 : (w3.alloc (.cells #[.int .i64 y1, .string y2] 26 (0, 0))).cell? ⟨w.heap.size, 1, none⟩ = some (.int .u16 v1) := blk_cell B3.out 1
  have c40 : (w3.alloc (.cells #[.int .i64 y1, .string y2] 26 (0, 0))).cell? ⟨(w.heap.size + 1), 0, none⟩ = some (.string r0) := blk_cell B4.out 0
  have c41 : (w3.alloc (.cells #[.int .i64 y1, .string y2] 26 (0, 0))).cell? ⟨(w.heap.size + 1), 1, none⟩ = some (.string r1) := blk_cell B4.out 1
  have ca0 : (w3.alloc (.cells #[.int .i64 y1, .string y2] 26 (0, 0))).cell? ⟨w2.heap.size, 0, none⟩ = some (.int .i64 x1) := blk_cell Ba.out 0
  have ca1 : (w3.alloc (.cells #[.int .i64 y1, .string y2] 26 (0, 0))).cell? ⟨w2.heap.size, 1, none⟩ = some (.string x2) := blk_cell Ba.out 1
  have cb0 : (w3.alloc (.cells #[.int .i64 y1, .string y2] 26 (0, 0))).cell? ⟨w3.heap.size, 0, none⟩ = some (.int .i64 y1) := blk_cell Bb.out 0
  have cb1 : (w3.alloc (.cells #[.int .i64 y1, .string y2] 26 (0, 0))).cell? ⟨w3.heap.size, 1, none⟩ = some (.string y2) := blk_cell Bb.out 1
  by_cases f0 : e = 0
  rotate_left
  · have f1 : (e != 0) = true := by simpa using f0
    go_wp2_with fail
    go_ret
    exact ⟨rfl, HB0.out⟩
  subst f0
  by_cases f0 : f = 0
  rotate_left
  · have f1 : (f != 0) = true := by simpa using f0
    go_wp2_with fail
    go_ret
    exact ⟨rfl, HB0.out⟩
  subst f0
  go_wp2_with fail
  generalize (w3.alloc (.cells #[.int .i64 y1, .string y2] 26 (0, 0))) = wb at *
  refine (epoch_Seal.calls x1 x2 text s1 s2 g wb HS.out).mono ?_
  rintro er w4 ⟨rfl, hb⟩
  clear c30 c31 c40 c41 ca0 ca1 cb0 cb1
  replace B3 := Lib.hid (blk_below B3.out hb)
  replace B4 := Lib.hid (blk_below B4.out hb)
  replace Ba := Lib.hid (blk_below Ba.out hb)
  replace Bb := Lib.hid (blk_below Bb.out hb)
  replace HB0 := Lib.hid (HB0.out.trans (hb.mono HB0.out.size))
  clear hb
  replace B3 := Lib.hid (blk_alloc B3.out (.cells #[.int .i64 s1, .string s2] 33 (0, 0)))
  replace B4 := Lib.hid (blk_alloc B4.out (.cells #[.int .i64 s1, .string s2] 33 (0, 0)))
  replace Ba := Lib.hid (blk_alloc Ba.out (.cells #[.int .i64 s1, .string s2] 33 (0, 0)))
  replace Bb := Lib.hid (blk_alloc Bb.out (.cells #[.int .i64 s1, .string s2] 33 (0, 0)))
  have Bs := Lib.hid (blk_new w4 (.cells #[.int .i64 s1, .string s2] 33 (0, 0)))
  replace HB0 := Lib.hid (HB0.out.alloc HB0.out.size (.cells #[.int .i64 s1, .string s2] 33 (0, 0)))
  have c30 : (w4.alloc (.cells #[.int .i64 s1, .string s2] 33 (0, 0))).cell? ⟨w.heap.size, 0, none⟩ = some (.int .u16 v0) := blk_cell B3.out 0
  have c31 : (w4.alloc (.cells #[.int .i64 s1, .string s2] 33 (0, 0))).cell? ⟨w.heap.size, 1, none⟩ = some (.int .u16 v1) := blk_cell B3.out 1
  have c40 : (w4.alloc (.cells #[.int .i64 s1, .string s2] 33 (0, 0))).cell? ⟨(w.heap.size + 1), 0, none⟩ = some (.string r0) := blk_cell B4.out 0
  have c41 : (w4.alloc (.cells #[.int .i64 s1, .string s2] 33 (0, 0))).cell? ⟨(w.heap.size + 1), 1, none⟩ = some (.string r1) := blk_cell B4.out 1
  have ca0 : (w4.alloc (.cells #[.int .i64 s1, .string s2] 33 (0, 0))).cell? ⟨w2.heap.size, 0, none⟩ = some (.int .i64 x1) := blk_cell Ba.out 0
  have ca1 : (w4.alloc (.cells #[.int .i64 s1, .string s2] 33 (0, 0))).cell? ⟨w2.heap.size, 1, none⟩ = some (.string x2) := blk_cell Ba.out 1
  have cb0 : (w4.alloc (.cells #[.int .i64 s1, .string s2] 33 (0, 0))).cell? ⟨w3.heap.size, 0, none⟩ = some (.int .i64 y1) := blk_cell Bb.out 0
  have cb1 : (w4.alloc (.cells #[.int .i64 s1, .string s2] 33 (0, 0))).cell? ⟨w3.heap.size, 1, none⟩ = some (.string y2) := blk_cell Bb.out 1
  have cs0 : (w4.alloc (.cells #[.int .i64 s1, .string s2] 33 (0, 0))).cell? ⟨w4.heap.size, 0, none⟩ = some (.int .i64 s1) := blk_cell Bs.out 0
  have cs1 : (w4.alloc (.cells #[.int .i64 s1, .string s2] 33 (0, 0))).cell? ⟨w4.heap.size, 1, none⟩ = some (.string s2) := blk_cell Bs.out 1
  by_cases f0 : g = 0
  rotate_left
  · have f1 : (g != 0) = true := by simpa using f0
    by_cases q1 : (text.size : Int) > 40 ∧ g = 3
    · obtain ⟨q1, rfl⟩ := q1
      go_wp2_with fail
      go_ret
      exact ⟨rfl, HB0.out⟩
    by_cases q2 : (r0.size : Int) > 1500
    · by_cases q3 : (text.size : Int) > 40
      · have q4 : (g == 3) = false := by
          rw [beq_eq_false_iff_ne]; exact fun e => q1 ⟨q3, e⟩
        go_wp2_with fail
        go_ret
        exact ⟨rfl, HB0.out⟩
      · go_wp2_with fail
        go_ret
        exact ⟨rfl, HB0.out⟩
    obtain ⟨kd, dd, hd, hd5⟩ := HD.out rfl rfl f0 q1 (by omega)
    have HDD := Lib.hid hd; clear hd
    by_cases q3 : (text.size : Int) > 40
    · have q4 : (g == 3) = false := by
        rw [beq_eq_false_iff_ne]; exact fun e => q1 ⟨q3, e⟩
      clear q1
      go_wp2_with fail
      generalize (w4.alloc (.cells #[.int .i64 s1, .string s2] 33 (0, 0))) = ws at *
      refine (chantryref03_Depth.calls kd r0 dd ws HDD.out).mono ?_
      rintro er w5 ⟨rfl, hb⟩
      replace HB0 := Lib.hid (HB0.out.trans (hb.mono HB0.out.size))
      go_wp2_with fail
      go_ret
      exact ⟨rfl, HB0.out⟩
    · clear q1
      go_wp2_with fail
      generalize (w4.alloc (.cells #[.int .i64 s1, .string s2] 33 (0, 0))) = ws at *
      refine (chantryref03_Depth.calls kd r0 dd ws HDD.out).mono ?_
      rintro er w5 ⟨rfl, hb⟩
      replace HB0 := Lib.hid (HB0.out.trans (hb.mono HB0.out.size))
      go_wp2_with fail
      go_ret
      exact ⟨rfl, HB0.out⟩
  subst f0
  go_wp2_with fail
  generalize (w4.alloc (.cells #[.int .i64 s1, .string s2] 33 (0, 0))) = ws at *
  refine (epoch_Open.calls x1 x2 s1 s2 o1 h ws HO.out).mono ?_
  rintro er w5 ⟨rfl, hb⟩
  clear c30 c31 c40 c41 ca0 ca1 cb0 cb1 cs0 cs1
  replace B3 := Lib.hid (blk_below B3.out hb)
  replace B4 := Lib.hid (blk_below B4.out hb)
  replace Ba := Lib.hid (blk_below Ba.out hb)
  replace Bb := Lib.hid (blk_below Bb.out hb)
  replace Bs := Lib.hid (blk_below Bs.out hb)
  replace HB0 := Lib.hid (HB0.out.trans (hb.mono HB0.out.size))
  clear hb
  have c30 : w5.cell? ⟨w.heap.size, 0, none⟩ = some (.int .u16 v0) := blk_cell B3.out 0
  have c31 : w5.cell? ⟨w.heap.size, 1, none⟩ = some (.int .u16 v1) := blk_cell B3.out 1
  have c40 : w5.cell? ⟨(w.heap.size + 1), 0, none⟩ = some (.string r0) := blk_cell B4.out 0
  have c41 : w5.cell? ⟨(w.heap.size + 1), 1, none⟩ = some (.string r1) := blk_cell B4.out 1
  have ca0 : w5.cell? ⟨w2.heap.size, 0, none⟩ = some (.int .i64 x1) := blk_cell Ba.out 0
  have ca1 : w5.cell? ⟨w2.heap.size, 1, none⟩ = some (.string x2) := blk_cell Ba.out 1
  have cb0 : w5.cell? ⟨w3.heap.size, 0, none⟩ = some (.int .i64 y1) := blk_cell Bb.out 0
  have cb1 : w5.cell? ⟨w3.heap.size, 1, none⟩ = some (.string y2) := blk_cell Bb.out 1
  have cs0 : w5.cell? ⟨w4.heap.size, 0, none⟩ = some (.int .i64 s1) := blk_cell Bs.out 0
  have cs1 : w5.cell? ⟨w4.heap.size, 1, none⟩ = some (.string s2) := blk_cell Bs.out 1
  go_wp2_with fail
  refine (epoch_Open.calls y1 y2 s1 s2 o2 i w5 HI.out).mono ?_
  rintro er w6 ⟨rfl, hb⟩
  clear c30 c31 c40 c41 ca0 ca1 cb0 cb1 cs0 cs1
  replace B3 := Lib.hid (blk_below B3.out hb)
  replace B4 := Lib.hid (blk_below B4.out hb)
  replace Ba := Lib.hid (blk_below Ba.out hb)
  replace Bb := Lib.hid (blk_below Bb.out hb)
  replace Bs := Lib.hid (blk_below Bs.out hb)
  replace HB0 := Lib.hid (HB0.out.trans (hb.mono HB0.out.size))
  clear hb
  have c30 : w6.cell? ⟨w.heap.size, 0, none⟩ = some (.int .u16 v0) := blk_cell B3.out 0
  have c31 : w6.cell? ⟨w.heap.size, 1, none⟩ = some (.int .u16 v1) := blk_cell B3.out 1
  have c40 : w6.cell? ⟨(w.heap.size + 1), 0, none⟩ = some (.string r0) := blk_cell B4.out 0
  have c41 : w6.cell? ⟨(w.heap.size + 1), 1, none⟩ = some (.string r1) := blk_cell B4.out 1
  have ca0 : w6.cell? ⟨w2.heap.size, 0, none⟩ = some (.int .i64 x1) := blk_cell Ba.out 0
  have ca1 : w6.cell? ⟨w2.heap.size, 1, none⟩ = some (.string x2) := blk_cell Ba.out 1
  have cb0 : w6.cell? ⟨w3.heap.size, 0, none⟩ = some (.int .i64 y1) := blk_cell Bb.out 0
  have cb1 : w6.cell? ⟨w3.heap.size, 1, none⟩ = some (.string y2) := blk_cell Bb.out 1
  have cs0 : w6.cell? ⟨w4.heap.size, 0, none⟩ = some (.int .i64 s1) := blk_cell Bs.out 0
  have cs1 : w6.cell? ⟨w4.heap.size, 1, none⟩ = some (.string s2) := blk_cell Bs.out 1
  go_wp2_with fail
  refine (epoch_Open.calls y1 y2 y1 s2 o3 j w6 HJ.out).mono ?_
  rintro er w7 ⟨rfl, hb⟩
  clear c30 c31 c40 c41 ca0 ca1 cb0 cb1 cs0 cs1
  replace B3 := Lib.hid (blk_below B3.out hb)
  replace B4 := Lib.hid (blk_below B4.out hb)
  replace Ba := Lib.hid (blk_below Ba.out hb)
  replace Bb := Lib.hid (blk_below Bb.out hb)
  replace Bs := Lib.hid (blk_below Bs.out hb)
  replace HB0 := Lib.hid (HB0.out.trans (hb.mono HB0.out.size))
  clear hb
  have c30 : w7.cell? ⟨w.heap.size, 0, none⟩ = some (.int .u16 v0) := blk_cell B3.out 0
  have c31 : w7.cell? ⟨w.heap.size, 1, none⟩ = some (.int .u16 v1) := blk_cell B3.out 1
  have c40 : w7.cell? ⟨(w.heap.size + 1), 0, none⟩ = some (.string r0) := blk_cell B4.out 0
  have c41 : w7.cell? ⟨(w.heap.size + 1), 1, none⟩ = some (.string r1) := blk_cell B4.out 1
  have ca0 : w7.cell? ⟨w2.heap.size, 0, none⟩ = some (.int .i64 x1) := blk_cell Ba.out 0
  have ca1 : w7.cell? ⟨w2.heap.size, 1, none⟩ = some (.string x2) := blk_cell Ba.out 1
  have cb0 : w7.cell? ⟨w3.heap.size, 0, none⟩ = some (.int .i64 y1) := blk_cell Bb.out 0
  have cb1 : w7.cell? ⟨w3.heap.size, 1, none⟩ = some (.string y2) := blk_cell Bb.out 1
  have cs0 : w7.cell? ⟨w4.heap.size, 0, none⟩ = some (.int .i64 s1) := blk_cell Bs.out 0
  have cs1 : w7.cell? ⟨w4.heap.size, 1, none⟩ = some (.string s2) := blk_cell Bs.out 1
  obtain ⟨p1, p2, p3, p4⟩ := HF.out rfl rfl rfl
  subst p1; subst p2
  by_cases one : v0 = v1 ∧ r0 = r1
  · have p5 := p3.2 one
    have p6 := p4.2 one
    obtain ⟨rfl, rfl⟩ := one
    subst p5; subst p6
    clear p3 p4
    go_wp2_with fail
    go_ret
    exact ⟨by first | rfl | simp, HB0.out⟩
  · have p5 : (i == 0) = false := by rw [beq_eq_false_iff_ne]; exact fun e => one (p3.1 e)
    have p6 : (j == 0) = false := by rw [beq_eq_false_iff_ne]; exact fun e => one (p4.1 e)
    clear p3 p4
    by_cases u0 : v0 = v1
    · have u1 : (r0.toList == r1.toList) = false := by
        rw [beq_eq_false_iff_ne]; exact fun e => one ⟨u0, (toList_iff _ _).1 e⟩
      clear one
      subst u0
      go_wp2_with fail
      go_ret
      exact ⟨by first | rfl | simp, HB0.out⟩
    · have u1 : (v0 == v1) = false := by rw [beq_eq_false_iff_ne]; exact u0
      clear one
      go_wp2_with fail
      go_ret
      exact ⟨by first | rfl | simp, HB0.out⟩
end Go.Proofs.Ytmdpkooiehlbcaa.Ev16
