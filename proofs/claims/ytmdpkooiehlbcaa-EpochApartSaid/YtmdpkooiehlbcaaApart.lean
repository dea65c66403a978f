/- EpochApart: its walk, by hand. -/
import Derived.Test.YtmdpkooiehlbcaaEv16f
import Derived.Test.YtmdpkooiehlbcaaEv16b
import Derived.Deep.QuietTactic
import Derived.BigQuiet
set_option linter.unusedVariables false
set_option linter.unusedSimpArgs false
namespace Go.Proofs.Ytmdpkooiehlbcaa.Ev16
open Go.RowKit Go.Proofs.Ytmdpkooiehlbcaa.Pr Go.Proofs.YtmdpkooiehlbcaaW.PrintWords Go.Proofs.YtmdpkooiehlbcaaW.PrintLast Go.Proofs.YtmdpkooiehlbcaaW.PrintMore Go.Proofs.Ytmdpkooiehlbcaa.TT Go.Proofs.Ytmdpkooiehlbcaa.Ev03

def ApartFact (e f g h x1 y1 s1 t1 : Int) (x2 y2 s2 t2 m0 m1 : ByteArray) (v0 v1 : Int) (r0 r1 : ByteArray) : Prop := e = 0 → f = 0 → g = 0 → h = 0 → (x1 = y1 ∧ x2 = y2 ↔ v0 = v1 ∧ r0 = r1) ∧ (s1 = t1 ∧ s2 = t2 ↔ (v0 = v1 ∧ r0 = r1) ∧ m0 = m1)
theorem ne_list {a b : ByteArray} (h : ¬ a = b) : (a.toList == b.toList) = false := by
  rw [beq_eq_false_iff_ne]; exact fun e => h ((toList_iff _ _).1 e)
theorem ne_list' {a b : ByteArray} (h : ¬ a = b) : ¬ a.toList = b.toList := fun e => h ((toList_iff _ _).1 e)
theorem ne_int {a b : Int} (h : ¬ a = b) : (a == b) = false := by rw [beq_eq_false_iff_ne]; exact h
set_option maxHeartbeats 6400000 in
set_option maxRecDepth 100000 in
theorem apart_core (v0 v1 : Int) (hv0 : 0 ≤ v0 ∧ v0 < 65536) (hv1 : 0 ≤ v1 ∧ v1 < 65536) (r0 r1 m0 m1 : ByteArray) (w : World) (x1 y1 s1 t1 : Int) (x2 y2 s2 t2 : ByteArray) (e f g h : Int)
    (hx : epoch_New.f v0 r0 = some (x1, x2, e)) (hy : epoch_New.f v1 r1 = some (y1, y2, f)) (hs : epoch_Seal.f x1 x2 m0 = some (s1, s2, g)) (ht : epoch_Seal.f y1 y2 m1 = some (t1, t2, h))
    (hf : ApartFact e f g h x1 y1 s1 t1 x2 y2 s2 t2 m0 m1 v0 v1 r0 r1) :
    Calls Try.prog 6 #[.agg #[.int .u16 v0, .int .u16 v1], .agg #[.string r0, .string r1], .agg #[.string m0, .string m1]] w fun e w' => e = .returned (.bool true) ∧ Below w.heap.size w w' := by
  have HX := Lib.hid hx; have HY := Lib.hid hy; have HS := Lib.hid hs; have HT := Lib.hid ht; have HF := Lib.hid hf
  clear hx hy hs ht hf
  have e0 : wrap64 v0 = v0 := by unfold wrap64; omega
  have e1 : wrap64 v1 = v1 := by unfold wrap64; omega
  clear hv0 hv1
  have HB0 := Lib.hid ((((Below.refl w.heap.size w).alloc (Nat.le_refl _) (.cells #[.int .u16 v0, .int .u16 v1] 48 (0, 0))).alloc (by simp) (.cells #[.string r0, .string r1] 49 (0, 0))).alloc (by simp; omega) (.cells #[.string m0, .string m1] 52 (0, 0)))
  go_enter Try.func6, Try.ntmps6
  go_wp2_with fail
  have B3 := Lib.hid (blk_alloc (blk_alloc (blk_new w (.cells #[.int .u16 v0, .int .u16 v1] 48 (0, 0))) (.cells #[.string r0, .string r1] 49 (0, 0))) (.cells #[.string m0, .string m1] 52 (0, 0)))
  have B4 := Lib.hid (blk_alloc (blk_new (w.alloc (.cells #[.int .u16 v0, .int .u16 v1] 48 (0, 0))) (.cells #[.string r0, .string r1] 49 (0, 0))) (.cells #[.string m0, .string m1] 52 (0, 0)))
  have B5 := Lib.hid (blk_new ((w.alloc (.cells #[.int .u16 v0, .int .u16 v1] 48 (0, 0))).alloc (.cells #[.string r0, .string r1] 49 (0, 0))) (.cells #[.string m0, .string m1] 52 (0, 0)))
  have hg4 : (w.alloc (.cells #[.int .u16 v0, .int .u16 v1] 48 (0, 0))).heap.size = w.heap.size + 1 := by simp
  have hg5 : ((w.alloc (.cells #[.int .u16 v0, .int .u16 v1] 48 (0, 0))).alloc (.cells #[.string r0, .string r1] 49 (0, 0))).heap.size = w.heap.size + 2 := by simp
  rw [hg4] at B4
  rw [hg5] at B5
  clear hg4 hg5
  generalize ((w.alloc (.cells #[.int .u16 v0, .int .u16 v1] 48 (0, 0))).alloc (.cells #[.string r0, .string r1] 49 (0, 0))).alloc (.cells #[.string m0, .string m1] 52 (0, 0)) = w0 at *
  refine (chantrylaw16_alive.calls true w0 alive16).mono ?_
  rintro er w1 ⟨rfl, hb⟩
  replace B3 := Lib.hid (blk_below B3.out hb)
  replace B4 := Lib.hid (blk_below B4.out hb)
  replace B5 := Lib.hid (blk_below B5.out hb)
  replace HB0 := Lib.hid (HB0.out.trans (hb.mono HB0.out.size))
  clear hb
  have c30 : w1.cell? ⟨w.heap.size, 0, none⟩ = some (.int .u16 v0) := blk_cell B3.out 0
  have c31 : w1.cell? ⟨w.heap.size, 1, none⟩ = some (.int .u16 v1) := blk_cell B3.out 1
  have c40 : w1.cell? ⟨(w.heap.size + 1), 0, none⟩ = some (.string r0) := blk_cell B4.out 0
  have c41 : w1.cell? ⟨(w.heap.size + 1), 1, none⟩ = some (.string r1) := blk_cell B4.out 1
  have c50 : w1.cell? ⟨(w.heap.size + 2), 0, none⟩ = some (.string m0) := blk_cell B5.out 0
  have c51 : w1.cell? ⟨(w.heap.size + 2), 1, none⟩ = some (.string m1) := blk_cell B5.out 1
  by_cases z0 : (r0.size : Int) > 2100
  · go_wp2_with fail
    go_ret
    exact ⟨rfl, HB0.out⟩
  by_cases z1 : (r1.size : Int) > 2100
  · go_wp2_with fail
    go_ret
    exact ⟨rfl, HB0.out⟩
  by_cases z2 : (m0.size : Int) > 40
  · go_wp2_with fail
    go_ret
    exact ⟨rfl, HB0.out⟩
  by_cases z3 : (m1.size : Int) > 40
  · go_wp2_with fail
    go_ret
    exact ⟨rfl, HB0.out⟩
  go_wp2_with fail
  rw [e0]
  refine (epoch_New.calls v0 r0 x1 x2 e w1 HX.out).mono ?_
  rintro er w2 ⟨rfl, hb⟩
  clear c30 c31 c40 c41 c50 c51
  replace B3 := Lib.hid (blk_below B3.out hb)
  replace B4 := Lib.hid (blk_below B4.out hb)
  replace B5 := Lib.hid (blk_below B5.out hb)
  replace HB0 := Lib.hid (HB0.out.trans (hb.mono HB0.out.size))
  clear hb
  replace B3 := Lib.hid (blk_alloc B3.out (.cells #[.int .i64 x1, .string x2] 26 (0, 0)))
  replace B4 := Lib.hid (blk_alloc B4.out (.cells #[.int .i64 x1, .string x2] 26 (0, 0)))
  replace B5 := Lib.hid (blk_alloc B5.out (.cells #[.int .i64 x1, .string x2] 26 (0, 0)))
  have Ba := Lib.hid (blk_new w2 (.cells #[.int .i64 x1, .string x2] 26 (0, 0)))
  replace HB0 := Lib.hid (HB0.out.alloc HB0.out.size (.cells #[.int .i64 x1, .string x2] 26 (0, 0)))
  have c30 : (w2.alloc (.cells #[.int .i64 x1, .string x2] 26 (0, 0))).cell? ⟨w.heap.size, 0, none⟩ = some (.int .u16 v0) := blk_cell B3.out 0
  have c31 : (w2.alloc (.cells #[.int .i64 x1, .string x2] 26 (0, 0))).cell? ⟨w.heap.size, 1, none⟩ = some (.int .u16 v1) := blk_cell B3.out 1
  have c40 : (w2.alloc (.cells #[.int .i64 x1, .string x2] 26 (0, 0))).cell? ⟨(w.heap.size + 1), 0, none⟩ = some (.string r0) := blk_cell B4.out 0
  have c41 : (w2.alloc (.cells #[.int .i64 x1, .string x2] 26 (0, 0))).cell? ⟨(w.heap.size + 1), 1, none⟩ = some (.string r1) := blk_cell B4.out 1
  have c50 : (w2.alloc (.cells #[.int .i64 x1, .string x2] 26 (0, 0))).cell? ⟨(w.heap.size + 2), 0, none⟩ = some (.string m0) := blk_cell B5.out 0
  have c51 : (w2.alloc (.cells #[.int .i64 x1, .string x2] 26 (0, 0))).cell? ⟨(w.heap.size + 2), 1, none⟩ = some (.string m1) := blk_cell B5.out 1
  have ca0 : (w2.alloc (.cells #[.int .i64 x1, .string x2] 26 (0, 0))).cell? ⟨w2.heap.size, 0, none⟩ = some (.int .i64 x1) := blk_cell Ba.out 0
  have ca1 : (w2.alloc (.cells #[.int .i64 x1, .string x2] 26 (0, 0))).cell? ⟨w2.heap.size, 1, none⟩ = some (.string x2) := blk_cell Ba.out 1
  go_wp2_with fail
  generalize (w2.alloc (.cells #[.int .i64 x1, .string x2] 26 (0, 0))) = wa at *
  rw [e1]
  refine (epoch_New.calls v1 r1 y1 y2 f wa HY.out).mono ?_
  rintro er w3 ⟨rfl, hb⟩
  clear c30 c31 c40 c41 c50 c51 ca0 ca1
  replace B3 := Lib.hid (blk_below B3.out hb)
  replace B4 := Lib.hid (blk_below B4.out hb)
  replace B5 := Lib.hid (blk_below B5.out hb)
  replace Ba := Lib.hid (blk_below Ba.out hb)
  replace HB0 := Lib.hid (HB0.out.trans (hb.mono HB0.out.size))
  clear hb
  replace B3 := Lib.hid (blk_alloc B3.out (.cells #[.int .i64 y1, .string y2] 26 (0, 0)))
  replace B4 := Lib.hid (blk_alloc B4.out (.cells #[.int .i64 y1, .string y2] 26 (0, 0)))
  replace B5 := Lib.hid (blk_alloc B5.out (.cells #[.int .i64 y1, .string y2] 26 (0, 0)))
  replace Ba := Lib.hid (blk_alloc Ba.out (.cells #[.int .i64 y1, .string y2] 26 (0, 0)))
  have Bb := Lib.hid (blk_new w3 (.cells #[.int .i64 y1, .string y2] 26 (0, 0)))
  replace HB0 := Lib.hid (HB0.out.alloc HB0.out.size (.cells #[.int .i64 y1, .string y2] 26 (0, 0)))
  have c30 : (w3.alloc (.cells #[.int .i64 y1, .string y2] 26 (0, 0))).cell? ⟨w.heap.size, 0, none⟩ = some (.int .u16 v0) := blk_cell B3.out 0
  have c31 : (w3.alloc (.cells #[.int .i64 y1, .string y2] 26 (0, 0))).cell? ⟨w.heap.size, 1, none⟩ = some (.int .u16 v1) := blk_cell B3.out 1
  have c40 : (w3.alloc (.cells #[.int .i64 y1, .string y2] 26 (0, 0))).cell? ⟨(w.heap.size + 1), 0, none⟩ = some (.string r0) := blk_cell B4.out 0
  have c41 : (w3.alloc (.cells #[.int .i64 y1, .string y2] 26 (0, 0))).cell? ⟨(w.heap.size + 1), 1, none⟩ = some (.string r1) := blk_cell B4.out 1
  have c50 : (w3.alloc (.cells #[.int .i64 y1, .string y2] 26 (0, 0))).cell? ⟨(w.heap.size + 2), 0, none⟩ = some (.string m0) := blk_cell B5.out 0
  have c51 : (w3.alloc (.cells #[.int .i64 y1, .string y2] 26 (0, 0))).cell? ⟨(w.heap.size + 2), 1, none⟩ = some (.string m1) := blk_cell B5.out 1
  have ca0 : (w3.alloc (.cells #[.int .i64 y1, .string y2] 26 (0, 0))).cell? ⟨w2.heap.size, 0, none⟩ = some (.int .i64 x1) := blk_cell Ba.out 0
  have ca1 : (w3.alloc (.cells #[.int .i64 y1, .string y2] 26 (0, 0))).cell? ⟨w2.heap.size, 1, none⟩ = some (.string x2) := blk_cell Ba.out 1
  have cb0 : (w3.alloc (.cells #[.int .i64 y1, .string y2] 26 (0, 0))).cell? ⟨w3.heap.size, 0, none⟩ = some (.int .i64 y1) := blk_cell Bb.out 0
  have cb1 : (w3.alloc (.cells #[.int .i64 y1, .string y2] 26 (0, 0))).cell? ⟨w3.heap.size, 1, none⟩ = some (.string y2) := blk_cell Bb.out 1
  by_cases f0 : e = 0
  rotate_left
  · have f1 : (e != 0) = true := by simpa using f0
    go_wp2_with fail
    go_ret
    exact ⟨rfl, HB0.out⟩
  subst f0
  by_cases f0 : f = 0
  rotate_left
  · have f1 : (f != 0) = true := by simpa using f0
    go_wp2_with fail
    go_ret
    exact ⟨rfl, HB0.out⟩
  subst f0
  go_wp2_with fail
  generalize (w3.alloc (.cells #[.int .i64 y1, .string y2] 26 (0, 0))) = wb at *
  refine (epoch_Seal.calls x1 x2 m0 s1 s2 g wb HS.out).mono ?_
  rintro er w4 ⟨rfl, hb⟩
  clear c30 c31 c40 c41 c50 c51 ca0 ca1 cb0 cb1
  replace B3 := Lib.hid (blk_below B3.out hb)
  replace B4 := Lib.hid (blk_below B4.out hb)
  replace B5 := Lib.hid (blk_below B5.out hb)
  replace Ba := Lib.hid (blk_below Ba.out hb)
  replace Bb := Lib.hid (blk_below Bb.out hb)
  replace HB0 := Lib.hid (HB0.out.trans (hb.mono HB0.out.size))
  clear hb
  replace B3 := Lib.hid (blk_alloc B3.out (.cells #[.int .i64 s1, .string s2] 33 (0, 0)))
  replace B4 := Lib.hid (blk_alloc B4.out (.cells #[.int .i64 s1, .string s2] 33 (0, 0)))
  replace B5 := Lib.hid (blk_alloc B5.out (.cells #[.int .i64 s1, .string s2] 33 (0, 0)))
  replace Ba := Lib.hid (blk_alloc Ba.out (.cells #[.int .i64 s1, .string s2] 33 (0, 0)))
  replace Bb := Lib.hid (blk_alloc Bb.out (.cells #[.int .i64 s1, .string s2] 33 (0, 0)))
  have Bs := Lib.hid (blk_new w4 (.cells #[.int .i64 s1, .string s2] 33 (0, 0)))
  replace HB0 := Lib.hid (HB0.out.alloc HB0.out.size (.cells #[.int .i64 s1, .string s2] 33 (0, 0)))
  have c30 : (w4.alloc (.cells #[.int .i64 s1, .string s2] 33 (0, 0))).cell? ⟨w.heap.size, 0, none⟩ = some (.int .u16 v0) := blk_cell B3.out 0
  have c31 : (w4.alloc (.cells #[.int .i64 s1, .string s2] 33 (0, 0))).cell? ⟨w.heap.size, 1, none⟩ = some (.int .u16 v1) := blk_cell B3.out 1
  have c40 : (w4.alloc (.cells #[.int .i64 s1, .string s2] 33 (0, 0))).cell? ⟨(w.heap.size + 1), 0, none⟩ = some (.string r0) := blk_cell B4.out 0
  have c41 : (w4.alloc (.cells #[.int .i64 s1, .string s2] 33 (0, 0))).cell? ⟨(w.heap.size + 1), 1, none⟩ = some (.string r1) := blk_cell B4.out 1
  have c50 : (w4.alloc (.cells #[.int .i64 s1, .string s2] 33 (0, 0))).cell? ⟨(w.heap.size + 2), 0, none⟩ = some (.string m0) := blk_cell B5.out 0
  have c51 : (w4.alloc (.cells #[.int .i64 s1, .string s2] 33 (0, 0))).cell? ⟨(w.heap.size + 2), 1, none⟩ = some (.string m1) := blk_cell B5.out 1
  have ca0 : (w4.alloc (.cells #[.int .i64 s1, .string s2] 33 (0, 0))).cell? ⟨w2.heap.size, 0, none⟩ = some (.int .i64 x1) := blk_cell Ba.out 0
  have ca1 : (w4.alloc (.cells #[.int .i64 s1, .string s2] 33 (0, 0))).cell? ⟨w2.heap.size, 1, none⟩ = some (.string x2) := blk_cell Ba.out 1
  have cb0 : (w4.alloc (.cells #[.int .i64 s1, .string s2] 33 (0, 0))).cell? ⟨w3.heap.size, 0, none⟩ = some (.int .i64 y1) := blk_cell Bb.out 0
  have cb1 : (w4.alloc (.cells #[.int .i64 s1, .string s2] 33 (0, 0))).cell? ⟨w3.heap.size, 1, none⟩ = some (.string y2) := blk_cell Bb.out 1
  have cs0 : (w4.alloc (.cells #[.int .i64 s1, .string s2] 33 (0, 0))).cell? ⟨w4.heap.size, 0, none⟩ = some (.int .i64 s1) := blk_cell Bs.out 0
  have cs1 : (w4.alloc (.cells #[.int .i64 s1, .string s2] 33 (0, 0))).cell? ⟨w4.heap.size, 1, none⟩ = some (.string s2) := blk_cell Bs.out 1
  go_wp2_with fail
  generalize (w4.alloc (.cells #[.int .i64 s1, .string s2] 33 (0, 0))) = wc at *
  refine (epoch_Seal.calls y1 y2 m1 t1 t2 h wc HT.out).mono ?_
  rintro er w5 ⟨rfl, hb⟩
  clear c30 c31 c40 c41 c50 c51 ca0 ca1 cb0 cb1 cs0 cs1
  replace B3 := Lib.hid (blk_below B3.out hb)
  replace B4 := Lib.hid (blk_below B4.out hb)
  replace B5 := Lib.hid (blk_below B5.out hb)
  replace Ba := Lib.hid (blk_below Ba.out hb)
  replace Bb := Lib.hid (blk_below Bb.out hb)
  replace Bs := Lib.hid (blk_below Bs.out hb)
  replace HB0 := Lib.hid (HB0.out.trans (hb.mono HB0.out.size))
  clear hb
  replace B3 := Lib.hid (blk_alloc B3.out (.cells #[.int .i64 t1, .string t2] 33 (0, 0)))
  replace B4 := Lib.hid (blk_alloc B4.out (.cells #[.int .i64 t1, .string t2] 33 (0, 0)))
  replace B5 := Lib.hid (blk_alloc B5.out (.cells #[.int .i64 t1, .string t2] 33 (0, 0)))
  replace Ba := Lib.hid (blk_alloc Ba.out (.cells #[.int .i64 t1, .string t2] 33 (0, 0)))
  replace Bb := Lib.hid (blk_alloc Bb.out (.cells #[.int .i64 t1, .string t2] 33 (0, 0)))
  replace Bs := Lib.hid (blk_alloc Bs.out (.cells #[.int .i64 t1, .string t2] 33 (0, 0)))
  have Bt := Lib.hid (blk_new w5 (.cells #[.int .i64 t1, .string t2] 33 (0, 0)))
  replace HB0 := Lib.hid (HB0.out.alloc HB0.out.size (.cells #[.int .i64 t1, .string t2] 33 (0, 0)))
  have c30 : (w5.alloc (.cells #[.int .i64 t1, .string t2] 33 (0, 0))).cell? ⟨w.heap.size, 0, none⟩ = some (.int .u16 v0) := blk_cell B3.out 0
  have c31 : (w5.alloc (.cells #[.int .i64 t1, .string t2] 33 (0, 0))).cell? ⟨w.heap.size, 1, none⟩ = some (.int .u16 v1) := blk_cell B3.out 1
  have c40 : (w5.alloc (.cells #[.int .i64 t1, .string t2] 33 (0, 0))).cell? ⟨(w.heap.size + 1), 0, none⟩ = some (.string r0) := blk_cell B4.out 0
  have c41 : (w5.alloc (.cells #[.int .i64 t1, .string t2] 33 (0, 0))).cell? ⟨(w.heap.size + 1), 1, none⟩ = some (.string r1) := blk_cell B4.out 1
  have c50 : (w5.alloc (.cells #[.int .i64 t1, .string t2] 33 (0, 0))).cell? ⟨(w.heap.size + 2), 0, none⟩ = some (.string m0) := blk_cell B5.out 0
  have c51 : (w5.alloc (.cells #[.int .i64 t1, .string t2] 33 (0, 0))).cell? ⟨(w.heap.size + 2), 1, none⟩ = some (.string m1) := blk_cell B5.out 1
  have ca0 : (w5.alloc (.cells #[.int .i64 t1, .string t2] 33 (0, 0))).cell? ⟨w2.heap.size, 0, none⟩ = some (.int .i64 x1) := blk_cell Ba.out 0
  have ca1 : (w5.alloc (.cells #[.int .i64 t1, .string t2] 33 (0, 0))).cell? ⟨w2.heap.size, 1, none⟩ = some (.string x2) := blk_cell Ba.out 1
  have cb0 : (w5.alloc (.cells #[.int .i64 t1, .string t2] 33 (0, 0))).cell? ⟨w3.heap.size, 0, none⟩ = some (.int .i64 y1) := blk_cell Bb.out 0
  have cb1 : (w5.alloc (.cells #[.int .i64 t1, .string t2] 33 (0, 0))).cell? ⟨w3.heap.size, 1, none⟩ = some (.string y2) := blk_cell Bb.out 1
  have cs0 : (w5.alloc (.cells #[.int .i64 t1, .string t2] 33 (0, 0))).cell? ⟨w4.heap.size, 0, none⟩ = some (.int .i64 s1) := blk_cell Bs.out 0
  have cs1 : (w5.alloc (.cells #[.int .i64 t1, .string t2] 33 (0, 0))).cell? ⟨w4.heap.size, 1, none⟩ = some (.string s2) := blk_cell Bs.out 1
  have ct0 : (w5.alloc (.cells #[.int .i64 t1, .string t2] 33 (0, 0))).cell? ⟨w5.heap.size, 0, none⟩ = some (.int .i64 t1) := blk_cell Bt.out 0
  have ct1 : (w5.alloc (.cells #[.int .i64 t1, .string t2] 33 (0, 0))).cell? ⟨w5.heap.size, 1, none⟩ = some (.string t2) := blk_cell Bt.out 1
  by_cases f0 : g = 0
  rotate_left
  · have f1 : (g != 0) = true := by simpa using f0
    go_wp2_with fail
    go_ret
    exact ⟨rfl, HB0.out⟩
  subst f0
  by_cases f0 : h = 0
  rotate_left
  · have f1 : (h != 0) = true := by simpa using f0
    go_wp2_with fail
    go_ret
    exact ⟨rfl, HB0.out⟩
  subst f0
  obtain ⟨p1, p2⟩ := HF.out rfl rfl rfl rfl
  by_cases one : v0 = v1 ∧ r0 = r1
  · obtain ⟨k1, k2⟩ := p1.2 one
    by_cases mm : m0 = m1
    · obtain ⟨k3, k4⟩ := p2.2 ⟨one, mm⟩
      obtain ⟨k5, k6⟩ := one
      clear p1 p2
      subst k1; subst k2; subst k3; subst k4; subst k5; subst k6; subst mm
      go_wp2_with fail
      go_quiet (fail)
      try go_wp2
      go_ret
      exact ⟨by first | rfl | simp, pw_below_drewN HB0.out _⟩
    · have jst : ¬ (s1 = t1 ∧ s2 = t2) := fun q => mm (p2.1 q).2
      have m2 := ne_list mm
      have m3 := ne_list' mm
      obtain ⟨k5, k6⟩ := one
      clear p1 p2 mm
      subst k1; subst k2; subst k5; subst k6
      by_cases j0 : s1 = t1
      · have j1 : ¬ s2 = t2 := fun q => jst ⟨j0, q⟩
        subst j0
        clear jst
        have j2 := ne_list j1
        have j3 := ne_list' j1
        clear j1
        go_wp2_with fail
        go_quiet (fail)
        try go_wp2
        go_ret
        exact ⟨by first | rfl | simp, pw_below_drewN HB0.out _⟩
      · clear jst
        have j2 := ne_int j0
        go_wp2_with fail
        go_quiet (fail)
        try go_wp2
        go_ret
        exact ⟨by first | rfl | simp, pw_below_drewN HB0.out _⟩
  · have jxy : ¬ (x1 = y1 ∧ x2 = y2) := fun q => one (p1.1 q)
    have jst : ¬ (s1 = t1 ∧ s2 = t2) := fun q => one (p2.1 q).1
    clear p1 p2
    by_cases u0 : v0 = v1
    · have u1 := ne_list (fun q : r0 = r1 => one ⟨u0, q⟩)
      have u2 := ne_list' (fun q : r0 = r1 => one ⟨u0, q⟩)
      clear one
      subst u0
      by_cases i0 : x1 = y1
      · have i1 : ¬ x2 = y2 := fun q => jxy ⟨i0, q⟩
        subst i0
        clear jxy
        have i2 := ne_list i1
        have i3 := ne_list' i1
        clear i1
        by_cases j0 : s1 = t1
        · have j1 : ¬ s2 = t2 := fun q => jst ⟨j0, q⟩
          subst j0
          clear jst
          have j2 := ne_list j1
          have j3 := ne_list' j1
          clear j1
          go_wp2_with fail
          go_quiet (fail)
          try go_wp2
          go_ret
          exact ⟨by first | rfl | simp, pw_below_drewN HB0.out _⟩
        · clear jst
          have j2 := ne_int j0
          go_wp2_with fail
          go_quiet (fail)
          try go_wp2
          go_ret
          exact ⟨by first | rfl | simp, pw_below_drewN HB0.out _⟩
      · clear jxy
        have i2 := ne_int i0
        by_cases j0 : s1 = t1
        · have j1 : ¬ s2 = t2 := fun q => jst ⟨j0, q⟩
          subst j0
          clear jst
          have j2 := ne_list j1
          have j3 := ne_list' j1
          clear j1
          go_wp2_with fail
          go_quiet (fail)
          try go_wp2
          go_ret
          exact ⟨by first | rfl | simp, pw_below_drewN HB0.out _⟩
        · clear jst
          have j2 := ne_int j0
          go_wp2_with fail
          go_quiet (fail)
          try go_wp2
          go_ret
          exact ⟨by first | rfl | simp, pw_below_drewN HB0.out _⟩
    · have u1 := ne_int u0
      clear one
      by_cases i0 : x1 = y1
      · have i1 : ¬ x2 = y2 := fun q => jxy ⟨i0, q⟩
        subst i0
        clear jxy
        have i2 := ne_list i1
        have i3 := ne_list' i1
        clear i1
        by_cases j0 : s1 = t1
        · have j1 : ¬ s2 = t2 := fun q => jst ⟨j0, q⟩
          subst j0
          clear jst
          have j2 := ne_list j1
          have j3 := ne_list' j1
          clear j1
          go_wp2_with fail
          go_quiet (fail)
          try go_wp2
          go_ret
          exact ⟨by first | rfl | simp, pw_below_drewN HB0.out _⟩
        · clear jst
          have j2 := ne_int j0
          go_wp2_with fail
          go_quiet (fail)
          try go_wp2
          go_ret
          exact ⟨by first | rfl | simp, pw_below_drewN HB0.out _⟩
      · clear jxy
        have i2 := ne_int i0
        by_cases j0 : s1 = t1
        · have j1 : ¬ s2 = t2 := fun q => jst ⟨j0, q⟩
          subst j0
          clear jst
          have j2 := ne_list j1
          have j3 := ne_list' j1
          clear j1
          go_wp2_with fail
          go_quiet (fail)
          try go_wp2
          go_ret
          exact ⟨by first | rfl | simp, pw_below_drewN HB0.out _⟩
        · clear jst
          have j2 := ne_int j0
          go_wp2_with fail
          go_quiet (fail)
          try go_wp2
          go_ret
          exact ⟨by first | rfl | simp, pw_below_drewN HB0.out _⟩
end Go.Proofs.Ytmdpkooiehlbcaa.Ev16
