/- LinkSecret: its walk, by hand; the plain law. -/
import Derived.Test.YtimfhdpgkoonaaaAl06
import Derived.Deep.QuietTactic
import Derived.BigQuiet
set_option linter.unusedVariables false
set_option linter.unusedSimpArgs false
namespace Go.Proofs.Ytimfhdpgkoonaaa.L06
open Go.RowKit Go.Proofs.Ytimfhdpgkoonaaa.Pr Go.Proofs.YtimfhdpgkoonaaaW.PrintWords Go.Proofs.YtimfhdpgkoonaaaW.PrintLast Go.Proofs.YtimfhdpgkoonaaaW.PrintMore Go.Proofs.Ytimfhdpgkoonaaa.TT Go.Proofs.Ytimfhdpgkoonaaa.Ev03

def OneFact (e g v0 v1 v2 v3 : Int) (d : Bool) : Prop := e = 0 → g = 0 → d = (v0 == v2 && v1 == v3 || v0 == v3 && v1 == v2)
def ChkFact (s : ByteArray) (k : Nat) (q : Int) : Prop := chantryref03_Check.f k s = some q
set_option maxHeartbeats 1600000 in
set_option maxRecDepth 100000 in
theorem secret_core (s : ByteArray) (v0 v1 v2 v3 : Int) (w : World) (a c : ByteArray) (e g q : Int) (d : Bool)
    (hq : ChkFact s 6000 q) (hx : link_Key.f s v0 v1 = some (a, e)) (hy : link_Key.f s v1 v0 = some (a, e)) (hz : link_Key.f s v2 v3 = some (c, g)) (hd : (a.toList == c.toList) = d) (hf : OneFact e g v0 v1 v2 v3 d) :
    Calls Try.prog 7 #[.string s, .agg #[.int .u8 v0, .int .u8 v1, .int .u8 v2, .int .u8 v3]] w fun e w' => e = .returned (.bool true) ∧ Below w.heap.size w w' := by
  have HX := Lib.hid hx; have HY := Lib.hid hy; have HZ := Lib.hid hz; have HF := Lib.hid hf
  clear hx hy hz hf
  have HB0 := Lib.hid ((Below.refl w.heap.size w).alloc (Nat.le_refl _) (.cells #[.int .u8 v0, .int .u8 v1, .int .u8 v2, .int .u8 v3] 60 (0, 0)))
  go_enter Try.func7, Try.ntmps7
  go_wp2_with fail
  have B3 := Lib.hid (blk_new w (.cells #[.int .u8 v0, .int .u8 v1, .int .u8 v2, .int .u8 v3] 60 (0, 0)))
  generalize w.alloc (.cells #[.int .u8 v0, .int .u8 v1, .int .u8 v2, .int .u8 v3] 60 (0, 0)) = w0 at *
  refine (chantrylaw06_alive.calls 6000 true w0 (alive06 6000 (by decide))).mono ?_
  rintro er w1 ⟨rfl, hb⟩
  replace B3 := Lib.hid (blk_below B3.out hb)
  replace HB0 := Lib.hid (HB0.out.trans (hb.mono HB0.out.size))
  clear hb
  by_cases z0 : (s.size : Int) > 1000
  · go_wp2_with fail
    go_ret
    exact ⟨rfl, HB0.out⟩
  go_wp2_with fail
  refine (chantryref03_Check.calls 6000 s q w1 hq).mono ?_
  rintro er w2 ⟨rfl, hb⟩
  replace B3 := Lib.hid (blk_below B3.out hb)
  replace HB0 := Lib.hid (HB0.out.trans (hb.mono HB0.out.size))
  clear hb
  have c0 : w2.cell? ⟨w.heap.size, 0, none⟩ = some (.int .u8 v0) := blk_cell B3.out 0
  have c1 : w2.cell? ⟨w.heap.size, 1, none⟩ = some (.int .u8 v1) := blk_cell B3.out 1
  have c2 : w2.cell? ⟨w.heap.size, 2, none⟩ = some (.int .u8 v2) := blk_cell B3.out 2
  have c3 : w2.cell? ⟨w.heap.size, 3, none⟩ = some (.int .u8 v3) := blk_cell B3.out 3
  by_cases f0 : q = 0
  rotate_left
  · have f1 : (q != 0) = true := by simpa using f0
    go_wp2_with fail
    go_ret
    exact ⟨rfl, HB0.out⟩
  subst f0
  go_wp2_with fail
  refine (link_Key.calls s v0 v1 a e w2 HX.out).mono ?_
  rintro er w3 ⟨rfl, hb⟩
  replace B3 := Lib.hid (blk_below B3.out hb)
  replace HB0 := Lib.hid (HB0.out.trans (hb.mono HB0.out.size))
  clear hb c0 c1 c2 c3
  have c0 : w3.cell? ⟨w.heap.size, 0, none⟩ = some (.int .u8 v0) := blk_cell B3.out 0
  have c1 : w3.cell? ⟨w.heap.size, 1, none⟩ = some (.int .u8 v1) := blk_cell B3.out 1
  have c2 : w3.cell? ⟨w.heap.size, 2, none⟩ = some (.int .u8 v2) := blk_cell B3.out 2
  have c3 : w3.cell? ⟨w.heap.size, 3, none⟩ = some (.int .u8 v3) := blk_cell B3.out 3
  go_wp2_with fail
  refine (link_Key.calls s v1 v0 a e w3 HY.out).mono ?_
  rintro er w4 ⟨rfl, hb⟩
  replace B3 := Lib.hid (blk_below B3.out hb)
  replace HB0 := Lib.hid (HB0.out.trans (hb.mono HB0.out.size))
  clear hb c0 c1 c2 c3
  have c0 : w4.cell? ⟨w.heap.size, 0, none⟩ = some (.int .u8 v0) := blk_cell B3.out 0
  have c1 : w4.cell? ⟨w.heap.size, 1, none⟩ = some (.int .u8 v1) := blk_cell B3.out 1
  have c2 : w4.cell? ⟨w.heap.size, 2, none⟩ = some (.int .u8 v2) := blk_cell B3.out 2
  have c3 : w4.cell? ⟨w.heap.size, 3, none⟩ = some (.int .u8 v3) := blk_cell B3.out 3
  go_wp2_with fail
  refine (link_Key.calls s v2 v3 c g w4 HZ.out).mono ?_
  rintro er w5 ⟨rfl, hb⟩
  replace B3 := Lib.hid (blk_below B3.out hb)
  replace HB0 := Lib.hid (HB0.out.trans (hb.mono HB0.out.size))
  clear hb c0 c1 c2 c3
  have c0 : w5.cell? ⟨w.heap.size, 0, none⟩ = some (.int .u8 v0) := blk_cell B3.out 0
  have c1 : w5.cell? ⟨w.heap.size, 1, none⟩ = some (.int .u8 v1) := blk_cell B3.out 1
  have c2 : w5.cell? ⟨w.heap.size, 2, none⟩ = some (.int .u8 v2) := blk_cell B3.out 2
  have c3 : w5.cell? ⟨w.heap.size, 3, none⟩ = some (.int .u8 v3) := blk_cell B3.out 3
  by_cases f0 : e = 0
  rotate_left
  · have f1 : (e != 0) = true := by simpa using f0
    go_wp2_with fail
    go_ret
    exact ⟨rfl, HB0.out⟩
  subst f0
  by_cases f0 : g = 0
  rotate_left
  · have f1 : (g != 0) = true := by simpa using f0
    go_wp2_with fail
    go_ret
    exact ⟨rfl, HB0.out⟩
  subst f0
  have hfin := HF.out rfl rfl
  clear HX HY HZ HF
  cases h02 : (v0 == v2) <;> cases h13 : (v1 == v3) <;> cases h03 : (v0 == v3) <;> cases h12 : (v1 == v2) <;> rw [h02, h13, h03, h12] at hfin <;> subst hfin <;>
  (go_wp2_with fail
   go_ret
   exact ⟨rfl, HB0.out⟩)
theorem two_symm (a b : Int) : twoB a b = twoB b a := by
  unfold twoB
  by_cases h1 : a < 16 <;> by_cases h2 : b < 16 <;> simp [h1, h2, bne_comm]
theorem key_symm (s : ByteArray) (a b : Int) : keyOf s a b = keyOf s b a := by
  unfold keyOf
  rw [two_symm, show mn a b = mn b a from by unfold mn; split <;> split <;> omega, show mx a b = mx b a from by unfold mx; split <;> split <;> omega]
/-- Two links' keys of one secret: equal just where the links are. -/
theorem key_one (s : ByteArray) (v0 v1 v2 v3 : Int) (h0 : 0 ≤ v0 ∧ v0 ≤ 255) (h1 : 0 ≤ v1 ∧ v1 ≤ 255) (h2 : 0 ≤ v2 ∧ v2 ≤ 255) (h3 : 0 ≤ v3 ∧ v3 ≤ 255) :
    OneFact (keyOf s v0 v1).2 (keyOf s v2 v3).2 v0 v1 v2 v3 ((keyOf s v0 v1).1.toList == (keyOf s v2 v3).1.toList) := by
  intro he hg
  have ha : twoB v0 v1 = true := by
    cases h : twoB v0 v1
    · unfold keyOf at he; rw [if_neg (by rw [h]; decide)] at he; exact absurd he (by decide)
    · rfl
  have hc : twoB v2 v3 = true := by
    cases h : twoB v2 v3
    · unfold keyOf at hg; rw [if_neg (by rw [h]; decide)] at hg; exact absurd hg (by decide)
    · rfl
  unfold keyOf at he hg ⊢
  rw [if_pos ha] at he ⊢
  rw [if_pos hc] at hg ⊢
  obtain ⟨t, ho, e1, _, hr, _, _, e2⟩ := two2_ok he
  obtain ⟨u, uo, e3, _, hr2, _, _, e4⟩ := two2_ok hg
  rw [hr] at hr2
  obtain rfl := Option.some.inj hr2
  rw [e2, e4]
  have key : (Tm.two 100 t (.const (by8 [mn v0 v1, mx v0 v1]))).str.toList = (Tm.two 100 t (.const (by8 [mn v2 v3, mx v2 v3]))).str.toList ↔ mn v0 v1 = mn v2 v3 ∧ mx v0 v1 = mx v2 v3 := by
    constructor
    · intro h
      have h6 := enc_inj (show (Tm.two 100 t (.const (by8 [mn v0 v1, mx v0 v1]))).ok from ⟨rfl, ho, pair_ok _ _⟩) (show (Tm.two 100 t (.const (by8 [mn v2 v3, mx v2 v3]))).ok from ⟨rfl, ho, pair_ok _ _⟩) (strOf_inj ((toList_iff _ _).1 h))
      injection h6 with _ _ h7
      injection h7 with h8
      have h9 := by8_inj (xs := [mn v0 v1, mx v0 v1]) (ys := [mn v2 v3, mx v2 v3]) (by intro n hn; simp only [List.mem_cons, List.not_mem_nil, or_false] at hn; rcases hn with rfl | rfl <;> (first | unfold mn | unfold mx) <;> split <;> omega)
        (by intro n hn; simp only [List.mem_cons, List.not_mem_nil, or_false] at hn; rcases hn with rfl | rfl <;> (first | unfold mn | unfold mx) <;> split <;> omega) h8
      simp only [List.cons.injEq, and_true] at h9
      exact h9
    · rintro ⟨h5, h6⟩
      rw [h5, h6]
  have key2 : (mn v0 v1 = mn v2 v3 ∧ mx v0 v1 = mx v2 v3) ↔ (v0 = v2 ∧ v1 = v3 ∨ v0 = v3 ∧ v1 = v2) := by
    unfold mn mx
    split <;> split <;> (try split) <;> (try split) <;> omega
  have key3 := key.trans key2
  rw [Bool.eq_iff_iff]
  simp only [beq_iff_eq, Bool.or_eq_true, Bool.and_eq_true]
  exact key3
theorem secret_all (s : ByteArray) (v0 v1 v2 v3 : Int) (h0 : 0 ≤ v0 ∧ v0 ≤ 255) (h1 : 0 ≤ v1 ∧ v1 ≤ 255) (h2 : 0 ≤ v2 ∧ v2 ≤ 255) (h3 : 0 ≤ v3 ∧ v3 ≤ 255) (w : World) :
    Calls Try.prog 7 #[.string s, .agg #[.int .u8 v0, .int .u8 v1, .int .u8 v2, .int .u8 v3]] w fun e w' => e = .returned (.bool true) ∧ Below w.heap.size w w' :=
  secret_core s v0 v1 v2 v3 w (keyOf s v0 v1).1 (keyOf s v2 v3).1 (keyOf s v0 v1).2 (keyOf s v2 v3).2 (check s) _ (check_spec 6000 (by decide) s) (key_spec s v0 v1) (by rw [key_symm s v0 v1]; exact key_spec s v1 v0) (key_spec s v2 v3) rfl (key_one s v0 v1 v2 v3 h0 h1 h2 h3)
end Go.Proofs.Ytimfhdpgkoonaaa.L06
