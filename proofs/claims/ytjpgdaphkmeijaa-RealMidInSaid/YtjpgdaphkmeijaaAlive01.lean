/- The answers that the document fixes, of the numbers. -/
import Derived.Test.YtjpgdaphkmeijaaMid
set_option linter.unusedVariables false
set_option linter.unusedSimpArgs false
namespace Go.Proofs.Ytjpgdaphkmeijaa.Rl
open Go.RowKit Go.Shelf

theorem o1 : orderF 9223372036854775808 0 = 0 := by rw [orderF_eq (by omega) (by omega)]; decide
theorem o2 : orderF 9221120237041090561 9218868437227405312 = 1 := by rw [orderF_eq (by omega) (by omega)]; decide
theorem o3 : orderF 9221120237041090561 9221120237041090561 = 0 := by rw [orderF_eq (by omega) (by omega)]; decide
theorem c0 : codeF 0 = 9223372036854775808 := by rw [codeF_eq (by omega)]; decide
def l3 : List Nat := [4613937818241073152, 9221120237041090561, 4607182418800017408]
theorem m3 : midF l3 = 4613937818241073152 := by
  have h : codes l3 = [codeR 4607182418800017408, codeR 4613937818241073152, codeR 9221120237041090561] := by
    refine List.Perm.eq_of_pairwise (le := fun x y => decide (x ≤ y) = true) (fun a b _ _ h1 h2 => by simp at h1 h2; omega) (List.pairwise_mergeSort (fun a b c h1 h2 => by simp at *; omega) (fun a b => by simp; omega) _) (by decide) ((List.mergeSort_perm _ _).trans ?_)
    show List.Perm [codeR 4613937818241073152, codeR 9221120237041090561, codeR 4607182418800017408] _
    decide
  unfold midF
  rw [if_neg (by unfold l3; simp), h]
  decide
theorem eq3 : (FloatKind.f64.format.order 4613937818241073152 4613937818241073152 == some .eq) = true := by
  have h := ford_fin (a := 4613937818241073152) (b := 4613937818241073152) (by omega) (by omega) (by unfold Fo.isN; omega) (by unfold Fo.isN; omega)
  rw [Fo.cmp_eq] at h
  show (ford _ _ == _) = true
  rw [h]; rfl
theorem eq3' (w : World) : (binOp .eql 26 (.float .f64 4613937818241073152) (.float .f64 4613937818241073152)).run Try.prog w = .ok (.bool true) w := by
  have h := eq3
  have : (binOp .eql 26 (.float .f64 4613937818241073152) (.float .f64 4613937818241073152)).run Try.prog w = .ok (.bool (FloatKind.f64.format.order 4613937818241073152 4613937818241073152 == some .eq)) w := by
    rfl
  rw [this, h]

def True1 (w : World) (e : Ending) (w' : World) : Prop := e = .returned (.bool true) ∧ RowKit.Below w.heap.size w w'

set_option maxRecDepth 100000 in
set_option maxHeartbeats 2000000 in
theorem alive_f (w : World) : Calls Try.prog 11 #[] w (True1 w) := by
  have h1 := nan_f
  have h2 := copysign_f
  have h3 := order_f 9223372036854775808 0
  rw [o1] at h3
  have h4 := inf_f
  have h5 := order_f 9221120237041090561 9218868437227405312
  rw [o2] at h5
  have h6 := code_f 0 (by omega)
  rw [c0] at h6
  have h7 := same_f 9221120237041090561 9221120237041090561
  rw [o3] at h7
  have he := eq3'
  have hm : ∀ (b : Nat) (W : World), b < W.heap.size → FCells W b 0 l3 → Calls Try.prog 13 #[.slice (some ⟨b, 0, none⟩) 3 3] W (MidPost l3 W) := fun b W hb hc => mid_some b 0 3 l3 (by decide) (by unfold l3; simp) (by decide) W hb hc
  go_enter Try.func11, Try.ntmps11
  go_wp2_with (first | (go_at_call 27; refine (h1 _).mono ?_; rintro e w' ⟨rfl, q, rfl⟩) | (go_at_call 28; refine (h2 _).mono ?_; rintro e w' ⟨rfl, q, rfl⟩) | (go_at_call 16; refine (h3 _).mono ?_; clear h3; rintro e w' ⟨rfl, q, rfl⟩) | (go_at_call 16; refine (h5 _).mono ?_; clear h5; rintro e w' ⟨rfl, q, rfl⟩) | (go_at_call 29; refine (h4 _).mono ?_; rintro e w' ⟨rfl, q, rfl⟩) | (go_at_call 13; refine (hm _ _ ?_ ?_).mono ?_; rotate_left 2; unfold MidPost; rw [m3]; rintro e w' ⟨rfl, hb⟩) | (go_at_call 17; refine (h6 _).mono ?_; rintro e w' ⟨rfl, q, rfl⟩) | (go_at_call 19; refine (h7 _).mono ?_; rintro e w' ⟨rfl, q, rfl⟩))
  · go_ret
    exact ⟨rfl, below_drewN (((below_drewN (RowKit.Below.refl w.heap.size w) _).alloc (by simp) _).trans (show RowKit.Below w.heap.size _ _ from hb.mono (by simp))) _⟩
  · simp
  · intro j hj
    have hj3 : j = 0 ∨ j = 1 ∨ j = 2 := by unfold l3 at hj; simp at hj; omega
    rcases hj3 with rfl | rfl | rfl <;> simp [World.cell?, World.alloc, l3]
end Go.Proofs.Ytjpgdaphkmeijaa.Rl
