/- EpochTexts: texts of up to forty bytes can be sealed, longer ones not; what is of another view is told to be so. -/
import Derived.Test.YtmdpkooiehlbcaaEv16b
import Derived.Test.YtmdpkooiehlbcaaPrx11
set_option linter.unusedVariables false
set_option linter.unusedSimpArgs false
namespace Go.Proofs.Ytmdpkooiehlbcaa.Pure
open Go.RowKit Go.Proofs.Ytmdpkooiehlbcaa.Pr Go.Proofs.YtmdpkooiehlbcaaW.PrintWords Go.Proofs.YtmdpkooiehlbcaaW.PrintLast Go.Proofs.YtmdpkooiehlbcaaW.PrintMore Go.Proofs.Ytmdpkooiehlbcaa.TT Go.Proofs.Ytmdpkooiehlbcaa.Ev03 Go.Proofs.Ytmdpkooiehlbcaa.Ev16

/-- A nonce's epoch: its key. -/
def rootT (n v : Int) : Tm := .two 100 (.nonce (UInt8.ofNat (n / 256).toNat) (UInt8.ofNat (n % 256).toNat)) (nameT v)
theorem rootT_ok (n v : Int) : (rootT n v).ok := ⟨by decide, trivial, nameT_ok v⟩
theorem rootT_check (n v : Int) : check (rootT n v).str = 0 := check_str (rootT_ok n v) (by simp [rootT, nameT, Tm.depth]) (by simp [rootT, nameT, Tm.enc])
theorem new_nonce (n v : Int) : makeOf 100 [nonceOf n, nameOf v] = ((rootT n v).str, 0) := by
  have hc : check (nonceOf n) = 0 := check_str (t := Tm.nonce _ _) trivial (by simp [Tm.depth]) (by simp [Tm.enc])
  rw [make_of_two 100 _ _ (by decide), if_neg (fun q : ¬ check (nonceOf n) = 0 => q hc), if_neg (fun q : ¬ check (nameOf v) = 0 => q (name_check v))]
  unfold nameOf nonceOf
  rw [two_str]
  exact if_pos (rootT_check n v)
theorem seal_root (n v : Int) {text : ByteArray} (h : text.size ≤ 40) : makeOf 115 [(rootT n v).str, (pairT v text).str] = ((Tm.two 115 (rootT n v) (pairT v text)).str, 0) := by
  rw [make_of_two 115 _ _ (by decide), if_neg (fun q : ¬ check (rootT n v).str = 0 => q (rootT_check n v)), if_neg (fun q : ¬ check (pairT v text).str = 0 => q (pair_check v h)), two_str]
  refine if_pos (check_str (t := Tm.two 115 (rootT n v) (pairT v text)) ⟨by decide, rootT_ok n v, pairT_ok v h⟩ (by simp [rootT, pairT, nameT, Tm.depth]) ?_)
  have := pairT_len v text
  simp [Tm.enc, rootT, nameT] at this ⊢
  omega
theorem wf16 {a : Int} (h : (Lit.int .u16 a).wf = true) : 0 ≤ a ∧ a < 65536 := by
  simp [Lit.wf, IntKind.min, IntKind.max, IntKind.bits, IntKind.signed] at h
  omega
theorem texts_j (k : Nat) (text : ByteArray) (f : Int) (v : Int) (key : ByteArray) : chantrylaw16_EpochTexts.j0 (k + 1) text f true v key = some (decide ((text.size : Int) > 2100)) := by
  simp only [chantrylaw16_EpochTexts.j0]
  rw [if_pos trivial]
theorem EpochTexts : chantrylaw16_EpochTexts.Pure := by
  intro a0 a1 a2 h0 h1 _
  obtain ⟨p0, p1⟩ := wf16 h0
  obtain ⟨q0, q1⟩ := wf16 h1
  refine ⟨1, ?_⟩
  unfold chantrylaw16_EpochTexts.f
  rw [alive16, Option.bind_some, if_pos rfl, nonce_spec a1 q0 q1, Option.bind_some, new_spec, Option.bind_some, wr (by omega) (by omega)]
  by_cases hv : a0 ≤ 1000
  · have hN : newOf a0 (nonceOf a1) = (a0, (rootT a1 a0).str, 0) := by
      unfold newOf
      rw [if_pos ⟨p0, hv⟩, new_nonce]
      rfl
    rw [hN]
    simp only
    rw [decide_eq_true hv, if_neg (by decide)]
    by_cases hb : (a2.size : Int) > 2100
    · rw [decide_eq_true hb, texts_j 0, decide_eq_true hb]
    · rw [decide_eq_false hb]
      simp only [chantrylaw16_EpochTexts.j0]
      rw [if_neg (by decide), if_pos trivial, seal_spec, Option.bind_some]
      have hr : rightOf a0 (rootT a1 a0).str = true := decide_eq_true ⟨⟨p0, hv⟩, rootT_check a1 a0⟩
      have ho : ∀ s, open16 a0 (rootT a1 a0).str (wrap64 (a0 + 1)) s = (⟨#[]⟩, 11) := by
        intro s
        unfold open16
        rw [if_pos hr, if_neg (by rw [wr (by omega) (by omega)]; omega)]
      rw [open16_spec, ho]
      unfold sealOf
      rw [if_pos hr]
      by_cases ht : 40 < a2.size
      · rw [if_pos ht]
        simp only
        rw [decide_eq_false (by omega), if_neg (by decide)]
        rfl
      · rw [if_neg ht, seal_root a1 a0 (by omega)]
        simp only
        rw [if_pos trivial]
        simp only
        rw [decide_eq_true (by omega), if_neg (by decide)]
        rfl
  · have hN : newOf a0 (nonceOf a1) = (0, ⟨#[]⟩, 2) := by
      unfold newOf
      rw [if_neg (fun q => hv q.2)]
    rw [hN]
    simp only
    rw [decide_eq_false hv, if_neg (by decide)]
    by_cases hb : (a2.size : Int) > 2100
    · rw [decide_eq_true hb, texts_j 0, decide_eq_true hb]
    · rw [decide_eq_false hb]
      simp only [chantrylaw16_EpochTexts.j0]
      rw [if_neg (by decide), if_neg (by decide)]
      rfl
end Go.Proofs.Ytmdpkooiehlbcaa.Pure
