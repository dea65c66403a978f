/- EpochApart: unlike views or roots have unlike keys; unlike texts are unlike when they are sealed. -/
import Derived.Test.YtmdpkooiehlbcaaApart
set_option linter.unusedVariables false
set_option linter.unusedSimpArgs false
namespace Go.Proofs.Ytmdpkooiehlbcaa.Ev16
open Go.RowKit Go.Proofs.Ytmdpkooiehlbcaa.Pr Go.Proofs.YtmdpkooiehlbcaaW.PrintWords Go.Proofs.YtmdpkooiehlbcaaW.PrintLast Go.Proofs.YtmdpkooiehlbcaaW.PrintMore Go.Proofs.Ytmdpkooiehlbcaa.TT Go.Proofs.Ytmdpkooiehlbcaa.Ev03

theorem apart_walk (v0 v1 : Int) (hv0 : 0 ≤ v0 ∧ v0 < 65536) (hv1 : 0 ≤ v1 ∧ v1 < 65536) (r0 r1 m0 m1 : ByteArray) (w : World) :
    Calls Try.prog 6 #[.agg #[.int .u16 v0, .int .u16 v1], .agg #[.string r0, .string r1], .agg #[.string m0, .string m1]] w fun e w' => e = .returned (.bool true) ∧ Below w.heap.size w w' := by
  refine apart_core v0 v1 hv0 hv1 r0 r1 m0 m1 w (newOf v0 r0).1 (newOf v1 r1).1 (sealOf (newOf v0 r0).1 (newOf v0 r0).2.1 m0).1 (sealOf (newOf v1 r1).1 (newOf v1 r1).2.1 m1).1 (newOf v0 r0).2.1 (newOf v1 r1).2.1 (sealOf (newOf v0 r0).1 (newOf v0 r0).2.1 m0).2.1 (sealOf (newOf v1 r1).1 (newOf v1 r1).2.1 m1).2.1 (newOf v0 r0).2.2 (newOf v1 r1).2.2 (sealOf (newOf v0 r0).1 (newOf v0 r0).2.1 m0).2.2 (sealOf (newOf v1 r1).1 (newOf v1 r1).2.1 m1).2.2 (new_spec v0 r0) (new_spec v1 r1) (seal_spec _ _ m0) (seal_spec _ _ m1) ?_
  intro he hf hg hh
  obtain ⟨t, ho, rfl, hv, hN, hc⟩ := new_ok he
  obtain ⟨s, hos, rfl, hu, hM, hcs⟩ := new_ok hf
  rw [hN] at hg ⊢
  rw [hM] at hh ⊢
  simp only at hg hh ⊢
  rw [seal_val ho hv hc] at hg ⊢
  rw [seal_val hos hu hcs] at hh ⊢
  by_cases q : m0.size ≤ 40 ∧ check (Tm.two 115 (keyT v0 t) (pairT v0 m0)).str = 0
  · by_cases q' : m1.size ≤ 40 ∧ check (Tm.two 115 (keyT v1 s) (pairT v1 m1)).str = 0
    · rw [if_pos q, if_pos q']
      simp only
      have hts : t.str = s.str ↔ t = s := ⟨fun e => str_inj ho hos e, fun e => by rw [e]⟩
      have hk : (keyT v0 t).str = (keyT v1 s).str ↔ v0 = v1 ∧ t = s := by
        constructor
        · intro e
          have e := str_inj (keyT_ok v0 ho) (keyT_ok v1 hos) e
          simp only [keyT, Tm.two.injEq, true_and] at e
          exact ⟨nameT_inj hv hu e.2, e.1⟩
        · rintro ⟨rfl, rfl⟩; rfl
      rw [hts]
      refine ⟨⟨fun e => hk.1 e.2, fun e => ⟨e.1, hk.2 e⟩⟩, ?_⟩
      constructor
      · rintro ⟨_, e⟩
        have e := str_inj (a := Tm.two 115 (keyT v0 t) (pairT v0 m0)) (b := Tm.two 115 (keyT v1 s) (pairT v1 m1)) ⟨by decide, keyT_ok v0 ho, pairT_ok v0 q.1⟩ ⟨by decide, keyT_ok v1 hos, pairT_ok v1 q'.1⟩ e
        simp only [Tm.two.injEq, true_and, keyT, pairT, Tm.const.injEq] at e
        refine ⟨⟨nameT_inj hv hu e.1.2, e.1.1⟩, ?_⟩
        exact ByteArray.ext (Array.ext' e.2.2)
      · rintro ⟨⟨rfl, rfl⟩, rfl⟩
        exact ⟨rfl, rfl⟩
    · rw [if_neg q'] at hh; exact absurd hh (by decide)
  · rw [if_neg q] at hg; exact absurd hg (by decide)
end Go.Proofs.Ytmdpkooiehlbcaa.Ev16
