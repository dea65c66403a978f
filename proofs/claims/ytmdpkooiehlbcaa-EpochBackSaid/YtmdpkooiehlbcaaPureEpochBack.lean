/- EpochBack: what is sealed is opened in the same epoch and in no other. -/
import Derived.Test.YtmdpkooiehlbcaaBack
import Derived.Test.YtmdpkooiehlbcaaEv16f
set_option linter.unusedVariables false
set_option linter.unusedSimpArgs false
namespace Go.Proofs.Ytmdpkooiehlbcaa.Ev16
open Go.RowKit Go.Proofs.Ytmdpkooiehlbcaa.Pr Go.Proofs.YtmdpkooiehlbcaaW.PrintWords Go.Proofs.YtmdpkooiehlbcaaW.PrintLast Go.Proofs.YtmdpkooiehlbcaaW.PrintMore Go.Proofs.Ytmdpkooiehlbcaa.TT Go.Proofs.Ytmdpkooiehlbcaa.Ev03

theorem back_walk (v0 v1 : Int) (hv0 : 0 ≤ v0 ∧ v0 < 65536) (hv1 : 0 ≤ v1 ∧ v1 < 65536) (r0 r1 text : ByteArray) (w : World) :
    Calls Try.prog 5 #[.agg #[.int .u16 v0, .int .u16 v1], .agg #[.string r0, .string r1], .string text] w fun e w' => e = .returned (.bool true) ∧ Below w.heap.size w w' := by
  refine back_core v0 v1 hv0 hv1 r0 r1 text w (newOf v0 r0).1 (newOf v1 r1).1 (sealOf (newOf v0 r0).1 (newOf v0 r0).2.1 text).1 (newOf v0 r0).2.1 (newOf v1 r1).2.1 (sealOf (newOf v0 r0).1 (newOf v0 r0).2.1 text).2.1 (open16 (newOf v0 r0).1 (newOf v0 r0).2.1 (sealOf (newOf v0 r0).1 (newOf v0 r0).2.1 text).1 (sealOf (newOf v0 r0).1 (newOf v0 r0).2.1 text).2.1).1 (open16 (newOf v1 r1).1 (newOf v1 r1).2.1 (sealOf (newOf v0 r0).1 (newOf v0 r0).2.1 text).1 (sealOf (newOf v0 r0).1 (newOf v0 r0).2.1 text).2.1).1 (open16 (newOf v1 r1).1 (newOf v1 r1).2.1 (newOf v1 r1).1 (sealOf (newOf v0 r0).1 (newOf v0 r0).2.1 text).2.1).1 (newOf v0 r0).2.2 (newOf v1 r1).2.2 (sealOf (newOf v0 r0).1 (newOf v0 r0).2.1 text).2.2 (open16 (newOf v0 r0).1 (newOf v0 r0).2.1 (sealOf (newOf v0 r0).1 (newOf v0 r0).2.1 text).1 (sealOf (newOf v0 r0).1 (newOf v0 r0).2.1 text).2.1).2 (open16 (newOf v1 r1).1 (newOf v1 r1).2.1 (sealOf (newOf v0 r0).1 (newOf v0 r0).2.1 text).1 (sealOf (newOf v0 r0).1 (newOf v0 r0).2.1 text).2.1).2 (open16 (newOf v1 r1).1 (newOf v1 r1).2.1 (newOf v1 r1).1 (sealOf (newOf v0 r0).1 (newOf v0 r0).2.1 text).2.1).2 (new_spec v0 r0) (new_spec v1 r1) (seal_spec _ _ text) (open16_spec _ _ _ _) (open16_spec _ _ _ _) (open16_spec _ _ _ _) ?_ ?_
  · intro he hf hg hn hs
    obtain ⟨t, ho, rfl, hv, hN, hc⟩ := new_ok he
    rw [hN] at hg hn
    simp only at hg hn
    rw [seal_val ho hv hc] at hg hn
    refine ⟨t.enc.length + 10, t.depth, depth_spec _ t ho ?_ (Nat.le_refl _), ?_⟩
    · have := str_size t; omega
    · by_cases q : text.size ≤ 40 ∧ check (Tm.two 115 (keyT v0 t) (pairT v0 text)).str = 0
      · rw [if_pos q] at hg; exact absurd rfl hg
      · rw [if_neg q] at hn
        by_cases ht : text.size ≤ 40
        · rcases Nat.lt_or_ge 55 t.depth with h | h
          · omega
          · exact absurd ⟨ht, sealed_check ho ht (by have := str_size t; omega) h⟩ q
        · exact absurd ⟨by omega, rfl⟩ hn
  · intro he hf hg
    obtain ⟨t, ho, rfl, hv, hN, hc⟩ := new_ok he
    obtain ⟨s, hos, rfl, hu, hM, hcs⟩ := new_ok hf
    rw [hN] at hg ⊢
    rw [hM]
    simp only at hg ⊢
    rw [seal_val ho hv hc] at hg ⊢
    by_cases q : text.size ≤ 40 ∧ check (Tm.two 115 (keyT v0 t) (pairT v0 text)).str = 0
    · rw [if_pos q] at hg ⊢
      simp only
      rw [open_val ho ho hv hv hc q.1 q.2, open_val ho hos hv hu hcs q.1 q.2, open_val ho hos hv hu hcs q.1 q.2, if_pos rfl, if_pos (show v0 = v0 ∧ t = t from ⟨rfl, rfl⟩), if_pos rfl]
      have hts : t.str = s.str ↔ t = s := ⟨fun e => str_inj ho hos e, fun e => by rw [e]⟩
      refine ⟨rfl, rfl, ?_, ?_⟩
      · rw [hts]
        by_cases h : v0 = v1
        · rw [if_pos h]
          by_cases h2 : v0 = v1 ∧ t = s
          · rw [if_pos h2]; exact ⟨fun _ => h2, fun _ => rfl⟩
          · rw [if_neg h2]; exact ⟨fun e => absurd e (by decide), fun e => absurd e h2⟩
        · rw [if_neg h]; exact ⟨fun e => absurd e (by decide), fun e => absurd e.1 h⟩
      · rw [hts]
        by_cases h2 : v0 = v1 ∧ t = s
        · rw [if_pos h2]; exact ⟨fun _ => h2, fun _ => rfl⟩
        · rw [if_neg h2]; exact ⟨fun e => absurd e (by decide), fun e => absurd e h2⟩
    · rw [if_neg q] at hg; exact absurd hg (by decide)
end Go.Proofs.Ytmdpkooiehlbcaa.Ev16
