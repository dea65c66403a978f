/- KnowFresh: the plain law. -/
import Derived.Test.YtinkkiglkjihmaaLw04
import Derived.Test.YtinkkiglkjihmaaPrxFresh
set_option linter.unusedVariables false
set_option linter.unusedSimpArgs false
namespace Go.Proofs.Ytinkkiglkjihmaa.Pure
open Go.RowKit Go.Proofs.Ytinkkiglkjihmaa.Pr Go.Proofs.YtinkkiglkjihmaaW.PrintWords Go.Proofs.YtinkkiglkjihmaaW.PrintLast Go.Proofs.YtinkkiglkjihmaaW.PrintMore Go.Proofs.Ytinkkiglkjihmaa.TT Go.Proofs.Ytinkkiglkjihmaa.Ev03 Go.Proofs.Ytinkkiglkjihmaa.Kw Go.Proofs.Ytinkkiglkjihmaa.Ev04

theorem nonce_facts (a : Int) : check (nonceOf a) = 0 ∧ b0 (nonceOf a) = 110 ∧ ps (nonceOf a) = [] := by
  have hc : check (nonceOf a) = 0 := check_str (t := Tm.nonce _ _) trivial (by simp [Tm.depth]) (by simp [Tm.enc])
  exact ⟨hc, b0_str (Tm.nonce _ _), PFg_str (t := Tm.nonce _ _) trivial (by simp [Tm.depth]) (by simp [Tm.enc])⟩
theorem make_f (c : UInt8) (x : Int) (hx : x = ((c.toNat : Nat) : Int)) (l : List ByteArray) : term_Make.f x l = some (makeOf c l) := by
  subst hx
  unfold term_Make.f
  have := c.toNat_lt
  rw [if_pos ⟨by omega, by omega⟩, Int.toNat_natCast, UInt8.ofNat_toNat]
theorem fresh_core {l : List ByteArray} {a : Int} {o : ByteArray} (hl : checkL l = 0) (ho : check o = 0) (hn : ∀ s ∈ l, nonceOf a ∉ (subsOf s).1) :
    dvB l (nonceOf a) = false ∧ ((makeOf 112 [o, nonceOf a]).2 = 0 → know_Derives.f l (makeOf 112 [o, nonceOf a]).1 = some (false, 0)) := by
  obtain ⟨n1, n2, n3⟩ := nonce_facts a
  obtain ⟨_, hv⟩ := ck_of hl
  have free : ∀ {t : ByteArray}, Dv l t → nonceOf a ∉ (subsOf t).1 := fun d => dv_free hv hn (by rw [n2]; decide) (fun q => absurd n3 q) d
  refine ⟨?_, fun h => ?_⟩
  · rw [← Bool.not_eq_true, dvL hl n1]
    exact fun d => free d (self_subs n1)
  · rw [make_two (by decide) ho n1] at h ⊢
    by_cases hc : check (TT.strOf (112 :: (o.data.toList ++ (nonceOf a).data.toList))) = 0
    · rw [if_pos hc]
      rw [der_ok hl hc]
      congr 2
      rw [← Bool.not_eq_true, dvL hl hc]
      intro d
      obtain ⟨_, h2⟩ := two_facts (by decide) ho n1 hc
      exact free d ((subs_in_parts hc).2 (.inr ⟨nonceOf a, by rw [h2]; simp, self_subs n1⟩))
    · rw [if_neg hc] at h; exact absurd h (by decide)
theorem KnowFresh (l : List ByteArray) (hl : l.length ≤ maxLen) (a : Int) (h0 : 0 ≤ a) (h1 : a < 65536) (o : ByteArray) : ∃ k, chantrylaw04_KnowFresh.f k l a o = some true := by
  obtain ⟨K1, b, f1, f2⟩ := few_spec l hl
  obtain ⟨n, hnn⟩ : ∃ n, n = K1 + 3000000 := ⟨_, rfl⟩
  refine ⟨n + 1, ?_⟩
  have jt : chantrylaw04_KnowFresh.j0 (n + 1) l a o true = some true := by
    simp only [chantrylaw04_KnowFresh.j0]
    rw [if_pos trivial]
  unfold chantrylaw04_KnowFresh.f
  rw [alive_spec, Option.bind_some, if_pos rfl, f1 _ (by omega), Option.bind_some]
  cases b with
  | false => rw [if_neg (by simp)]; exact jt
  | true =>
    have hn := f2 rfl
    rw [if_pos rfl, right_spec _ (by omega), Option.bind_some]
    by_cases hr : checkL l = 0
    · obtain ⟨_, hv⟩ := ck_of hr
      rw [if_pos (decide_eq_true hr)]
      by_cases hs : (o.size : Int) > 400
      · rw [if_pos hs]; exact jt
      · rw [if_neg hs, check_spec _ (by omega), Option.bind_some]
        by_cases hc : check o = 0
        · rw [if_pos hc, ref_nonce_spec a h0 h1, Option.bind_some, has_spec l _ (by omega) hv _ (by omega), Option.bind_some]
          by_cases hx : ∃ s ∈ l, nonceOf a ∈ (subsOf s).1
          · rw [decide_eq_true hx]; exact jt
          · rw [decide_eq_false hx]
            obtain ⟨g1, g2⟩ := fresh_core hr hc (fun s hs hh => hx ⟨s, hs, hh⟩)
            simp only [chantrylaw04_KnowFresh.j0]
            rw [if_neg (by simp), nonce_spec a h0 h1, Option.bind_some, make_f 112 112 rfl, Option.bind_some, der_ok hr (nonce_facts a).1, Option.bind_some, g1]
            by_cases he : (makeOf 112 [o, nonceOf a]).2 = 0
            · rw [if_pos he, g2 he, Option.bind_some]; rfl
            · rw [if_neg he]; rfl
        · rw [if_neg hc]; exact jt
    · rw [if_neg (by simpa using hr)]; exact jt
end Go.Proofs.Ytinkkiglkjihmaa.Pure
