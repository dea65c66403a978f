/- KnowMore: the plain law. -/
import Derived.Test.YtinkkiglkjihmaaLw04
import Derived.Test.YtinkkiglkjihmaaPrxMore
set_option linter.unusedVariables false
set_option linter.unusedSimpArgs false
namespace Go.Proofs.Ytinkkiglkjihmaa.Pure
open Go.RowKit Go.Proofs.Ytinkkiglkjihmaa.Pr Go.Proofs.YtinkkiglkjihmaaW.PrintWords Go.Proofs.YtinkkiglkjihmaaW.PrintLast Go.Proofs.YtinkkiglkjihmaaW.PrintMore Go.Proofs.Ytinkkiglkjihmaa.TT Go.Proofs.Ytinkkiglkjihmaa.Ev03 Go.Proofs.Ytinkkiglkjihmaa.Kw Go.Proofs.Ytinkkiglkjihmaa.Ev04

theorem more_loop {l : List ByteArray} (hl : checkL l = 0) (x z : Bool) (q : List ByteArray) (hq : q.length ≤ 1000) (hd : ∀ t ∈ q, check t = 0 ∧ Dv l t) (hzx : z = x) : ∀ (d k i : Nat), q.length - i = d → i ≤ q.length → d < k →
    chantrylaw04_KnowMore.l0 k l x z 0 q (q.length : Int) (i : Int) = some true := by
  intro d
  induction d with
  | zero =>
    intro k i hd2 hi hk
    obtain ⟨k, rfl⟩ : ∃ m, k = m + 1 := ⟨k - 1, by omega⟩
    conv => lhs; unfold chantrylaw04_KnowMore.l0
    rw [if_neg (by omega), if_pos rfl, hzx]
    simp
  | succ d ih =>
    intro k i hd2 hi hk
    obtain ⟨k, rfl⟩ : ∃ m, k = m + 1 := ⟨k - 1, by omega⟩
    have hlt : i < q.length := by omega
    obtain ⟨h1, h2⟩ := hd _ (List.getElem_mem hlt)
    conv => lhs; unfold chantrylaw04_KnowMore.l0
    rw [if_pos (by omega), if_pos (by omega), if_pos (by omega), rd_at q i hlt, der_ok hl h1, Option.bind_some, if_pos ((dvL hl h1).2 h2), if_pos rfl, succ_wrap i (by omega)]
    exact ih k (i + 1) (by omega) (by omega) (by omega)
theorem KnowMore (l : List ByteArray) (hl : l.length ≤ maxLen) (m g : ByteArray) : ∃ k, chantrylaw04_KnowMore.f k l m g = some true := by
  obtain ⟨K1, f, f1, f2⟩ := few_spec l hl
  obtain ⟨n, hnn⟩ : ∃ n, n = K1 + 10000 := ⟨_, rfl⟩
  refine ⟨n + 2, ?_⟩
  have jt : chantrylaw04_KnowMore.j0 (n + 2) l m g true = some true := by
    show chantrylaw04_KnowMore.j0 (n + 1 + 1) l m g true = some true
    simp only [chantrylaw04_KnowMore.j0]
    rw [if_pos trivial]
  unfold chantrylaw04_KnowMore.f
  rw [alive_spec, Option.bind_some, if_pos rfl, f1 _ (by omega), Option.bind_some]
  cases f with
  | false => rw [if_neg (by simp)]; exact jt
  | true =>
    have hn := f2 rfl
    rw [if_pos rfl, right_spec _ (by omega), Option.bind_some]
    by_cases hr : checkL l = 0
    · obtain ⟨_, hv⟩ := ck_of hr
      rw [if_pos (decide_eq_true hr)]
      by_cases hs : (m.size : Int) > 400
      · rw [if_pos hs]; exact jt
      rw [if_neg hs]
      by_cases hs2 : (g.size : Int) > 400
      · rw [if_pos hs2]; exact jt
      rw [if_neg hs2, check_spec _ (by omega), Option.bind_some]
      by_cases hm : check m = 0
      · rw [if_pos hm, check_spec _ (by omega), Option.bind_some]
        by_cases hg : check g = 0
        · rw [hg]
          show chantrylaw04_KnowMore.j0 (n + 1 + 1) l m g false = some true
          have hL : checkL (l ++ [m]) = 0 := checkL_of (by simp; omega) (fun s hs => (List.mem_append.1 hs).elim (hv s) (fun e => by rw [List.mem_singleton.1 e]; exact hm))
          have hxy : dvB l g = true → dvB (l ++ [m]) g = true := fun h => (dvL hL hg).2 (dv_trans (fun s hs => .mem (List.mem_append_left _ hs)) ((dvL hr hg).1 h))
          have e1 : chantrylaw04_KnowMore.j1 (n + 1) l g (dvB l g) 0 (dvB (l ++ [m]) g) 0 (knL l) 0 true = some true := by
            simp only [chantrylaw04_KnowMore.j1]
            simp only [↓reduceIte]
            by_cases h : dvB l g = true
            · rw [if_pos h, hxy h]
            · rw [if_neg h]
          have e2 : chantrylaw04_KnowMore.j1 (n + 1) l g (dvB l g) 0 (dvB (l ++ [m]) g) 0 (knL l) 0 (decide (((knL l).length : Int) > 200)) = some true := by
            by_cases h : ((knL l).length : Int) > 200
            · rw [decide_eq_true h]; exact e1
            · rw [decide_eq_false h]
              have hkv : ∀ t ∈ knL l, check t = 0 ∧ Dv l t := fun t ht => by
                have := ((knL_in hr t).1 ht).2
                exact ⟨this.check hv, this⟩
              have hK : checkL (knL l) = 0 := checkL_of (by omega) (fun t ht => (hkv t ht).1)
              have hz : dvB (knL l) g = dvB l g := dvL_eq hK hr hg hg ⟨dv_trans fun s hs => (hkv s hs).2, dv_trans fun s hs => .mem ((knL_in hr s).2 ⟨⟨s, hs, self_subs (hv s hs)⟩, .mem hs⟩)⟩
              simp only [chantrylaw04_KnowMore.j1]
              rw [if_neg (by simp), der_ok hK hg, Option.bind_some]
              exact more_loop hr _ _ (knL l) (by omega) hkv hz (knL l).length n 0 (by omega) (by omega) (by omega)
          simp only [chantrylaw04_KnowMore.j0]
          rw [if_neg (by simp), der_ok hr hg, Option.bind_some, if_pos (by simp; omega), Option.bind_some, List.nil_append, if_pos (by omega), der_ok hL hg, Option.bind_some, known_ok hr, Option.bind_some, if_pos rfl, if_pos rfl, if_pos rfl]
          split
          · split
            · exact e2
            · exact e1
          · exact e2
        · have : (check g != 0) = true := bne_iff_ne.mpr hg
          rw [this]; exact jt
      · rw [if_neg hm]; exact jt
    · rw [if_neg (by simpa using hr)]; exact jt
end Go.Proofs.Ytinkkiglkjihmaa.Pure
