/- KnowMade: the plain law. -/
import Derived.Test.YtinkkiglkjihmaaLw04
import Derived.Test.YtinkkiglkjihmaaPrxMade
set_option linter.unusedVariables false
set_option linter.unusedSimpArgs false
namespace Go.Proofs.Ytinkkiglkjihmaa.Pure
open Go.RowKit Go.Proofs.Ytinkkiglkjihmaa.Pr Go.Proofs.YtinkkiglkjihmaaW.PrintWords Go.Proofs.YtinkkiglkjihmaaW.PrintLast Go.Proofs.YtinkkiglkjihmaaW.PrintMore Go.Proofs.Ytinkkiglkjihmaa.TT Go.Proofs.Ytinkkiglkjihmaa.Ev03 Go.Proofs.Ytinkkiglkjihmaa.Kw Go.Proofs.Ytinkkiglkjihmaa.Ev04

theorem make_f2 (c : UInt8) (x : Int) (hx : x = ((c.toNat : Nat) : Int)) (l : List ByteArray) : term_Make.f x l = some (makeOf c l) := by
  subst hx
  unfold term_Make.f
  have := c.toNat_lt
  rw [if_pos ⟨by omega, by omega⟩, Int.toNat_natCast, UInt8.ofNat_toNat]
/-- One kind's round: whatever is made, the next round follows. -/
theorem made_round (k : Nat) {l : List ByteArray} {a b : ByteArray} (hl : checkL l = 0) (ha : check a = 0) (hb : check b = 0) (c : UInt8) (i : Nat) (hi : i < 4) (hc : ([112, 115, 109, 100] : List Int).getD i 0 = ((c.toNat : Nat) : Int)) (h2 : isTwo c = true) :
    chantrylaw04_KnowMade.l0 (k + 1) l a b (dvB l a) (dvB l b) ([112, 115, 109, 100] : List Int) (([112, 115, 109, 100] : List Int).length : Int) (i : Int) = chantrylaw04_KnowMade.l0 k l a b (dvB l a) (dvB l b) ([112, 115, 109, 100] : List Int) (([112, 115, 109, 100] : List Int).length : Int) ((i + 1 : Nat) : Int) := by
  have E : wrap64 ((i : Int) + 1) = ((i + 1 : Nat) : Int) := succ_wrap i (by omega)
  have hrd : rd ([112, 115, 109, 100] : List Int) (i : Int) = ((c.toNat : Nat) : Int) := by
    unfold rd
    rw [Int.toNat_natCast]
    exact hc
  have har : ar c = 2 := by
    unfold ar
    have := isTwo_ne h2
    rw [if_neg (by simp [this.1, this.2.1]), if_neg this.2.2, if_pos h2]
  conv => lhs; unfold chantrylaw04_KnowMade.l0
  rw [if_pos (show (i : Int) < (([112, 115, 109, 100] : List Int).length : Int) from (by show (i : Int) < 4; omega)), if_pos (by omega), if_pos (show (i : Int) < (([112, 115, 109, 100] : List Int).length : Int) from (by show (i : Int) < 4; omega)), hrd, make_f2 c _ rfl, Option.bind_some, make_two har ha hb, E]
  by_cases ht : check (TT.strOf (c :: (a.data.toList ++ b.data.toList))) = 0
  · rw [if_pos ht, if_pos rfl, der_ok hl ht, Option.bind_some, if_pos rfl]
    obtain ⟨t1, t2⟩ := two_facts h2 ha hb ht
    have mk : dvB l a = true → dvB l b = true → dvB l (TT.strOf (c :: (a.data.toList ++ b.data.toList))) = true := fun x y => (dvL hl ht).2 (dv_two h2 ha hb ht ((dvL hl ha).1 x) ((dvL hl hb).1 y))
    have un : c = 112 → dvB l (TT.strOf (c :: (a.data.toList ++ b.data.toList))) = true → dvB l a = true ∧ dvB l b = true := fun hk z => by
      have d := (dvL hl ht).1 z
      exact ⟨(dvL hl ha).2 (d.pair (t1.trans hk) (by rw [t2]; simp)), (dvL hl hb).2 (d.pair (t1.trans hk) (by rw [t2]; simp))⟩
    have hk112 := kind_eq c 112 112 rfl
    generalize dvB l (TT.strOf (c :: (a.data.toList ++ b.data.toList))) = z at mk un
    generalize dvB l a = x at mk un ⊢
    generalize dvB l b = y at mk un ⊢
    cases x <;> cases y <;> cases z <;> simp_all
  · rw [if_neg ht, if_neg (by decide)]
theorem made_end (k : Nat) (l : List ByteArray) (a b : ByteArray) (x y : Bool) : chantrylaw04_KnowMade.l0 (k + 1) l a b x y ([112, 115, 109, 100] : List Int) (([112, 115, 109, 100] : List Int).length : Int) ((4 : Nat) : Int) = some true := by
  conv => lhs; unfold chantrylaw04_KnowMade.l0
  rw [if_neg (by decide)]
theorem KnowMade (l : List ByteArray) (hl : l.length ≤ maxLen) (a b : ByteArray) : ∃ k, chantrylaw04_KnowMade.f k l a b = some true := by
  obtain ⟨K1, f, f1, f2⟩ := few_spec l hl
  obtain ⟨n, hnn⟩ : ∃ n, n = K1 + 5000 := ⟨_, rfl⟩
  refine ⟨n + 7, ?_⟩
  have jt : chantrylaw04_KnowMade.j0 (n + 7) l a b true = some true := by
    show chantrylaw04_KnowMade.j0 (n + 6 + 1) l a b true = some true
    simp only [chantrylaw04_KnowMade.j0]
    rw [if_pos trivial]
  unfold chantrylaw04_KnowMade.f
  rw [alive_spec, Option.bind_some, if_pos rfl, f1 _ (by omega), Option.bind_some]
  cases f with
  | false => rw [if_neg (by simp)]; exact jt
  | true =>
    rw [if_pos rfl, right_spec _ (by omega), Option.bind_some]
    by_cases hr : checkL l = 0
    · rw [if_pos (decide_eq_true hr)]
      by_cases hs : (a.size : Int) > 400
      · rw [if_pos hs]; exact jt
      rw [if_neg hs]
      by_cases hs2 : (b.size : Int) > 400
      · rw [if_pos hs2]; exact jt
      rw [if_neg hs2, check_spec _ (by omega), Option.bind_some]
      by_cases ha : check a = 0
      · rw [if_pos ha, check_spec _ (by omega), Option.bind_some]
        by_cases hb : check b = 0
        · rw [hb]
          show chantrylaw04_KnowMade.j0 (n + 6 + 1) l a b false = some true
          simp only [chantrylaw04_KnowMade.j0]
          rw [if_neg (by simp), der_ok hr ha, Option.bind_some, der_ok hr hb, Option.bind_some, if_pos rfl]
          show chantrylaw04_KnowMade.j1 (n + 5 + 1) l a b _ _ false = some true
          simp only [chantrylaw04_KnowMade.j1]
          rw [if_neg (by simp), Option.bind_some]
          have r0 := made_round (n + 4) hr ha hb 112 0 (by omega) rfl (by decide)
          have r1 := made_round (n + 3) hr ha hb 115 1 (by omega) rfl (by decide)
          have r2 := made_round (n + 2) hr ha hb 109 2 (by omega) rfl (by decide)
          have r3 := made_round (n + 1) hr ha hb 100 3 (by omega) rfl (by decide)
          exact ((r0.trans r1).trans r2).trans (r3.trans (made_end (n + 0) l a b _ _))
        · have : (check b != 0) = true := bne_iff_ne.mpr hb
          rw [this]; exact jt
      · rw [if_neg ha]; exact jt
    · rw [if_neg (by simpa using hr)]; exact jt
end Go.Proofs.Ytinkkiglkjihmaa.Pure
