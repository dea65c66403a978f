/- TermMade: what has parts is made of them again; what is sealed is opened by its key and by no other one. No condition. -/
import Derived.Test.YtlpimcjbhbdbhaaEvMade
import Derived.Test.YtlpimcjbhbdbhaaPrPmx1
set_option linter.unusedVariables false
set_option linter.unusedSimpArgs false
namespace Go.Proofs.Ytlpimcjbhbdbhaa.Pure
open Go.RowKit Go.Proofs.Ytlpimcjbhbdbhaa.Pr Go.Proofs.Ytlpimcjbhbdbhaa.Pr.Pm Go.Proofs.YtlpimcjbhbdbhaaW.PrintWords Go.Proofs.YtlpimcjbhbdbhaaW.PrintLast Go.Proofs.Ytlpimcjbhbdbhaa.Ev03 Go.Proofs.Ytlpimcjbhbdbhaa.TT

/-- A good term is made of its parts again. -/
theorem made_again {t : Tm} (ho : t.ok) (hd : t.depth ≤ 60) (hl : t.enc.length ≤ 2000) (hp : 0 < t.parts.length) : makeOf t.kind (t.parts.map Tm.str) = (t.str, 0) := by
  have hk := ar_kind ho
  have hf : (t.parts.map Tm.str).find? (fun s => decide (check s ≠ 0)) = none := by
    rw [List.find?_eq_none]
    intro s hs
    obtain ⟨u, hu, rfl⟩ := List.mem_map.1 hs
    simp [(check_part ho hd hl hu).1]
  have he : strOf (t.kind :: ((t.parts.map Tm.str).map fun s => s.data.toList).flatten) = t.str := by
    cases t with
    | nonce a b => simp [Tm.parts] at hp
    | const l => simp [Tm.parts] at hp
    | hash a => simp [Tm.parts, Tm.kind, str_data, Tm.str, Tm.enc, strOf_data]
    | two k a b => simp [Tm.parts, Tm.kind, str_data, Tm.str, Tm.enc, strOf_data]
  unfold makeOf
  rw [if_neg (by rw [hk, List.length_map]; omega), hf]
  simp only
  rw [he, if_pos (check_str ho hd hl)]
theorem open_sealed {a b : Tm} (hb : (Tm.two 115 a b).ok) (hc : check (Tm.two 115 a b).str = 0) (key : ByteArray) : openOf key (Tm.two 115 a b).str = if check key = 0 then (if a.str = key then (b.str, 0) else (⟨#[]⟩, 12)) else (⟨#[]⟩, check key) := by
  unfold openOf
  rw [if_pos hc, read_str _ hb]
  rfl
theorem made_j2 (k : Nat) (x0 x1 x2 : ByteArray) : chantrylaw03_TermMade.j2 (k + 1) x0 x1 x2 = some true := by
  simp only [chantrylaw03_TermMade.j2]
  have e115 : term_Make.f 115 = fun l => some (makeOf 115 l) := rfl
  rw [e115]
  simp only [Option.bind_some]
  by_cases h : (makeOf 115 [x0, x1]).2 = 0
  · rw [if_pos h]
    obtain ⟨_, h0, h1, h2, m⟩ := made_two h
    rw [m, open_spec, open_spec]
    obtain ⟨t, hr, ho, rfl, hd, hl⟩ := check_ok h0
    obtain ⟨v, hr', ho', rfl, hd', hl'⟩ := check_ok h1
    rw [two_str] at h2 ⊢
    have hok : (Tm.two 115 t v).ok := ⟨by decide, ho, ho'⟩
    rw [open_sealed hok h2, open_sealed hok h2, if_pos h0, if_pos rfl]
    simp only [Option.bind_some, term_Check.f]
    by_cases hk : check x2 = 0
    · rw [if_pos hk, if_pos hk, if_pos trivial, if_pos trivial]
      by_cases he : t.str = x2
      · rw [if_pos he, he]
        simp
      · rw [if_neg he]
        have q : (x2.toList == t.str.toList) = false := by
          rw [beq_eq_false_iff_ne]
          intro e
          exact he ((toList_iff _ _).1 e).symm
        rw [q, if_pos (by decide), if_neg (by decide), if_pos (by decide)]
        decide +kernel
    · rw [if_neg hk, if_neg hk, if_pos trivial, if_pos trivial]
      simp
  · rw [if_neg h]
theorem made_j0 (k : Nat) (x0 x1 x2 : ByteArray) (b : Bool) : chantrylaw03_TermMade.j0 (k + 3) x0 x1 x2 b = some true := by
  simp only [chantrylaw03_TermMade.j0]
  by_cases hb : b = true
  · rw [if_pos hb]
  rw [if_neg hb]
  simp only [term_Parts.f, Option.bind_some]
  by_cases hc : check x1 = 0
  · obtain ⟨t, hr, ho, rfl, hd, hl⟩ := check_ok hc
    rw [partsOf_ok hc hr]
    simp only
    rw [if_pos trivial]
    simp only [chantrylaw03_TermMade.j1, List.length_map]
    by_cases hp : 0 < t.parts.length
    · rw [if_pos (by simpa using hp)]
      have hm : term_Make.f ((t.kind.toNat : Int)) (t.parts.map Tm.str) = some (t.str, 0) := by
        unfold term_Make.f
        have := t.kind.toNat_lt
        rw [if_pos (by omega), Int.toNat_natCast, UInt8.ofNat_toNat, made_again ho hd hl hp]
      rw [hm, Option.bind_some]
      simp only
      rw [if_pos trivial, if_pos trivial]
      exact made_j2 _ _ _ _
    · rw [if_neg (by simpa using hp)]
      exact made_j2 _ _ _ _
  · rw [partsOf_bad hc]
    simp only
    rw [if_neg hc]
    simp only [chantrylaw03_TermMade.j1]
    rw [if_neg (by decide)]
    exact made_j2 _ _ _ _
theorem TermMade : chantrylaw03_TermMade.Pure := by
  intro a0 a1 a2 _ _ _
  refine ⟨3, ?_⟩
  unfold chantrylaw03_TermMade.f
  rw [alive_spec, Option.bind_some, if_pos rfl, made_j0 0, made_j0 0]
  split <;> (try rfl)
  split <;> rfl
end Go.Proofs.Ytlpimcjbhbdbhaa.Pure
