/- TermSizes: a hash is one byte longer than its part; a message has the sizes and the subs of its two parts and one more; a bad Make makes the empty text. No condition. -/
import Derived.Test.YtlpimcjbhbdbhaaEvMade
import Derived.Test.YtlpimcjbhbdbhaaPrx6
set_option linter.unusedVariables false
set_option linter.unusedSimpArgs false
namespace Go.Proofs.Ytlpimcjbhbdbhaa.Pure
open Go.RowKit Go.Proofs.Ytlpimcjbhbdbhaa.Pr Go.Proofs.YtlpimcjbhbdbhaaW.PrintWords Go.Proofs.YtlpimcjbhbdbhaaW.PrintLast Go.Proofs.Ytlpimcjbhbdbhaa.Ev03 Go.Proofs.Ytlpimcjbhbdbhaa.TT

theorem one_two (a b : Nat) (ha : a ≤ 2000) (hb : b ≤ 2000) : wrap64 ((wrap64 (1 + (a : Int))) + (b : Int)) = ((1 + a + b : Nat) : Int) := by
  rw [wr (x := 1 + (a : Int)) (by omega) (by omega), wr (by omega) (by omega)]
  omega
theorem sizes_j1 (k : Nat) (x0 x1 : ByteArray) : chantrylaw03_TermSizes.j1 (k + 1) x0 x1 (makeOf 109 [x0, x1]).1 (makeOf 109 [x0, x1]).2 false = some true := by
  simp only [chantrylaw03_TermSizes.j1]
  rw [if_neg (by decide)]
  by_cases h : (makeOf 109 [x0, x1]).2 = 0
  · rw [if_pos h]
    obtain ⟨_, h0, h1, h2, m⟩ := made_two h
    rw [m]
    simp only [term_Subs.f, term_subs.f, Option.bind_some]
    obtain ⟨t, hr, ho, rfl, hd, hl⟩ := check_ok h0
    obtain ⟨v, hr', ho', rfl, hd', hl'⟩ := check_ok h1
    have ht2 : (Tm.two 109 t v).ok := ⟨by decide, ho, ho'⟩
    have hs := append_str 109 t.str v.str
    rw [hs]
    rw [two_str] at h2 ⊢
    rw [subsOf_ok h0 hr, subsOf_ok h1 hr', subsOf_ok h2 (read_str _ ht2)]
    have c1 := t.subs_len
    have c2 := v.subs_len
    have z1 := str_size t
    have z2 := str_size v
    simp only [if_pos, List.length_map, Tm.subs, List.length_cons, List.length_append]
    have z1' : t.str.size ≤ 2000 := z1 ▸ hl
    have z2' : v.str.size ≤ 2000 := z2 ▸ hl'
    rw [one_two _ _ z1' z2', one_two _ _ (Nat.le_trans c1 hl) (Nat.le_trans c2 hl'), if_pos rfl]
    exact congrArg some (beq_iff_eq.2 (by rw [Nat.add_assoc 1, Nat.add_comm 1]))
  · rw [if_neg h, made_bad h]
    decide +kernel
theorem sizes_j0 (k : Nat) (x0 x1 : ByteArray) (b : Bool) : chantrylaw03_TermSizes.j0 (k + 2) x0 x1 b = some true := by
  simp only [chantrylaw03_TermSizes.j0]
  by_cases hb : b = true
  · rw [if_pos hb]
  rw [if_neg hb]
  have e104 : term_Make.f 104 = fun l => some (makeOf 104 l) := rfl
  have e109 : term_Make.f 109 = fun l => some (makeOf 109 l) := rfl
  rw [e104, e109]
  simp only [Option.bind_some]
  by_cases h : (makeOf 104 [x0]).2 = 0
  · rw [if_pos h]
    obtain ⟨_, h0, h2, m⟩ := made_one h
    have z := check_small h0
    have hs : (strOf (104 :: x0.data.toList)).size = 1 + x0.size := by rw [strOf_size, List.length_cons, len_eq]; omega
    have w1 : wrap64 (1 + (x0.size : Int)) = 1 + (x0.size : Int) := wr (by omega) (by omega)
    rw [m, w1, if_pos (by omega), if_pos (by omega)]
    have q : ((strOf (104 :: x0.data.toList)).extract 1 (strOf (104 :: x0.data.toList)).size).toList = x0.toList := by
      rw [toList_iff]
      apply ByteArray.ext
      apply Array.ext'
      rw [ByteArray.data_extract, Array.toList_extract, List.extract_eq_take_drop, strOf_data, hs]
      simp only [List.drop_succ_cons, List.drop_zero]
      apply List.take_of_length_le
      rw [len_eq]; omega
    rw [q, bne_self_eq_false]
    exact sizes_j1 k x0 x1
  · rw [if_neg h]
    exact sizes_j1 k x0 x1
theorem TermSizes : chantrylaw03_TermSizes.Pure := by
  intro a0 a1 _ _
  refine ⟨2, ?_⟩
  unfold chantrylaw03_TermSizes.f
  rw [alive_spec, Option.bind_some, if_pos rfl, sizes_j0 0, sizes_j0 0]
  split <;> rfl
end Go.Proofs.Ytlpimcjbhbdbhaa.Pure
