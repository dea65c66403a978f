/- LinkTop, the plain law: the greatest number never falls, and is a letter's; with an error an end stays. -/
import Derived.Test.YtimfhdpgkoonaaaAl06
import Derived.Test.YtimfhdpgkoonaaaBit06
import Derived.Test.YtimfhdpgkoonaaaPrx10
set_option linter.unusedVariables false
namespace Go.Proofs.Ytimfhdpgkoonaaa.Pure
open Go.RowKit Go.Proofs.Ytimfhdpgkoonaaa.Pr Go.Proofs.YtimfhdpgkoonaaaW.PrintWords Go.Proofs.YtimfhdpgkoonaaaW.PrintLast Go.Proofs.YtimfhdpgkoonaaaW.PrintMore Go.Proofs.Ytimfhdpgkoonaaa.TT Go.Proofs.Ytimfhdpgkoonaaa.Ev03 Go.Proofs.Ytimfhdpgkoonaaa.L06 Go.Proofs.Ytimfhdpgkoonaaa.Iter
/-- What an answer is: it is taken, and the end is another one; or there is an error, and the end stays. -/
theorem accept_ends (key : ByteArray) (nx top came me a b sq : Int) (l : List Int) (tag : ByteArray) (h0 : 0 ≤ sq ∧ sq < 4294967296) (ht : 0 ≤ top ∧ top < 4294967296) (hc : Word came) :
    ∃ top' came' e, acceptOf key nx top came me a b sq l tag = (key, nx, top', came', e) ∧ (0 ≤ top' ∧ top' < 4294967296) ∧ Word came' ∧
      ((e = 0 ∧ top' = mx top sq ∧ ¬ (top' = top ∧ came' = came)) ∨ (¬ e = 0 ∧ top' = top ∧ came' = came)) := by
  unfold acceptOf
  by_cases hC : b = me ∧ twoB a b = true ∧ sq ≠ 0
  · rw [if_pos hC]
    by_cases h4 : (tagOf key a b sq l).2 = 0
    · rw [if_pos h4]
      by_cases h5 : (tagOf key a b sq l).1 = tag
      · rw [if_pos h5]
        by_cases h6 : sq > top
        · rw [if_pos h6]
          exact ⟨_, _, _, rfl, h0, or_word (shl_word _ _) one_word, .inl ⟨rfl, by unfold mx; rw [if_pos (by omega)], fun h => by have := h.1; omega⟩⟩
        · rw [if_neg h6]
          by_cases h7 : (top - sq) % 4294967296 ≥ 64
          · rw [if_pos h7]
            exact ⟨_, _, _, rfl, ht, hc, .inr ⟨by decide, rfl, rfl⟩⟩
          · rw [if_neg h7]
            by_cases h8 : Go.bits .and .u64 (shr .u64 came ((top - sq) % 4294967296)) 1 = 1
            · rw [if_pos h8]
              exact ⟨_, _, _, rfl, ht, hc, .inr ⟨by decide, rfl, rfl⟩⟩
            · rw [if_neg h8]
              exact ⟨_, _, _, rfl, ht, or_word hc (shl_word _ _), .inl ⟨rfl, by unfold mx; rw [if_neg (by omega)], fun h => set_ne hc (by omega) (by omega) h8 h.2⟩⟩
      · rw [if_neg h5]
        exact ⟨_, _, _, rfl, ht, hc, .inr ⟨by decide, rfl, rfl⟩⟩
    · rw [if_neg h4]
      exact ⟨_, _, _, rfl, ht, hc, .inr ⟨h4, rfl, rfl⟩⟩
  · rw [if_neg hC]
    exact ⟨_, _, _, rfl, ht, hc, .inr ⟨by decide, rfl, rfl⟩⟩

theorem top_loop (xs : List S26) (hx : ∀ y ∈ xs, 0 ≤ y.f2 ∧ y.f2 < 4294967296) (hxl : xs.length ≤ 60) (key : ByteArray) (nx a2 a3 : Int) (hlen : Int) (hh : hlen = (xs.length : Int)) : ∀ (m K i : Nat) (x : Int) (top came : Int), xs.length = i + m → x = (i : Int) → 5000 + m ≤ K → (0 ≤ top ∧ top < 4294967296) → Word came →
    chantrylaw06_LinkTop.l0 K xs hlen x key nx a2 a3 key nx top came = some true
  | 0, K, i, x, top, came, hm, hxi, hK, ht, hc => by
    obtain ⟨K, rfl⟩ : ∃ q, K = q + 1 := ⟨K - 1, by omega⟩
    simp only [chantrylaw06_LinkTop.l0]
    rw [if_neg (by omega)]
  | m + 1, K, i, x, top, came, hm, hxi, hK, ht, hc => by
    obtain ⟨K, rfl⟩ : ∃ q, K = q + 1 := ⟨K - 1, by omega⟩
    have hw : wrap64 (x + 1) = ((i + 1 : Nat) : Int) := by rw [wr (by omega) (by omega)]; omega
    have hin : rd_T26 xs x ∈ xs := by
      unfold rd_T26
      rw [hxi, Int.toNat_natCast, List.getD_eq_getElem?_getD, List.getElem?_eq_getElem (by omega)]
      exact List.getElem_mem _
    have hy := hx _ hin
    have ih := fun top' came' ht' hc' => top_loop xs hx hxl key nx a2 a3 hlen hh m K (i + 1) (((i + 1 : Nat)) : Int) top' came' (by omega) rfl (by omega) ht' hc'
    simp only [chantrylaw06_LinkTop.l0]
    rw [if_pos (by omega), if_pos (by omega), if_pos (by omega)]
    obtain ⟨q, hq⟩ : ∃ q, chantrylaw06_few.f ((rd_T26 xs x).f0) ((rd_T26 xs x).f1) ((rd_T26 xs x).f2) ((rd_T26 xs x).f3) ((rd_T26 xs x).f4) = some q := by
      unfold chantrylaw06_few.f
      split
      · exact ⟨_, rfl⟩
      · exact ⟨_, rfl⟩
    rw [hq, Option.bind_some, hw]
    cases q with
    | false =>
      rw [if_neg (by decide)]
      exact ih top came ht hc
    | true =>
      rw [if_pos rfl, ref_tag_spec K (by omega) _ _ _ _ _ _ hy.1 hy.2, Option.bind_some, accept_spec K (by omega), Option.bind_some]
      obtain ⟨top', came', e, he, ht', hc', h⟩ := accept_ends key nx top came ((rd_T26 xs x).f1) ((rd_T26 xs x).f0) ((rd_T26 xs x).f1) ((rd_T26 xs x).f2) ((rd_T26 xs x).f3) (tagOf key ((rd_T26 xs x).f0) ((rd_T26 xs x).f1) ((rd_T26 xs x).f2) ((rd_T26 xs x).f3)).1 hy ht hc
      rw [he]
      simp only []
      rcases h with ⟨h1, h2, h3⟩ | ⟨h1, h2, h3⟩
      · rw [if_pos h1, if_pos h2]
        rw [if_neg (by
          intro h
          simp only [Bool.and_eq_true, beq_iff_eq] at h
          exact h3 ⟨h.2.2.1, h.2.2.2⟩), if_pos trivial, if_pos trivial]
        exact ih top' came' ht' hc'
      · subst h2 h3
        rw [if_neg h1]
        rw [if_neg (by simp)]
        exact ih top' came' ht' hc'
theorem LinkTop (key : ByteArray) (nx top came : Int) (xs : List S26) (hx : ∀ y ∈ xs, 0 ≤ y.f2 ∧ y.f2 < 4294967296) (ht : 0 ≤ top ∧ top < 4294967296) (hc : Word came) : chantrylaw06_LinkTop.f 6000 key nx top came xs = some true := by
  unfold chantrylaw06_LinkTop.f
  rw [alive06 6000 (by decide), Option.bind_some, if_pos rfl]
  have hj1 : chantrylaw06_LinkTop.j0 6000 xs true key nx top came = some true := by
    rw [show (6000 : Nat) = 5999 + 1 from rfl]; simp only [chantrylaw06_LinkTop.j0]; rw [if_pos trivial]
  by_cases h60 : (xs.length : Int) > 60
  · rw [if_pos h60, hj1]
  · rw [if_neg h60]
    have hj0 : chantrylaw06_LinkTop.j0 6000 xs false key nx top came = some true := by
      rw [show (6000 : Nat) = 5999 + 1 from rfl]; simp only [chantrylaw06_LinkTop.j0]
      rw [if_neg (by decide)]
      exact top_loop xs hx (by omega) key nx top came _ rfl xs.length 5999 0 0 top came (by omega) rfl (by omega) ht hc
    cases decide ((key.size : Int) > 200)
    · exact hj0
    · exact hj1
end Go.Proofs.Ytimfhdpgkoonaaa.Pure
