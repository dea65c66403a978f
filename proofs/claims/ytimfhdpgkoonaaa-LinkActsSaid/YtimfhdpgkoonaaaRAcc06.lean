/- The reference's Accept: by halving and doubling, the same as by shifts and bits. Plain law. -/
import Derived.Test.YtimfhdpgkoonaaaLk06
import Derived.Test.YtimfhdpgkoonaaaBit06
import Derived.Test.YtimfhdpgkoonaaaPrxRA
set_option linter.unusedVariables false
set_option linter.unusedSimpArgs false
namespace Go.Proofs.Ytimfhdpgkoonaaa.L06
open Go.RowKit Go.Proofs.Ytimfhdpgkoonaaa.Pr Go.Proofs.YtimfhdpgkoonaaaW.PrintWords Go.Proofs.YtimfhdpgkoonaaaW.PrintLast Go.Proofs.YtimfhdpgkoonaaaW.PrintMore Go.Proofs.Ytimfhdpgkoonaaa.TT Go.Proofs.Ytimfhdpgkoonaaa.Ev03 Go.Proofs.Ytimfhdpgkoonaaa.Iter

theorem shift_loop (n : Int) (w : Int) : ∀ (m j K : Nat) (x0 x5 : Int), (j + m = min n.toNat 64) → 0 ≤ n → n < 4294967296 → m < K → x5 = (j : Int) → x0 = IntKind.u64.wrap (w * 2 ^ j) → chantryref06_shifted.l0 K x0 n x5 = some (IntKind.u64.wrap (w * 2 ^ (j + m)))
  | 0, j, K, x0, x5, hm, h0, h1, hK, hx, hw => by
    obtain ⟨K, rfl⟩ : ∃ q, K = q + 1 := ⟨K - 1, by omega⟩
    simp only [chantryref06_shifted.l0]
    by_cases h : x5 < n
    · rw [if_pos h, if_neg (by omega), hw]; rfl
    · rw [if_neg h, hw]; rfl
  | m + 1, j, K, x0, x5, hm, h0, h1, hK, hx, hw => by
    obtain ⟨K, rfl⟩ : ∃ q, K = q + 1 := ⟨K - 1, by omega⟩
    simp only [chantryref06_shifted.l0]
    rw [if_pos (by omega), if_pos (by omega), shift_loop n w m (j + 1) K _ _ (by omega) h0 h1 (by omega) (by omega) ?_]
    · congr 3
      rw [show j + 1 + m = j + (m + 1) by omega]
    · rw [hw, wrap_u64, wrap_u64, wrap_u64, Int.pow_succ]
      rw [← Int.mul_assoc]
      generalize w * 2 ^ j = z
      omega
theorem shifted_spec (k : Nat) (hk : 100 ≤ k) (w n : Int) (hw : Word w) (h0 : 0 ≤ n) (h1 : n < 4294967296) : chantryref06_shifted.f k w n = some (shl .u64 w n) := by
  unfold chantryref06_shifted.f
  rw [shift_loop n w (min n.toNat 64) 0 k w 0 (by omega) h0 h1 (by omega) rfl (by rw [wrap_u64]; have := hw.1; have := hw.2; omega)]
  rw [Nat.zero_add]
  rfl
theorem or_add {n m : Nat} (hn : n < 18446744073709551616) (hm : m < 18446744073709551616) (h : n &&& m = 0) : n ||| m = (n + m) % 18446744073709551616 := by
  have h1 : (BitVec.ofNat 64 n) &&& (BitVec.ofNat 64 m) = 0#64 := by
    apply BitVec.eq_of_toNat_eq
    rw [BitVec.toNat_and, BitVec.toNat_ofNat, BitVec.toNat_ofNat, Nat.mod_eq_of_lt hn, Nat.mod_eq_of_lt hm, h]
    rfl
  have h2 := BitVec.add_eq_or_of_and_eq_zero _ _ h1
  have h3 := congrArg BitVec.toNat h2
  rw [BitVec.toNat_add, BitVec.toNat_or, BitVec.toNat_ofNat, BitVec.toNat_ofNat, Nat.mod_eq_of_lt hn, Nat.mod_eq_of_lt hm] at h3
  exact h3.symm
theorem shl_even {c n : Int} (hc : Word c) (h0 : 1 ≤ n) : ∃ m : Nat, shl .u64 c n = (m : Int) ∧ m < 18446744073709551616 ∧ m % 2 = 0 := by
  obtain ⟨m, hm, hl⟩ := word_nat (shl_word c n)
  refine ⟨m, hm, hl, ?_⟩
  unfold shl at hm
  rw [wrap_u64] at hm
  obtain ⟨q, hq⟩ : ∃ q, min n.toNat IntKind.u64.bits = q + 1 := ⟨min n.toNat IntKind.u64.bits - 1, by have : IntKind.u64.bits = 64 := rfl; omega⟩
  rw [hq, Int.pow_succ, ← Int.mul_assoc] at hm
  generalize c * 2 ^ q = z at hm
  omega
theorem came_new {c n : Int} (hc : Word c) (h0 : 1 ≤ n) : IntKind.u64.wrap (shl .u64 c n + 1) = Go.bits .or .u64 (shl .u64 c n) 1 := by
  obtain ⟨m, hm, hl, he⟩ := shl_even hc h0
  rw [hm, wrap_u64]
  have h1 := u64_or_nat m 1 hl (by decide)
  have h2 := or_add hl (show 1 < 18446744073709551616 by decide) (by rw [nat_mask1, he])
  rw [show ((1 : Nat) : Int) = 1 from rfl] at h1
  rw [h1, h2]
  omega
theorem shl_one_big {n : Int} (h : 64 ≤ n) : shl .u64 1 n = 0 := by
  unfold shl
  rw [show min n.toNat IntKind.u64.bits = 64 by have : IntKind.u64.bits = 64 := rfl; omega]
  decide
theorem pow_pos' (b : Int) : (0 : Nat) < 2 ^ b.toNat := Nat.two_pow_pos _
theorem bit_test {c n : Int} (hc : Word c) (h0 : 0 ≤ n) (h1 : n < 64) : (Int.tmod (IntKind.u64.wrap (Int.tdiv c (shl .u64 1 n))) 2 = 1) ↔ Go.bits .and .u64 (shr .u64 c n) 1 = 1 := by
  obtain ⟨m, rfl, hm⟩ := word_nat hc
  rw [shl_one h0 h1, shr_nat m h0 h1]
  have hd := Nat.div_le_self m (2 ^ n.toNat)
  rw [and_one _ (by omega)]
  rw [Int.tdiv_eq_ediv_of_nonneg (by omega), ← Int.natCast_ediv, wrap_u64]
  generalize m / 2 ^ n.toNat = d at hd
  rw [Int.tmod_eq_emod_of_nonneg (by omega)]
  omega
theorem came_set {c n : Int} (hc : Word c) (h0 : 0 ≤ n) (h1 : n < 64) (h : ¬ Go.bits .and .u64 (shr .u64 c n) 1 = 1) : IntKind.u64.wrap (c + shl .u64 1 n) = Go.bits .or .u64 c (shl .u64 1 n) := by
  obtain ⟨m, rfl, hm⟩ := word_nat hc
  have hp : (2 : Nat) ^ n.toNat < 2 ^ 64 := Nat.pow_lt_pow_right (by decide) (by omega)
  have hp2 : (2 : Nat) ^ n.toNat < 18446744073709551616 := hp
  rw [shr_nat m h0 h1, and_one _ (by have := Nat.div_le_self m (2 ^ n.toNat); omega)] at h
  rw [shl_one h0 h1, u64_or_nat m _ hm hp2, wrap_u64]
  have h2 := or_add hm hp2 (by
    rw [nat_bit]
    have h3 : m / 2 ^ n.toNat % 2 = 0 := by
      generalize m / 2 ^ n.toNat = d at h
      omega
    rw [h3, Nat.zero_mul])
  rw [h2]
  generalize 2 ^ n.toNat = d
  omega
theorem ref_accept_spec (k : Nat) (hk : 5000 ≤ k) (key : ByteArray) (nx top came me a b sq : Int) (l : List Int) (tag : ByteArray) (hc : Word came) (hs : 0 ≤ sq ∧ sq < 4294967296) (ht : 0 ≤ top ∧ top < 4294967296) : chantryref06_Accept.f k key nx top came me a b sq l tag = some (acceptOf key nx top came me a b sq l tag) := by
  obtain ⟨k, rfl⟩ : ∃ m, k = m + 1 := ⟨k - 1, by omega⟩
  have hbad : chantryref06_Accept.j0 (k + 1) true key nx top came a b sq l tag = some (key, nx, top, came, 2) := by
    simp only [chantryref06_Accept.j0]; rw [if_pos trivial]
  unfold chantryref06_Accept.f acceptOf
  by_cases h1 : b = me
  · rw [if_pos h1, ref_two_spec, Option.bind_some]
    by_cases h2 : twoB a b = true
    · rw [if_pos h2]
      by_cases h3 : sq = 0
      · rw [if_neg (show ¬ (b = me ∧ twoB a b = true ∧ sq ≠ 0) from fun h => h.2.2 h3), show (sq == 0) = true from beq_iff_eq.mpr h3, hbad]
      · rw [if_pos (show b = me ∧ twoB a b = true ∧ sq ≠ 0 from ⟨h1, h2, h3⟩), show (sq == 0) = false from beq_eq_false_iff_ne.mpr h3]
        simp only [chantryref06_Accept.j0]
        rw [if_neg (by decide), ref_tag_spec k (by omega) _ _ _ _ _ _ hs.1 hs.2, Option.bind_some]
        by_cases h4 : (tagOf key a b sq l).2 = 0
        · rw [if_pos h4, if_pos h4]
          by_cases h5 : (tagOf key a b sq l).1 = tag
          · rw [if_pos ((toList_iff _ _).2 h5), if_pos h5]
            by_cases h6 : sq > top
            · have e : (sq - top) % 4294967296 = sq - top := by omega
              rw [if_pos h6, if_pos h6, shifted_spec k (by omega) _ _ hc (by omega) (by omega), Option.bind_some, came_new hc (by omega)]
            · rw [if_neg h6, if_neg h6, shifted_spec k (by omega) _ _ one_word (by omega) (by omega), Option.bind_some]
              by_cases h7 : (top - sq) % 4294967296 ≥ 64
              · rw [if_pos h7, if_pos (shl_one_big h7)]
              · have hn0 : ¬ shl .u64 1 ((top - sq) % 4294967296) = 0 := by
                  rw [shl_one (by omega) (by omega)]
                  have := pow_pos' ((top - sq) % 4294967296)
                  omega
                rw [if_neg h7, if_neg hn0]
                by_cases h8 : Go.bits .and .u64 (shr .u64 came ((top - sq) % 4294967296)) 1 = 1
                · rw [if_pos h8, if_pos ((bit_test hc (by omega) (by omega)).2 h8)]
                · rw [if_neg h8, if_neg (fun h => h8 ((bit_test hc (by omega) (by omega)).1 h)), came_set hc (by omega) (by omega) h8]
          · rw [if_neg (fun h => h5 ((toList_iff _ _).1 h)), if_neg h5]
        · rw [if_neg h4, if_neg h4]
    · rw [if_neg h2, if_neg (show ¬ (b = me ∧ twoB a b = true ∧ sq ≠ 0) from fun h => h2 h.2.1), hbad]
  · rw [if_neg h1, if_neg (show ¬ (b = me ∧ twoB a b = true ∧ sq ≠ 0) from fun h => h1 h.1), hbad]
end Go.Proofs.Ytimfhdpgkoonaaa.L06
