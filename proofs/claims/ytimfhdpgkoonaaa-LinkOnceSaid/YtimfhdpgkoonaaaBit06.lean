/- Words of sixty-four bits: shifts, and a bit that is set. Plain law. -/
import Derived.Test.YtimfhdpgkoonaaaWMore
import Derived.Laws.BitsAllLaws
set_option linter.unusedVariables false
namespace Go.Proofs.Ytimfhdpgkoonaaa.L06
open Go.RowKit Go.Proofs.YtimfhdpgkoonaaaW.PrintWords Go.Proofs.YtimfhdpgkoonaaaW.PrintMore
def Word (x : Int) : Prop := 0 ≤ x ∧ x < 18446744073709551616
theorem word_nat {x : Int} (h : Word x) : ∃ n : Nat, x = (n : Int) ∧ n < 18446744073709551616 := ⟨x.toNat, by have := h.1; omega, by have := h.1; have := h.2; omega⟩
theorem wrap_u64 (n : Int) : IntKind.u64.wrap n = n % 18446744073709551616 := by simp [IntKind.wrap, IntKind.bits, IntKind.signed]
theorem shl_word (x y : Int) : Word (shl .u64 x y) := by unfold shl Word; rw [wrap_u64]; omega
theorem shr_word {x : Int} (h : Word x) (y : Int) : Word (shr .u64 x y) := by
  obtain ⟨n, rfl, hn⟩ := word_nat h
  unfold shr
  have e : ((n : Int)) / 2 ^ min y.toNat IntKind.u64.bits = ((n / 2 ^ min y.toNat IntKind.u64.bits : Nat) : Int) := by rw [Int.natCast_ediv, Int.natCast_pow]; rfl
  rw [e]
  have h1 := Nat.div_le_self n (2 ^ min y.toNat IntKind.u64.bits)
  generalize n / 2 ^ min y.toNat IntKind.u64.bits = d at h1
  exact ⟨by omega, by omega⟩
theorem or_word {x y : Int} (hx : Word x) (hy : Word y) : Word (Go.bits .or .u64 x y) := by
  obtain ⟨n, rfl, hn⟩ := word_nat hx
  obtain ⟨m, rfl, hm⟩ := word_nat hy
  rw [u64_or_nat n m hn hm]
  have := Nat.or_lt_two_pow (n := 64) (x := n) (y := m) (by omega) (by omega)
  exact ⟨by omega, by omega⟩
theorem one_word : Word 1 := ⟨by decide, by decide⟩
theorem shl_one {b : Int} (h0 : 0 ≤ b) (h1 : b < 64) : shl .u64 1 b = ((2 ^ b.toNat : Nat) : Int) := by
  unfold shl
  rw [wrap_u64, Nat.min_eq_left (by show b.toNat ≤ 64; omega)]
  have hp : (2 : Nat) ^ b.toNat < 2 ^ 64 := Nat.pow_lt_pow_right (by decide) (by omega)
  have e : (1 : Int) * 2 ^ b.toNat = ((2 ^ b.toNat : Nat) : Int) := by rw [Int.natCast_pow, Int.one_mul]; rfl
  rw [e]
  generalize 2 ^ b.toNat = d at hp
  omega
theorem shr_nat (n : Nat) {b : Int} (h0 : 0 ≤ b) (h1 : b < 64) : shr .u64 (n : Int) b = ((n / 2 ^ b.toNat : Nat) : Int) := by
  unfold shr
  rw [Nat.min_eq_left (by show b.toNat ≤ 64; omega), Int.natCast_ediv, Int.natCast_pow]
  rfl
theorem and_one (n : Nat) (hn : n < 18446744073709551616) : Go.bits .and .u64 (n : Int) 1 = ((n % 2 : Nat) : Int) := by
  have := u64_and_nat n 1 hn (by decide)
  rw [nat_mask1] at this
  exact this
/-- A bit that is not set: with it the word is another one. -/
theorem set_ne {c b : Int} (hc : Word c) (h0 : 0 ≤ b) (h1 : b < 64) (h : ¬ Go.bits .and .u64 (shr .u64 c b) 1 = 1) : ¬ Go.bits .or .u64 c (shl .u64 1 b) = c := by
  obtain ⟨n, rfl, hn⟩ := word_nat hc
  have hp : (2 : Nat) ^ b.toNat < 2 ^ 64 := Nat.pow_lt_pow_right (by decide) (by omega)
  rw [shr_nat n h0 h1, and_one _ (by have := Nat.div_le_self n (2 ^ b.toNat); omega)] at h
  rw [shl_one h0 h1, u64_or_nat n _ hn (by omega)]
  intro e
  have e2 : n ||| 2 ^ b.toNat = n := by omega
  have h3 : (n ||| 2 ^ b.toNat).testBit b.toNat = true := by rw [Nat.testBit_or, Nat.testBit_two_pow_self, Bool.or_true]
  rw [e2, Nat.testBit_eq_decide_div_mod_eq] at h3
  have := of_decide_eq_true h3
  omega
end Go.Proofs.Ytimfhdpgkoonaaa.L06
