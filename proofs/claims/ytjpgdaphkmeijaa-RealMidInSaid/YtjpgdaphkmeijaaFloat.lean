/- The program's functions on numbers, told by their bits: what each answers, walked once. -/
import Derived.Test.YtjpgdaphkmeijaaChecked
import Derived.WalkKit
import Derived.WalkLawsBesides
import Derived.Laws.Externs
import Derived.KernelRfl
import Derived.Laws.BitsLemmas
import Derived.Test.YtjpgdaphkmeijaaFlaw
set_option linter.unusedVariables false
set_option linter.unusedSimpArgs false
namespace Go.Proofs.Ytjpgdaphkmeijaa.Rl
open Go.RowKit


theorem wrap_u64_nat (n : Nat) (h : n < 18446744073709551616) : IntKind.u64.wrap (n : Int) = n := by
  simp only [IntKind.wrap, IntKind.bits, IntKind.signed]; simp; omega
theorem ofInt_nat (n : Nat) : BitVec.ofInt 64 (n : Int) = BitVec.ofNat 64 n := by
  apply BitVec.eq_of_toNat_eq; simp
theorem toNat_lit (n : Nat) (h : n < 18446744073709551616) : (BitVec.ofNat 64 n).toNat = n := by
  rw [BitVec.toNat_ofNat]; exact Nat.mod_eq_of_lt h
theorem nand63 (n : Nat) (h : n < 18446744073709551616) : n &&& 2 ^ 63 = if n < 9223372036854775808 then 0 else 9223372036854775808 := by
  apply Nat.eq_of_testBit_eq
  intro i
  rw [Nat.testBit_and, Nat.testBit_two_pow]
  by_cases hi : 63 = i
  · subst hi
    by_cases hn : n < 9223372036854775808
    · rw [if_pos hn, Nat.testBit_lt_two_pow (by omega)]; simp
    · rw [if_neg hn, show n = 2 ^ 63 + (n - 2 ^ 63) by omega, Nat.testBit_two_pow_add_eq, Nat.testBit_lt_two_pow (by omega : n - 2 ^ 63 < 2 ^ 63)]; rfl
  · rw [decide_eq_false hi, Bool.and_false]
    split
    · simp
    · rw [show (9223372036854775808 : Nat) = 2 ^ 63 from rfl, Nat.testBit_two_pow, decide_eq_false hi]
theorem and63 (n : Nat) (h : n < 18446744073709551616) : Go.bits .and .u64 (n : Int) 9223372036854775808 = if n < 9223372036854775808 then 0 else 9223372036854775808 := by
  have e : Go.bits .and .u64 (n : Int) 9223372036854775808 = IntKind.u64.wrap ((BitVec.ofInt 64 (n : Int) &&& BitVec.ofInt 64 ((9223372036854775808 : Nat) : Int)).toNat : Int) := rfl
  rw [e, ofInt_nat, ofInt_nat, BitVec.toNat_and, toNat_lit n h, toNat_lit _ (by decide), show (9223372036854775808 : Nat) = 2 ^ 63 from rfl, nand63 n h]
  by_cases hn : n < 9223372036854775808
  · rw [if_pos hn, if_pos hn]; rfl
  · rw [if_neg hn, if_neg hn]; rfl
theorem or63 (n : Nat) (h : n < 9223372036854775808) : Go.bits .or .u64 (n : Int) 9223372036854775808 = n + 9223372036854775808 := by
  have e : Go.bits .or .u64 (n : Int) 9223372036854775808 = IntKind.u64.wrap ((BitVec.ofInt 64 (n : Int) ||| BitVec.ofInt 64 ((9223372036854775808 : Nat) : Int)).toNat : Int) := rfl
  have k := Nat.two_pow_add_eq_or_of_lt (show n < 2 ^ 63 from h) 1
  rw [e, ofInt_nat, ofInt_nat, BitVec.toNat_or, toNat_lit n (by omega), toNat_lit _ (by decide), Nat.or_comm, show (9223372036854775808 : Nat) = 2 ^ 63 * 1 from rfl, ← k, wrap_u64_nat _ (by omega)]
  omega
theorem xormax (n : Nat) (h : n < 18446744073709551616) : Go.bits .xor .u64 IntKind.u64.max (n : Int) = 18446744073709551615 - n := by
  have e : Go.bits .xor .u64 IntKind.u64.max (n : Int) = IntKind.u64.wrap ((BitVec.allOnes 64 ^^^ BitVec.ofInt 64 (n : Int)).toNat : Int) := rfl
  rw [e, ofInt_nat, BitVec.allOnes_xor, BitVec.toNat_not, toNat_lit n h, wrap_u64_nat _ (by omega)]
  omega
theorem andnot63 (n : Nat) (h : n < 18446744073709551616) (h2 : 9223372036854775808 ≤ n) : Go.bits .andNot .u64 (n : Int) 9223372036854775808 = n - 9223372036854775808 := by
  have e : Go.bits .andNot .u64 (n : Int) 9223372036854775808 = IntKind.u64.wrap ((BitVec.ofInt 64 (n : Int) &&& BitVec.ofNat 64 9223372036854775807).toNat : Int) := rfl
  rw [e, ofInt_nat, BitVec.toNat_and, toNat_lit n h, toNat_lit _ (by decide), show (9223372036854775807 : Nat) = 2 ^ 63 - 1 from rfl, Nat.and_two_pow_sub_one_eq_mod, wrap_u64_nat _ (by omega)]
  omega

theorem e30 (n : Int) (w : World) : (callFunc 30 #[.int .u64 n]).run Try.prog w = .ok (.value (.float .f64 n.toNat)) w := by
  rw [run_callFunc_extern (e := Extern.MathFloatBits.float64frombits) Try.func30 (by kernel_rfl) rfl (by kernel_rfl) (by kernel_rfl)]
  rfl
theorem e33 (b : Nat) (w : World) : (callFunc 33 #[.float .f64 b]).run Try.prog w = .ok (.value (.int .u64 b)) w := by
  rw [run_callFunc_extern (e := Extern.MathFloatBits.float64bits) Try.func33 (by kernel_rfl) rfl (by kernel_rfl) (by kernel_rfl)]
  rfl

/-- A call that hands back so and turns nothing. -/
def Pure (k : Nat) (args : Array Value) (v : Value) : Prop := ∀ w : World, Calls Try.prog k args w fun e w' => e = .returned v ∧ ∃ q, w' = w.drewN q

theorem isNaN_f (a : Nat) : Pure 38 #[.float .f64 a] (.bool (fNaN a)) := by
  intro w
  go_enter Try.func38, Try.ntmps38
  go_wp2
  go_ret
  exact ⟨rfl, 0, rfl⟩

theorem compare_f (a b : Nat) : Pure 34 #[.float .f64 a, .float .f64 b] (.int .i64 (cmpF a b)) := by
  intro w
  have h1 := isNaN_f a
  have h2 := isNaN_f b
  go_enter Try.func34, Try.ntmps34
  go_wp2_with (first | (go_at_call 38; refine (h1 _).mono ?_; clear h1; rintro e w' ⟨rfl, q, rfl⟩) | (go_at_call 38; refine (h2 _).mono ?_; clear h2; rintro e w' ⟨rfl, q, rfl⟩))
  all_goals (go_ret; refine ⟨?_, _, rfl⟩; simp_all [cmpF, ford])

theorem order_f (a b : Nat) : Pure 16 #[.float .f64 a, .float .f64 b] (.int .i64 (orderF a b)) := by
  intro w
  have h1 := compare_f a b
  have hr : -1 ≤ cmpF a b ∧ cmpF a b ≤ 1 := by unfold cmpF; repeat' split <;> omega
  go_enter Try.func16, Try.ntmps16
  go_wp2_with (go_at_call 34; refine (h1 _).mono ?_; rintro e w' ⟨rfl, q, rfl⟩)
  all_goals (go_ret; refine ⟨?_, _, rfl⟩; simp_all [orderF, fNaN, ford])

theorem same_f (a b : Nat) : Pure 19 #[.float .f64 a, .float .f64 b] (.bool (orderF a b == 0)) := by
  intro w
  have h1 := order_f a b
  go_enter Try.func19, Try.ntmps19
  go_wp2_with (go_at_call 16; refine (h1 _).mono ?_; rintro e w' ⟨rfl, q, rfl⟩)
  go_ret
  exact ⟨rfl, _, rfl⟩

theorem canon_f (a : Nat) : Pure 18 #[.float .f64 a] (.float .f64 (canonF a)) := by
  intro w
  have h0 := e30 9221120237041090561
  go_enter Try.func18, Try.ntmps18
  go_wp2
  all_goals (go_ret; refine ⟨?_, 0, rfl⟩; simp_all [canonF, fNaN, ford])

theorem code_f (a : Nat) (ha : a < 18446744073709551616) : Pure 17 #[.float .f64 a] (.int .u64 (codeF a)) := by
  intro w
  have h1 := canon_f a
  have h0 := e33 (canonF a)
  have hl := canonF_lt a ha
  have a1 := and63 (canonF a) hl
  have a2 := xormax (canonF a) hl
  go_enter Try.func17, Try.ntmps17
  go_wp2_with (go_at_call 18; refine (h1 _).mono ?_; rintro e w' ⟨rfl, q, rfl⟩)
  all_goals (go_ret; refine ⟨?_, _, rfl⟩; by_cases hc : canonF a < 9223372036854775808 <;> simp_all [codeF, or63])
  all_goals (intro hx; omega)
theorem nan_f : Pure 27 #[] (.float .f64 9221120237041090561) := by
  intro w
  have h0 := e30 9221120237041090561
  go_enter Try.func27, Try.ntmps27
  go_wp2
  all_goals (go_ret; exact ⟨rfl, 0, rfl⟩)
theorem copysign_f : Pure 28 #[.float .f64 0, .float .f64 13830554455654793216] (.float .f64 9223372036854775808) := by
  intro w
  have h0 := e30
  have h1 := e33
  go_enter Try.func28, Try.ntmps28
  go_wp2
  all_goals (go_ret; exact ⟨rfl, 0, rfl⟩)
theorem inf_f : Pure 29 #[.int .i64 1] (.float .f64 9218868437227405312) := by
  intro w
  have h0 := e30
  go_enter Try.func29, Try.ntmps29
  go_wp2
  all_goals (go_ret; exact ⟨rfl, 0, rfl⟩)
theorem of_f (n : Nat) : Pure 12 #[.int .u64 n] (.float .f64 n) := by
  intro w
  have h0 := e30
  go_enter Try.func12, Try.ntmps12
  go_wp2
  all_goals (go_ret; exact ⟨rfl, 0, rfl⟩)
theorem bits_f (n : Nat) : Pure 14 #[.float .f64 n] (.int .u64 n) := by
  intro w
  have h0 := e33
  go_enter Try.func14, Try.ntmps14
  go_wp2
  all_goals (go_ret; exact ⟨rfl, 0, rfl⟩)

theorem clamp_f (a b c : Nat) : Pure 20 #[.float .f64 a, .float .f64 b, .float .f64 c] (.float .f64 (clampF a b c)) := by
  intro w
  go_enter Try.func20, Try.ntmps20
  go_wp2_with (first | (go_at_call 16; refine (order_f _ _ _).mono ?_; rintro e w' ⟨rfl, q, rfl⟩) | (go_at_call 18; refine (canon_f _ _).mono ?_; rintro e w' ⟨rfl, q, rfl⟩))
  all_goals (go_ret; refine ⟨?_, _, rfl⟩; simp_all [clampF])
  all_goals (first | (intro hx; omega) | (rw [if_neg (by omega), if_neg (by omega)]))
theorem decode_f (c : Nat) (hc : c < 18446744073709551616) : Pure 24 #[.int .u64 c] (.tuple #[.float .f64 (if codeF (decF c) = c then decF c else 0), .bool (decide (codeF (decF c) = c))]) := by
  intro w
  have h0 := e30
  have a1 := and63 c hc
  have a2 := xormax c hc
  have h1 := code_f (decF c) (by unfold decF; split <;> omega)
  by_cases hx : codeF (decF c) = c
  all_goals
    by_cases hl : c < 9223372036854775808
    · rw [if_pos hl] at a1
      have e : (18446744073709551615 - (c : Int)).toNat = decF c := by unfold decF; rw [if_pos hl]; omega
      clear hl hc
      go_enter Try.func24, Try.ntmps24
      go_wp2_with fail
      refine Calls.mono (h1 _) ?_
      rintro e w' ⟨rfl, q, rfl⟩
      go_wp2
      all_goals (go_ret2; exact ⟨rfl, _, rfl⟩)
    · rw [if_neg hl] at a1
      have a3 := andnot63 c hc (by omega)
      have e : ((c : Int) - 9223372036854775808).toNat = decF c := by unfold decF; rw [if_neg hl]; omega
      clear hl hc
      go_enter Try.func24, Try.ntmps24
      go_wp2_with fail
      refine Calls.mono (h1 _) ?_
      rintro e w' ⟨rfl, q, rfl⟩
      go_wp2
      all_goals (go_ret2; exact ⟨rfl, _, rfl⟩)
end Go.Proofs.Ytjpgdaphkmeijaa.Rl
