/- The reference's functions, in the program's words. -/
import Derived.Test.YtjpgdaphkmeijaaAlive01
import Derived.Test.YtjpgdaphkmeijaaPrx1
set_option linter.unusedVariables false
set_option linter.unusedSimpArgs false
namespace Go.Proofs.Ytjpgdaphkmeijaa.Rl
open Go.RowKit Go.Shelf Go.Proofs.YtjpgdaphkmeijaaW.PrintWords

def M : Nat := 18446744073709551616

theorem f_canon {a : Nat} (ha : a < 18446744073709551616) : Pr.chantryref01_Canon.f (a : Int) = some (canonF a : Int) := by
  rw [canonF_eq ha]
  unfold Pr.chantryref01_Canon.f canonR
  rw [Int.tmod_eq_emod_of_nonneg (by omega)]
  by_cases h1 : a = 9223372036854775808
  · rw [if_pos h1, if_pos (by omega)]; rfl
  · rw [if_neg h1, if_neg (by omega)]
    by_cases h2 : 9218868437227405312 < a % 9223372036854775808
    · rw [if_pos h2, if_pos (by omega)]; rfl
    · rw [if_neg h2, if_neg (by omega)]
theorem wrap_u64 (n : Int) (h0 : 0 ≤ n) (h : n < 18446744073709551616) : IntKind.u64.wrap n = n := by
  obtain ⟨m, rfl⟩ := Int.eq_ofNat_of_zero_le h0
  exact wrap_u64_nat m (by omega)
theorem f_code {a : Nat} (ha : a < 18446744073709551616) : Pr.chantryref01_Code.f (a : Int) = some (codeF a) := by
  have hl := canonF_lt a ha
  unfold Pr.chantryref01_Code.f codeF
  rw [f_canon ha]
  simp only [Option.bind_some]
  split
  · rw [if_neg (by omega), wrap_u64 _ (by omega) (by omega)]
  · rw [if_pos (by omega), wrap_u64 _ (by omega) (by omega)]
theorem f_order {a b : Nat} (ha : a < 18446744073709551616) (hb : b < 18446744073709551616) : Pr.chantryref01_Order.f (a : Int) (b : Int) = some (orderF a b) := by
  unfold Pr.chantryref01_Order.f
  rw [f_code ha, f_code hb, orderF_eq ha hb, codeF_eq ha, codeF_eq hb]
  simp only [Option.bind_some]
  unfold orderR
  by_cases h1 : codeR a < codeR b
  · rw [if_pos h1, if_pos (by omega)]
  · rw [if_neg h1, if_neg (by omega)]
    by_cases h2 : codeR b < codeR a
    · rw [if_pos h2, if_pos (by omega)]
    · rw [if_neg h2, if_neg (by omega)]
theorem f_clamp {a b c : Nat} (ha : a < 18446744073709551616) (hb : b < 18446744073709551616) (hc : c < 18446744073709551616) : Pr.chantryref01_Clamp.f (a : Int) (b : Int) (c : Int) = some (clampF a b c : Int) := by
  unfold Pr.chantryref01_Clamp.f clampF
  rw [f_order ha hb, f_order ha hc, f_canon ha, f_canon hb, f_canon hc]
  simp only [Option.bind_some]
  split
  · rfl
  · split <;> rfl
def decV (c : Nat) : Nat := if codeF (decF c) = c then decF c else 0
def decB (c : Nat) : Bool := decide (codeF (decF c) = c)
theorem f_decode {c : Nat} (hc : c < 18446744073709551616) : Pr.chantryref01_Decode.f (c : Int) = some ((decV c : Int), decB c) := by
  have e1 : ∀ x : Int, 0 ≤ x → x < 18446744073709551616 → IntKind.u64.wrap x = x := wrap_u64
  have hd := decF_lt hc
  have hcode : Pr.chantryref01_Code.f (decF c : Int) = some (codeF (decF c)) := f_code hd
  unfold Pr.chantryref01_Decode.f decV decB
  by_cases hl : c < 9223372036854775808
  · have e : (18446744073709551615 - (c : Int)) = (decF c : Int) := by unfold decF; rw [if_pos hl]; omega
    rw [if_neg (by omega), e, e1 _ (by omega) (by omega), hcode]
    simp only [Option.bind_some]
    by_cases h : codeF (decF c) = (c : Int)
    · rw [if_pos h, if_pos h, decide_eq_true h]
    · rw [if_neg h, if_neg h, decide_eq_false h]; rfl
  · have e : ((c : Int) - 9223372036854775808) = (decF c : Int) := by unfold decF; rw [if_neg hl]; omega
    rw [if_pos (by omega), e, e1 _ (by omega) (by omega), hcode]
    simp only [Option.bind_some]
    by_cases h : codeF (decF c) = (c : Int)
    · rw [if_pos h, if_pos h, decide_eq_true h]
    · rw [if_neg h, if_neg h, decide_eq_false h]; rfl

theorem rcanon {a : Nat} (ha : a < 18446744073709551616) : Pure 21 #[.int .u64 a] (.int .u64 (canonF a)) := fun w => (Pr.chantryref01_Canon.calls a _ w (f_canon ha)).mono fun _ _ ⟨he, hd⟩ => ⟨he, hd.out⟩
theorem rcode {a : Nat} (ha : a < 18446744073709551616) : Pure 26 #[.int .u64 a] (.int .u64 (codeF a)) := fun w => (Pr.chantryref01_Code.calls a _ w (f_code ha)).mono fun _ _ ⟨he, hd⟩ => ⟨he, hd.out⟩
theorem rorder {a b : Nat} (ha : a < 18446744073709551616) (hb : b < 18446744073709551616) : Pure 22 #[.int .u64 a, .int .u64 b] (.int .i64 (orderF a b)) := fun w => (Pr.chantryref01_Order.calls a b _ w (f_order ha hb)).mono fun _ _ ⟨he, hd⟩ => ⟨he, hd.out⟩
theorem rclamp {a b c : Nat} (ha : a < 18446744073709551616) (hb : b < 18446744073709551616) (hc : c < 18446744073709551616) : Pure 23 #[.int .u64 a, .int .u64 b, .int .u64 c] (.int .u64 (clampF a b c)) := fun w => (Pr.chantryref01_Clamp.calls a b c _ w (f_clamp ha hb hc)).mono fun _ _ ⟨he, hd⟩ => ⟨he, hd.out⟩
theorem rdecode {c : Nat} (hc : c < 18446744073709551616) : Pure 25 #[.int .u64 c] (.tuple #[.int .u64 (decV c), .bool (decB c)]) := fun w => (Pr.chantryref01_Decode.calls c _ _ w (f_decode hc)).mono fun _ _ ⟨he, hd⟩ => ⟨he, hd.out⟩
theorem decode_g {c : Nat} (hc : c < 18446744073709551616) : Pure 24 #[.int .u64 c] (.tuple #[.float .f64 (decV c), .bool (decB c)]) := decode_f c hc
end Go.Proofs.Ytjpgdaphkmeijaa.Rl
