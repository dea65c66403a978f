/- The law's own 'alive' of layer 6 is true. -/
import Derived.Test.YtimfhdpgkoonaaaLkO
set_option linter.unusedVariables false
namespace Go.Proofs.Ytimfhdpgkoonaaa.L06
open Go.RowKit Go.Proofs.Ytimfhdpgkoonaaa.Pr Go.Proofs.YtimfhdpgkoonaaaW.PrintWords Go.Proofs.YtimfhdpgkoonaaaW.PrintLast Go.Proofs.YtimfhdpgkoonaaaW.PrintMore Go.Proofs.Ytimfhdpgkoonaaa.TT Go.Proofs.Ytimfhdpgkoonaaa.Ev03 Go.Proofs.Ytimfhdpgkoonaaa.Iter
def k32 : ByteArray := ⟨#[100, 110, 0, 1, 99, 2, 2, 3]⟩
def tg32 : ByteArray := ⟨#[109, 100, 110, 0, 1, 99, 2, 2, 3, 99, 8, 2, 3, 0, 0, 0, 1, 104, 105]⟩
theorem al_key : keyOf (nonceOf 1) 3 2 = (k32, 0) := by decide +kernel
theorem al_tag : tagOf k32 2 3 1 [104, 105] = (tg32, 0) := by decide +kernel
theorem al_send : sendOf k32 0 0 0 2 3 [104, 105] = (k32, 1, 0, 0, 2, 3, 1, [104, 105], tg32, 0) := by
  unfold sendOf
  rw [if_pos (by decide), if_neg (by decide), show ((0 : Int) + 1) % 4294967296 = 1 from by decide, al_tag]
  rfl
theorem al_acc : acceptOf k32 0 0 0 3 2 3 1 [104, 105] tg32 = (k32, 0, 1, 1, 0) := by
  unfold acceptOf
  rw [al_tag]
  decide +kernel
theorem al_acc2 : acceptOf k32 0 1 1 3 2 3 1 [104, 105] tg32 = (k32, 0, 1, 1, 6) := by
  unfold acceptOf
  rw [al_tag]
  decide +kernel
theorem alive06 (k : Nat) (hk : 1 ≤ k) : chantrylaw06_alive.f k = some true := by
  unfold chantrylaw06_alive.f
  rw [nonce_spec 1 (by decide) (by decide), Option.bind_some, key_spec, al_key, Option.bind_some]
  simp only []
  rw [send_spec _ _ _ _ _ _ _ (by decide), al_send, Option.bind_some]
  simp only []
  rw [accept_spec k hk, al_acc, Option.bind_some]
  simp only []
  rw [accept_spec k hk, al_acc2, Option.bind_some]
  simp only []
  have e1 : k32.toList = [100, 110, 0, 1, 99, 2, 2, 3] := by rw [Go.ByteArray.toList_eq]; rfl
  have e2 : tg32.toList = ((⟨#[109]⟩ : ByteArray) ++ k32 ++ (⟨#[99, 8, 2, 3, 0, 0, 0, 1, 104, 105]⟩ : ByteArray)).toList := (toList_iff _ _).2 (by decide +kernel)
  have e3 : 1 + k32.size ≤ 9223372036854775807 := by decide
  have e4 : ((⟨#[109]⟩ : ByteArray) ++ k32).size + 10 ≤ 9223372036854775807 := by decide +kernel
  simp only [if_true]
  rw [if_pos e1, if_pos e3, if_pos e4, if_pos e2]
  simp
end Go.Proofs.Ytimfhdpgkoonaaa.L06
