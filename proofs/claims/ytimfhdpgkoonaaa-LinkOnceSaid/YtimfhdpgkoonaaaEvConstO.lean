/- Nonces and constants, the program's and the reference's: the same. Plain law. -/
import Derived.Test.YtimfhdpgkoonaaaEvMadeO
import Derived.Test.YtimfhdpgkoonaaaPrx2
import Derived.Test.YtimfhdpgkoonaaaPrx4
import Derived.Test.YtimfhdpgkoonaaaPrx5
set_option linter.unusedVariables false
set_option linter.unusedSimpArgs false
namespace Go.Proofs.Ytimfhdpgkoonaaa.Ev03
open Go.RowKit Go.Proofs.Ytimfhdpgkoonaaa.Pr Go.Proofs.YtimfhdpgkoonaaaW.PrintWords Go.Proofs.YtimfhdpgkoonaaaW.PrintLast Go.Proofs.YtimfhdpgkoonaaaW.PrintMore Go.Proofs.Ytimfhdpgkoonaaa.TT

def constOf (s : ByteArray) : ByteArray × Int := if 40 < s.size then (⟨#[]⟩, 3) else ((Tm.const s.data.toList).str, 0)
def nonceOf (a : Int) : ByteArray := (Tm.nonce (UInt8.ofNat (a / 256).toNat) (UInt8.ofNat (a % 256).toNat)).str
theorem const_spec (s : ByteArray) : term_NewConst.f s = some (constOf s) := by
  unfold term_NewConst.f constOf
  by_cases h : (s.size : Int) > 40
  · rw [if_pos h, if_pos (by omega)]
  · rw [if_neg h, if_neg (by omega), Option.bind_some]
    have e : strOfNums [99, (s.size : Int) % 256] = strOf [99, UInt8.ofNat s.size] := by
      unfold strOfNums strOf
      rw [List.map_cons, List.map_cons, List.map_nil]
      have : ((s.size : Int) % 256).toNat = s.size := by omega
      rw [this]; rfl
    have q : s.data.toList.length = s.size := len_eq s
    rw [e, if_pos (by rw [strOf_size]; simp; omega), strOf_app]
    simp only [Tm.str, Tm.enc, q, List.cons_append, List.nil_append]
theorem ref_const_spec (s : ByteArray) : chantryref03_Const.f s = some (constOf s) := const_spec s
theorem nonce_spec (a : Int) (h0 : 0 ≤ a) (h1 : a < 65536) : term_NewNonce.f a = some (nonceOf a) := by
  unfold term_NewNonce.f nonceOf strOfNums Tm.str Tm.enc strOf
  have : a / 256 % 256 = a / 256 := by omega
  rw [this]
  rfl
end Go.Proofs.Ytimfhdpgkoonaaa.Ev03
