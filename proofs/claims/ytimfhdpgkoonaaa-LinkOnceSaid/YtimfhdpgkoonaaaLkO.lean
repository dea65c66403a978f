/- The functions of package link: what they come to (XLk06 without the reference's). Plain law. -/
import Derived.Test.YtimfhdpgkoonaaaBt06o
import Derived.Test.YtimfhdpgkoonaaaPrx3
import Derived.Test.YtimfhdpgkoonaaaPrx4
import Derived.Test.YtimfhdpgkoonaaaPrx2
import Derived.Test.YtimfhdpgkoonaaaPrx5
set_option linter.unusedVariables false
set_option linter.unusedSimpArgs false
namespace Go.Proofs.Ytimfhdpgkoonaaa.L06
open Go.RowKit Go.Proofs.Ytimfhdpgkoonaaa.Pr Go.Proofs.YtimfhdpgkoonaaaW.PrintWords Go.Proofs.YtimfhdpgkoonaaaW.PrintLast Go.Proofs.YtimfhdpgkoonaaaW.PrintMore Go.Proofs.Ytimfhdpgkoonaaa.TT Go.Proofs.Ytimfhdpgkoonaaa.Ev03 Go.Proofs.Ytimfhdpgkoonaaa.Iter

def twoB (a b : Int) : Bool := if a < 16 then (if b < 16 then a != b else false) else false
theorem two_spec (a b : Int) : link_two.f a b = some (twoB a b) := by
  unfold link_two.f twoB
  split
  · split <;> rfl
  · rfl
theorem text_len (a0 a1 a2 : Int) (l : List Int) : (textOf a0 a1 a2 l).length = l.length + 6 := by unfold textOf; simp
theorem make_spec (c : UInt8) (l : List ByteArray) (x : Int) (hx : x = (c.toNat : Int)) : term_Make.f x l = some (makeOf c l) := by
  subst hx
  unfold term_Make.f
  have := c.toNat_lt
  rw [if_pos ⟨by omega, by omega⟩, Int.toNat_natCast, UInt8.ofNat_toNat]

def tagOf (key : ByteArray) (a0 a1 a2 : Int) (l : List Int) : ByteArray × Int := if (l.length : Int) > 1000 then (⟨#[]⟩, 3) else two2 109 key (btm (textOf a0 a1 a2 l))
theorem tag_spec (key : ByteArray) (a0 a1 a2 : Int) (l : List Int) (tg : ByteArray) : link_Tag.f key a0 a1 a2 l tg = some (tagOf key a0 a1 a2 l) := by
  unfold link_Tag.f tagOf
  by_cases h : (l.length : Int) > 1000
  · rw [if_pos h, if_pos h]
  · have ht := text_len a0 a1 a2 l
    rw [if_neg h, if_neg h]
    unfold link_built.f
    rw [if_pos (by omega), Option.bind_some, built_str _ (by omega), make_spec 109 _ 109 rfl, Option.bind_some, make_two 109 rfl key _ (btm_ok _) (btm_check _ (by omega))]

/-! ### Keys -/
def keyOf (s : ByteArray) (a b : Int) : ByteArray × Int := if twoB a b = true then two2 100 s (.const (by8 [mn a b, mx a b])) else (⟨#[]⟩, 2)
theorem pair_const (a b : Int) : constOf (strOfNums [a, b]) = ((Tm.const (by8 [a, b])).str, 0) := by
  unfold constOf
  rw [if_neg (by rw [strOfNums_size]; simp), by8_str, strOf_data]
theorem pair_ok (a b : Int) : (Tm.const (by8 [a, b])).ok := by show (by8 [a, b]).length ≤ 40; rw [by8_len]; simp
theorem pair_check (a b : Int) : check (Tm.const (by8 [a, b])).str = 0 := check_str (pair_ok a b) (by show 1 ≤ 60; omega) (by simp [Tm.enc, by8_len])
theorem key_spec (s : ByteArray) (a b : Int) : link_Key.f s a b = some (keyOf s a b) := by
  unfold link_Key.f keyOf
  rw [two_spec, Option.bind_some]
  by_cases h : twoB a b = true
  · rw [if_pos h, if_pos h, const_spec, Option.bind_some, pair_const, make_spec 100 _ 100 rfl, Option.bind_some, make_two 100 rfl s _ (pair_ok _ _) (pair_check _ _)]
  · rw [if_neg h, if_neg h]
/-! ### Sending and accepting -/
def sendOf (key : ByteArray) (nx top came a b : Int) (l : List Int) : ByteArray × Int × Int × Int × Int × Int × Int × List Int × ByteArray × Int :=
  if twoB a b = true then
    (if nx = 4294967295 then (key, nx, top, came, 0, 0, 0, [], ⟨#[]⟩, 7)
     else if (tagOf key a b ((nx + 1) % 4294967296) l).2 = 0 then (key, (nx + 1) % 4294967296, top, came, a, b, (nx + 1) % 4294967296, l, (tagOf key a b ((nx + 1) % 4294967296) l).1, 0)
     else (key, nx, top, came, 0, 0, 0, [], ⟨#[]⟩, (tagOf key a b ((nx + 1) % 4294967296) l).2))
  else (key, nx, top, came, 0, 0, 0, [], ⟨#[]⟩, 2)
theorem send_spec (key : ByteArray) (nx top came a b : Int) (l : List Int) (hl : l.length < 140737488355328) : link_Send.f key nx top came a b l = some (sendOf key nx top came a b l) := by
  unfold link_Send.f sendOf
  rw [two_spec, Option.bind_some]
  by_cases h : twoB a b = true
  · rw [if_pos h, if_pos h]
    by_cases h2 : nx = 4294967295
    · rw [if_pos h2, if_pos h2]
    · rw [if_neg h2, if_neg h2]
      unfold slices_Clone_byte_byte.f
      rw [if_pos hl, Option.bind_some, tag_spec, Option.bind_some]
      by_cases h3 : (tagOf key a b ((nx + 1) % 4294967296) l).2 = 0
      · rw [if_pos h3, if_pos h3]
      · rw [if_neg h3, if_neg h3]
  · rw [if_neg h, if_neg h]
def acceptOf (key : ByteArray) (nx top came me a b sq : Int) (l : List Int) (tag : ByteArray) : ByteArray × Int × Int × Int × Int :=
  if b = me ∧ twoB a b = true ∧ sq ≠ 0 then
    (if (tagOf key a b sq l).2 = 0 then
      (if (tagOf key a b sq l).1 = tag then
        (if sq > top then (key, nx, sq, Go.bits .or .u64 (shl .u64 came ((sq - top) % 4294967296)) 1, 0)
         else if (top - sq) % 4294967296 ≥ 64 then (key, nx, top, came, 6)
         else if Go.bits .and .u64 (shr .u64 came ((top - sq) % 4294967296)) 1 = 1 then (key, nx, top, came, 6)
         else (key, nx, top, Go.bits .or .u64 came (shl .u64 1 ((top - sq) % 4294967296)), 0))
       else (key, nx, top, came, 5))
     else (key, nx, top, came, (tagOf key a b sq l).2))
  else (key, nx, top, came, 2)
theorem accept_spec (k : Nat) (hk : 1 ≤ k) (key : ByteArray) (nx top came me a b sq : Int) (l : List Int) (tag : ByteArray) : link_Accept.f k key nx top came me a b sq l tag = some (acceptOf key nx top came me a b sq l tag) := by
  obtain ⟨k, rfl⟩ : ∃ m, k = m + 1 := ⟨k - 1, by omega⟩
  have hbad : link_Accept.j0 (k + 1) true key nx top came a b sq l tag = some (key, nx, top, came, 2) := by
    simp only [link_Accept.j0]; rw [if_pos trivial]
  unfold link_Accept.f acceptOf
  by_cases h1 : b = me
  · rw [if_pos h1, two_spec, Option.bind_some]
    by_cases h2 : twoB a b = true
    · rw [if_pos h2]
      by_cases h3 : sq = 0
      · rw [if_neg (show ¬ (b = me ∧ twoB a b = true ∧ sq ≠ 0) from fun h => h.2.2 h3), show (sq == 0) = true from beq_iff_eq.mpr h3, hbad]
      · rw [if_pos (show b = me ∧ twoB a b = true ∧ sq ≠ 0 from ⟨h1, h2, h3⟩), show (sq == 0) = false from beq_eq_false_iff_ne.mpr h3]
        simp only [link_Accept.j0]
        rw [if_neg (by decide), tag_spec, Option.bind_some]
        by_cases h4 : (tagOf key a b sq l).2 = 0
        · rw [if_pos h4, if_pos h4]
          by_cases h5 : (tagOf key a b sq l).1 = tag
          · rw [if_pos ((toList_iff _ _).2 h5), if_pos h5]
            by_cases h6 : sq > top
            · rw [if_pos h6, if_pos h6]
            · rw [if_neg h6, if_neg h6]
              by_cases h7 : (top - sq) % 4294967296 ≥ 64
              · rw [if_pos h7, if_pos h7]
              · rw [if_neg h7, if_neg h7]
                by_cases h8 : Go.bits .and .u64 (shr .u64 came ((top - sq) % 4294967296)) 1 = 1
                · rw [if_pos h8, if_pos h8]
                · rw [if_neg h8, if_neg h8]
          · rw [if_neg (fun h => h5 ((toList_iff _ _).1 h)), if_neg h5]
        · rw [if_neg h4, if_neg h4]
    · rw [if_neg h2, if_neg (show ¬ (b = me ∧ twoB a b = true ∧ sq ≠ 0) from fun h => h2 h.2.1), hbad]
  · rw [if_neg h1, if_neg (show ¬ (b = me ∧ twoB a b = true ∧ sq ≠ 0) from fun h => h1 h.1), hbad]
end Go.Proofs.Ytimfhdpgkoonaaa.L06
