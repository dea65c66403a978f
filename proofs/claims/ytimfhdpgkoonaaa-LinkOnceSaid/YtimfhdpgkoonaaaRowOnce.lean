/- A slice of slices of bytes, and a slice of bytes, among a row's arguments. -/
import Derived.Test.YtimfhdpgkoonaaaRowLetters
set_option linter.unusedVariables false
namespace Go.Proofs.Ytimfhdpgkoonaaa.Row
open Go.RowKit Go.ChangeShapes Go.WideShapes Go.Proofs.YtimfhdpgkoonaaaW.PrintWords Go.Proofs.Ytimfhdpgkoonaaa.Pr
section
variable {H : Type} {enc : TypeId × Value → H} {W : World} {base : Nat} {v : Value} {d : DataW H} {p : List MemPlace}
set_option maxRecDepth 100000 in
theorem open_bodies (hval : Value.okWide Try.prog W .any base 52 v) (h : DataW.Trod enc Try.prog W 0 (fun _ => true) true 52 v d p) :
    ∃ (A : Option Addr) (c : Nat) (l : List (List Int)), v = .slice A l.length c ∧ l.length ≤ c ∧ Kd.C (Kd.slice 5 (Kd.int .u8)) W A l.length l ∧ ∀ y ∈ l, True := by
  have e : (Kd.slice 5 (Kd.int .u8)).sz = 1 := rfl
  have hc : Try.prog.cellsOf 24 = 1 := by kernel_rfl
  have dec : ∀ n cs, cs.length = (Kd.slice 5 (Kd.int .u8)).sz → (∃ x, DataW.trod enc Try.prog W 0 (fun _ => true) true n 24 cs = some x) → ∃ y : List Int, (Kd.slice 5 (Kd.int .u8)).K W y cs ∧ True := by
    intro n cs hl h
    obtain ⟨A, c, l, rfl, hlc, hC, _⟩ := is_bytes Try.underlying24 Try.underlying5 (by kernel_rfl) h
    exact ⟨l, ⟨A, c, rfl, hlc, hC⟩, trivial⟩
  exact open_rows (Kd.slice 5 (Kd.int .u8)) (fun _ => True) Try.underlying52 (hc.trans e.symm) dec hval h
set_option maxRecDepth 100000 in
theorem open_order (hval : Value.okWide Try.prog W .any base 24 v) (h : DataW.Trod enc Try.prog W 0 (fun _ => true) true 24 v d p) :
    ∃ (A : Option Addr) (c : Nat) (l : List Int), v = .slice A l.length c ∧ l.length ≤ c ∧ Kd.C (Kd.int .u8) W A l.length l ∧ ∀ x ∈ l, 0 ≤ x ∧ x ≤ 255 := by
  obtain ⟨a0, len, cap, rfl⟩ := okWide_slice Try.underlying24 hval
  obtain ⟨fuel, hf⟩ := h
  obtain ⟨A, c, l, e, hlc, hC, hb⟩ := is_bytes Try.underlying24 Try.underlying5 (by kernel_rfl) ⟨_, hf⟩
  have e2 : (Value.slice a0 len cap) = .slice A l.length c := by simpa [Value.cells] using e
  exact ⟨A, c, l, e2, hlc, hC, hb⟩
end
end Go.Proofs.Ytimfhdpgkoonaaa.Row
