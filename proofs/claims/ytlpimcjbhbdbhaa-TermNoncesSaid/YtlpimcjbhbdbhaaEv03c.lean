/- alive; two equal lists are the same; the reference's Open. -/
import Derived.Test.YtlpimcjbhbdbhaaEv03b
import Derived.Test.YtlpimcjbhbdbhaaPrx1
import Derived.Test.YtlpimcjbhbdbhaaPrx3
set_option linter.unusedVariables false
set_option linter.unusedSimpArgs false
namespace Go.Proofs.Ytlpimcjbhbdbhaa.Ev03
open Go.RowKit Go.Proofs.Ytlpimcjbhbdbhaa.Pr Go.Proofs.YtlpimcjbhbdbhaaW.PrintWords Go.Proofs.YtlpimcjbhbdbhaaW.PrintLast Go.Proofs.YtlpimcjbhbdbhaaW.PrintMore Go.Proofs.Ytlpimcjbhbdbhaa.TT

theorem same_loop (l : List ByteArray) (hl : l.length ≤ 100000) : ∀ (d k i : Nat), l.length - i = d → i ≤ l.length → d < k → chantrylaw03_Same.l0 k l l (l.length : Int) (i : Int) = some true := by
  intro d
  induction d with
  | zero =>
    intro k i hd hi hk
    obtain ⟨k, rfl⟩ : ∃ m, k = m + 1 := ⟨k - 1, by omega⟩
    simp only [chantrylaw03_Same.l0]
    rw [if_neg (by omega)]
  | succ d ih =>
    intro k i hd hi hk
    obtain ⟨k, rfl⟩ : ∃ m, k = m + 1 := ⟨k - 1, by omega⟩
    have E : Hid (wrap64 ((i : Int) + 1) = ((i + 1 : Nat) : Int)) := by apply Lib.hid; rw [wr (by omega) (by omega)]; omega
    simp only [chantrylaw03_Same.l0]
    rw [if_pos (by omega), if_pos (by omega), if_pos (by omega), if_pos (by omega), if_pos trivial, E.out]
    exact ih k (i + 1) (by omega) (by omega) (by omega)
theorem same_self (k : Nat) (l : List ByteArray) (hl : l.length ≤ 100000) (hk : l.length < k) : chantrylaw03_Same.f k l l = some true := by
  unfold chantrylaw03_Same.f
  rw [if_pos rfl]
  exact same_loop l hl l.length k 0 (by omega) (by omega) hk
theorem subs_small (s : ByteArray) : (subsOf s).1.length ≤ 2000 := by
  unfold subsOf
  split
  · rename_i h
    obtain ⟨t, hr, ho, _, _, hl⟩ := check_ok h
    rw [hr]
    have := t.subs_len
    simp
    omega
  · simp
theorem parts_small (s : ByteArray) : (partsOf s).2.1.length ≤ 2 := by
  by_cases h : check s = 0
  · obtain ⟨t, hr, _⟩ := check_ok h
    rw [partsOf_ok h hr]
    cases t <;> simp [Tm.parts]
  · rw [partsOf_bad h]; simp

theorem alive_spec : chantrylaw03_alive.f = some true := by
  unfold chantrylaw03_alive.f
  simp only [open_spec]
  decide +kernel
end Go.Proofs.Ytlpimcjbhbdbhaa.Ev03
