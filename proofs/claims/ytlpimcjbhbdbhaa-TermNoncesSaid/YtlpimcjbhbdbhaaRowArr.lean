/- Opening an array of two strings among a row's arguments. Plain theorem. -/
import Derived.Test.YtlpimcjbhbdbhaaRows
import Derived.ProofKit
import Derived.WideKeyPair
set_option linter.unusedVariables false
namespace Go.Proofs.Ytlpimcjbhbdbhaa.Row
open Go.RowKit Go.ChangeShapes Go.WideShapes
theorem open_strs2 {H : Type} {enc : TypeId × Value → H} {P : Program} {W : World} {base b0 : Nat} {sp : Nat → Bool} {held : Bool} {k e : TypeId} {v : Value} {d : DataW H} {p : List MemPlace} (hu : P.underlying k = some (.array 2 e)) (he : P.underlying e = some .string) (hc : P.cellsOf e = 1) (hk : P.cellsOf k = 2)
    (hval : Value.okWide P W .any base k v) (hd : DataW.Trod enc P W b0 sp held k v d p) : ∃ s0 s1 : ByteArray, v = .agg #[.string s0, .string s1] := by
  obtain ⟨c0, c1, rfl⟩ : ∃ c0 c1, v = .agg #[c0, c1] := by
    simp only [Value.okWide, hu] at hval
    obtain ⟨cs, h1, h2, _⟩ := hval
    rw [hk] at h2
    obtain ⟨l⟩ := cs
    match l, h2 with
    | [c0, c1], _ => exact ⟨c0, c1, h1⟩
  obtain ⟨fuel, hf⟩ := hd
  cases fuel with
  | zero => simp [DataW.trod] at hf
  | succ n =>
    rw [DataW.trod_step] at hf
    unfold DataW.trodStep at hf
    simp only [hu, Value.cells] at hf
    rw [if_pos (by rw [hk]; rfl)] at hf
    simp only [Option.map_eq_some_iff] at hf
    obtain ⟨xs, hx, e1⟩ := hf
    rw [show List.range 2 = [0, 1] from rfl, List.mapM_cons, List.mapM_cons, List.mapM_nil] at hx
    simp only [bind, Option.bind_eq_some_iff, pure, Option.some.injEq, hc] at hx
    obtain ⟨y0, h0, _, ⟨y1, h1, _, rfl, rfl⟩, rfl⟩ := hx
    obtain ⟨a, ea, rfl, wa⟩ := DataW.trod_string he h0
    obtain ⟨b, eb, rfl, wb⟩ := DataW.trod_string he h1
    simp at ea eb
    subst ea; subst eb
    exact ⟨a, b, rfl⟩
end Go.Proofs.Ytlpimcjbhbdbhaa.Row
