import Derived.Test.YtkmpfmhbkflgpaaGreatDoorRows
import Derived.ProofKit
import Derived.WideKeyPair
/- Opening structs and arrays among a row's arguments: the value is an aggregate, and each field's cells read as the field's type says. Plain theorems. -/
set_option linter.unusedVariables false
namespace Go.Proofs.YtkmpfmhbkflgpaaGreatDoor.Row
open Go.RowKit Go.ChangeShapes Go.WideShapes
theorem mapM_each {α β : Type} {f : α → Option β} : ∀ {l : List α} {ys : List β}, l.mapM f = some ys → ∀ a ∈ l, ∃ y, f a = some y
  | [], _, _, a, ha => by cases ha
  | b :: l, ys, h, a, ha => by
    rw [List.mapM_cons] at h
    simp only [bind, Option.bind_eq_some_iff, pure] at h
    obtain ⟨y, hy, zs, hz, _⟩ := h
    rcases List.mem_cons.1 ha with rfl | ha
    · exact ⟨y, hy⟩
    · exact mapM_each hz a ha
section
variable {H : Type} {enc : TypeId × Value → H} {P : Program} {W : World} {base b0 : Nat} {sp : Nat → Bool} {held : Bool} {k e : TypeId} {v : Value} {d : DataW H} {p : List MemPlace}
theorem open_struct {fs : Array Field} (hu : P.underlying k = some (.struct fs)) (hval : Value.okWide P W .any base k v) (hd : DataW.Trod enc P W b0 sp held k v d p) :
    ∃ cs : List Value, v = .agg cs.toArray ∧ cs.length = P.cellsOf k ∧ ∃ n, ∀ f ∈ fs.toList, ∃ x, DataW.trod enc P W b0 sp held n f.type ((cs.drop f.offset).take (P.cellsOf f.type)) = some x := by
  obtain ⟨cs, rfl, h2⟩ : ∃ cs, v = .agg cs ∧ cs.size = P.cellsOf k := by
    simp only [Value.okWide, hu] at hval
    obtain ⟨cs, h1, h2, _⟩ := hval
    exact ⟨cs, h1, h2⟩
  refine ⟨cs.toList, by simp, by simpa using h2, ?_⟩
  obtain ⟨fuel, hf⟩ := hd
  cases fuel with
  | zero => simp [DataW.trod] at hf
  | succ n =>
    rw [DataW.trod_step] at hf
    unfold DataW.trodStep at hf
    simp only [hu, Value.cells] at hf
    rw [if_pos (by simpa using h2)] at hf
    simp only [Option.map_eq_some_iff] at hf
    obtain ⟨xs, hx, _⟩ := hf
    exact ⟨n, fun f hm => mapM_each hx f hm⟩
theorem open_array {m : Nat} (hu : P.underlying k = some (.array m e)) (hval : Value.okWide P W .any base k v) (hd : DataW.Trod enc P W b0 sp held k v d p) :
    ∃ cs : List Value, v = .agg cs.toArray ∧ cs.length = P.cellsOf k ∧ ∃ n, ∀ i, i < m → ∃ x, DataW.trod enc P W b0 sp held n e ((cs.drop (i * P.cellsOf e)).take (P.cellsOf e)) = some x := by
  obtain ⟨cs, rfl, h2⟩ : ∃ cs, v = .agg cs ∧ cs.size = P.cellsOf k := by
    simp only [Value.okWide, hu] at hval
    obtain ⟨cs, h1, h2, _⟩ := hval
    exact ⟨cs, h1, h2⟩
  refine ⟨cs.toList, by simp, by simpa using h2, ?_⟩
  obtain ⟨fuel, hf⟩ := hd
  cases fuel with
  | zero => simp [DataW.trod] at hf
  | succ n =>
    rw [DataW.trod_step] at hf
    unfold DataW.trodStep at hf
    simp only [hu, Value.cells] at hf
    rw [if_pos (by simpa using h2)] at hf
    simp only [Option.map_eq_some_iff] at hf
    obtain ⟨xs, hx, _⟩ := hf
    exact ⟨n, fun i hi => mapM_each hx i (List.mem_range.2 hi)⟩
theorem field_at {fs : List Field} {cs : List Value} {n : Nat} {f : Field} (h : ∀ f ∈ fs, ∃ x, DataW.trod enc P W b0 sp held n f.type ((cs.drop f.offset).take (P.cellsOf f.type)) = some x) (hm : f ∈ fs) (hc : P.cellsOf f.type = 1) : ∃ x, DataW.trod enc P W b0 sp held n f.type ((cs.drop f.offset).take 1) = some x := by
  rw [← hc]; exact h f hm
theorem elem_at {cs : List Value} {n m : Nat} {t : TypeId} (h : ∀ i, i < m → ∃ x, DataW.trod enc P W b0 sp held n t ((cs.drop (i * P.cellsOf t)).take (P.cellsOf t)) = some x) (hc : P.cellsOf t = 1) (i : Nat) (hi : i < m) : ∃ x, DataW.trod enc P W b0 sp held n t ((cs.drop i).take 1) = some x := by
  have := h i hi
  rw [hc, Nat.mul_one] at this
  exact this
theorem is_string {t : TypeId} {n : Nat} {cs : List Value} (ht : P.underlying t = some .string) (h : ∃ x, DataW.trod enc P W b0 sp held n t cs = some x) : ∃ s : ByteArray, cs = [.string s] ∧ s.size ≤ maxLen := by
  obtain ⟨x, hx⟩ := h
  obtain ⟨s, e1, _, e2⟩ := DataW.trod_string ht hx
  exact ⟨s, e1, e2⟩
theorem is_int {t : TypeId} {n : Nat} {q : IntKind} {cs : List Value} (ht : P.underlying t = some (.int q)) (h : ∃ x, DataW.trod enc P W b0 sp held n t cs = some x) : ∃ a : Int, cs = [.int q a] ∧ (Lit.int q a).wf = true := by
  obtain ⟨x, hx⟩ := h
  obtain ⟨a, e1, _, e2⟩ := DataW.trod_int ht hx
  exact ⟨a, e1, e2⟩
theorem of1 {cs : List Value} (h : cs.length = 1) : ∃ a0, cs = [a0] := by
  match cs, h with
  | [a0], _ => exact ⟨a0, rfl⟩
theorem of2 {cs : List Value} (h : cs.length = 2) : ∃ a0 a1, cs = [a0, a1] := by
  match cs, h with
  | [a0, a1], _ => exact ⟨a0, a1, rfl⟩
theorem of3 {cs : List Value} (h : cs.length = 3) : ∃ a0 a1 a2, cs = [a0, a1, a2] := by
  match cs, h with
  | [a0, a1, a2], _ => exact ⟨a0, a1, a2, rfl⟩
theorem of4 {cs : List Value} (h : cs.length = 4) : ∃ a0 a1 a2 a3, cs = [a0, a1, a2, a3] := by
  match cs, h with
  | [a0, a1, a2, a3], _ => exact ⟨a0, a1, a2, a3, rfl⟩
theorem of5 {cs : List Value} (h : cs.length = 5) : ∃ a0 a1 a2 a3 a4, cs = [a0, a1, a2, a3, a4] := by
  match cs, h with
  | [a0, a1, a2, a3, a4], _ => exact ⟨a0, a1, a2, a3, a4, rfl⟩
theorem of6 {cs : List Value} (h : cs.length = 6) : ∃ a0 a1 a2 a3 a4 a5, cs = [a0, a1, a2, a3, a4, a5] := by
  match cs, h with
  | [a0, a1, a2, a3, a4, a5], _ => exact ⟨a0, a1, a2, a3, a4, a5, rfl⟩
theorem wf_u16 {a : Int} (h : (Lit.int .u16 a).wf = true) : 0 ≤ a ∧ a < 65536 := by
  simp [Lit.wf, IntKind.min, IntKind.max, IntKind.bits, IntKind.signed] at h
  omega
end
end Go.Proofs.YtkmpfmhbkflgpaaGreatDoor.Row
