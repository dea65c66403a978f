/- Opening slices of bytes inside structs, and slices of structs, among a row's arguments. Plain theorems. -/
import Derived.Test.YtjpgdaphkmeijaaRowAgg
import Derived.Test.YtjpgdaphkmeijaaWMore
import Derived.DataElems
set_option linter.unusedVariables false
namespace Go.Proofs.Ytjpgdaphkmeijaa.Row
open Go.RowKit Go.ChangeShapes Go.WideShapes Go.Proofs.YtjpgdaphkmeijaaW.PrintWords
theorem list_of {α : Type} {Q : Nat → α → Prop} : ∀ n : Nat, (∀ i, i < n → ∃ y, Q i y) → ∃ l : List α, l.length = n ∧ ∀ i y, l[i]? = some y → Q i y
  | 0, _ => ⟨[], rfl, fun i y h => by simp at h⟩
  | n + 1, h => by
    obtain ⟨l, hl, hq⟩ := list_of n (fun i hi => h i (by omega))
    obtain ⟨y, hy⟩ := h n (by omega)
    refine ⟨l ++ [y], by simp [hl], fun i z hz => ?_⟩
    by_cases hi : i < n
    · rw [List.getElem?_append_left (by omega)] at hz
      exact hq i z hz
    · have hin : i = n := by
        have := (List.getElem?_eq_some_iff.1 hz).1
        simp at this
        omega
      subst hin
      rw [List.getElem?_append_right (by omega), hl, Nat.sub_self] at hz
      obtain rfl : y = z := by simpa using hz
      exact hy
section
variable {H : Type} {enc : TypeId × Value → H} {P : Program} {W : World} {base b0 : Nat} {held : Bool} {k e : TypeId} {v : Value} {d : DataW H} {p : List MemPlace}
theorem is_bytes {t e : TypeId} {n : Nat} {cs : List Value} (ht : P.underlying t = some (.slice e)) (he : P.underlying e = some (.int .u8)) (hc : P.cellsOf e = 1) (h : ∃ x, DataW.trod enc P W b0 (fun _ => true) held n t cs = some x) :
    ∃ (A : Option Addr) (c : Nat) (l : List Int), cs = [.slice A l.length c] ∧ l.length ≤ c ∧ Kd.C (Kd.int .u8) W A l.length l ∧ (∀ x ∈ l, 0 ≤ x ∧ x ≤ 255) := by
  obtain ⟨x, hx⟩ := h
  have key : ∃ (a : Option Addr) (len cap : Nat) (zs : List Int), cs = [.slice a len cap] ∧ ((a = none ∧ len = 0 ∧ cap = 0 ∧ zs = []) ∨ ∃ x, a = some x ∧ len ≤ cap ∧ cap ≤ maxLen ∧ zs.length = cap ∧ (∀ i, i < zs.length → W.cell? (x.add i) = some (.int .u8 (zs.getD i 0))) ∧ ∀ n ∈ zs, (Lit.int .u8 n).wf = true) := by
    rcases open_ints ht he hc hx with ⟨rfl, _⟩ | ⟨a, len, cap, zs, rfl, _, hl, hm, hz, _, hcell, hw⟩
    · exact ⟨none, 0, 0, [], rfl, .inl ⟨rfl, rfl, rfl, rfl⟩⟩
    · exact ⟨some a, len, cap, zs, rfl, .inr ⟨a, rfl, hl, hm, by simpa using hz, hcell, hw⟩⟩
  obtain ⟨a, len, cap, zs, rfl, hk⟩ := key
  obtain ⟨l, rfl, hr, hm, hw, hcl⟩ := ReadsInt.ofRowC hk
  refine ⟨a, cap, l, rfl, hcl, Kd.C_of_reads (d := (0 : Int)) (h1 := fun _ => rfl) hr, fun x hx => ?_⟩
  have := hw x hx
  simp [Lit.wf, IntKind.min, IntKind.max, IntKind.bits, IntKind.signed] at this
  omega
theorem struct_cells {sp : Nat → Bool} {fs : Array Field} {n : Nat} {cs : List Value} (hu : P.underlying k = some (.struct fs)) (h : ∃ x, DataW.trod enc P W b0 sp held n k cs = some x) :
    ∃ m, ∀ f ∈ fs.toList, ∃ x, DataW.trod enc P W b0 sp held m f.type ((cs.drop f.offset).take (P.cellsOf f.type)) = some x := by
  obtain ⟨x, hf⟩ := h
  cases n with
  | zero => simp [DataW.trod] at hf
  | succ m =>
    rw [DataW.trod_step] at hf
    unfold DataW.trodStep at hf
    simp only [hu] at hf
    split at hf
    · simp only [Option.map_eq_some_iff] at hf
      obtain ⟨xs, hx, _⟩ := hf
      exact ⟨m, fun f hm => mapM_each hx f hm⟩
    · cases hf
theorem open_rows {α : Type} (K : Kd α) (G : α → Prop) {t e : TypeId} (ht : P.underlying t = some (.slice e)) (hsz : P.cellsOf e = K.sz)
    (dec : ∀ n cs, cs.length = K.sz → (∃ x, DataW.trod enc P W b0 (fun _ => true) held n e cs = some x) → ∃ y : α, K.K W y cs ∧ G y)
    (hval : Value.okWide P W .any base t v) (h : DataW.Trod enc P W b0 (fun _ => true) held t v d p) :
    ∃ (A : Option Addr) (c : Nat) (l : List α), v = .slice A l.length c ∧ l.length ≤ c ∧ Kd.C K W A l.length l ∧ ∀ y ∈ l, G y := by
  obtain ⟨a0, len0, cap0, rfl⟩ := okWide_slice ht hval
  obtain ⟨fuel, hf⟩ := h
  rcases DataW.trod_slice ht hf with ⟨hcs, _⟩ | ⟨a, len, cap, elems, rest, n, _, hcs, _, _, hl, hm, hlen, hel, _, _⟩
  · simp [Value.cells] at hcs
    obtain ⟨rfl, rfl, rfl⟩ := hcs
    exact ⟨none, 0, [], rfl, Nat.le_refl _, ⟨rfl, by simp, fun h => absurd h (by simp)⟩, by simp⟩
  · simp [Value.cells] at hcs
    obtain ⟨rfl, rfl, rfl⟩ := hcs
    have hone : ∀ i, i < len0 → ∃ (y : α) (cs : List Value), cs.length = K.sz ∧ K.K W y cs ∧ G y ∧ ∀ j u, cs[j]? = some u → W.cell? (a.add (i * K.sz + j)) = some u := by
      intro i hi
      have h1 := hel i hi
      rw [List.getElem?_eq_getElem (by omega), Option.bind_eq_some_iff] at h1
      obtain ⟨cs, h2, h3⟩ := h1
      rw [hsz] at h2
      obtain ⟨_, hcl, hcc⟩ := World.cells?_some h2
      obtain ⟨y, hy, hg⟩ := dec n cs hcl ⟨_, h3⟩
      refine ⟨y, cs, hcl, hy, hg, fun j u hj => ?_⟩
      have hjl : j < K.sz := by have := (List.getElem?_eq_some_iff.1 hj).1; omega
      have h4 := hcc j hjl
      rw [hj, Addr.add_add] at h4
      exact h4
    obtain ⟨l, hln, hlq⟩ := list_of (Q := fun i y => ∃ cs : List Value, cs.length = K.sz ∧ K.K W y cs ∧ G y ∧ ∀ j u, cs[j]? = some u → W.cell? (a.add (i * K.sz + j)) = some u) len0 hone
    subst hln
    refine ⟨some a, cap0, l, rfl, hl, ⟨rfl, by unfold maxLen at hm; omega, fun _ => ⟨a, rfl, fun j q hj => ?_⟩⟩, ?_⟩
    · obtain ⟨cs, h1, h2, _, h4⟩ := hlq j q hj
      exact ⟨cs, h1, h2, h4⟩
    · intro y hy
      obtain ⟨i, hi⟩ := List.mem_iff_getElem?.1 hy
      obtain ⟨cs, _, _, h3, _⟩ := hlq i y hi
      exact h3
end
end Go.Proofs.Ytjpgdaphkmeijaa.Row
