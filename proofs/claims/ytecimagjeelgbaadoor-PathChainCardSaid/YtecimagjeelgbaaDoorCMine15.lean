import Derived.Test.YtecimagjeelgbaaDoorCLNot15
/- Sixteen arrays of texts in one block. -/
set_option linter.unusedVariables false
set_option linter.unusedSimpArgs false
namespace Go.Proofs.YtecimagjeelgbaaDoor.Pr
open Go.RowKit Go.Proofs.YtecimagjeelgbaaDoorW.PrintWords Go.Proofs.YtecimagjeelgbaaDoorW.PrintLast Go.Proofs.YtecimagjeelgbaaDoorW.PrintMore Go.Proofs.YtecimagjeelgbaaDoor.TT

theorem setCells_row (b : Nat) (T : TypeId) : ∀ (vs : List Value) (o : Nat) (w : World) (c : Array Value), w.heap[b]? = some (.cells c T (0, 0)) → ∃ c', (w.setCells b o vs).heap[b]? = some (.cells c' T (0, 0)) ∧ c'.size = c.size
  | [], _, _, c, h => ⟨c, h, rfl⟩
  | v :: vs, o, w, c, h => by
    rw [World.setCells]
    obtain ⟨c', h1, h2⟩ := setCells_row b T vs (o + 1) (w.setCell ⟨b, o, none⟩ v) _ (heap_setCell_same w b o _ T v h)
    exact ⟨c', h1, h2.trans (by simp)⟩
theorem setCells_other (b k : Nat) (hk : k ≠ b) : ∀ (vs : List Value) (o : Nat) (w : World), (w.setCells b o vs).heap[k]? = w.heap[k]?
  | [], _, _ => rfl
  | v :: vs, o, w => by
    rw [World.setCells, setCells_other b k hk vs (o + 1) _]
    exact Below.heap_setCell w ⟨b, o, none⟩ v k hk
theorem below_setCells {B : Nat} {a : World} {b : Nat} (hb : B ≤ b) : ∀ (vs : List Value) (o : Nat) (w : World), RowKit.Below B a w → RowKit.Below B a (w.setCells b o vs)
  | [], _, _, h => h
  | v :: vs, o, w, h => by
    rw [World.setCells]
    exact below_setCells hb vs (o + 1) _ (h.setCell (p := ⟨b, o, none⟩) hb v)
/-- Sixteen arrays lie in block b. -/
structure KM (w : World) (b : Nat) (mine : Nat → List ByteArray) : Prop where
  row : ∃ c, w.heap[b]? = some (.cells c 50 (0, 0)) ∧ c.size = 512
  len : ∀ i, i < 16 → (mine i).length = 32
  lies : ∀ i, i < 16 → w.rangeAt b (i * 32) ((mine i).map Value.string)
theorem KM.lt {w : World} {b : Nat} {mine : Nat → List ByteArray} (h : KM w b mine) : b < w.heap.size := by
  obtain ⟨c, h1, _⟩ := h.row
  exact (Array.getElem?_eq_some_iff.1 h1).1
theorem KM.same {w w' : World} {b : Nat} {mine : Nat → List ByteArray} (h : KM w b mine) (hb : w'.heap[b]? = w.heap[b]?) : KM w' b mine :=
  ⟨by rw [hb]; exact h.row, h.len, fun i hi j v hv => (World.cell?_of_block (w := w) (a := ⟨b, i * 32 + j, none⟩) hb).trans (h.lies i hi j v hv)⟩
theorem KM.after {w w' : World} {b : Nat} {mine : Nat → List ByteArray} (h : KM w b mine) (hb : RowKit.Below w.heap.size w w') : KM w' b mine := h.same (hb.block b h.lt)
theorem KM.there {w : World} {b : Nat} {mine : Nat → List ByteArray} (h : KM w b mine) (i : Nat) (hi : i < 16) : w.there b (i * 32) 32 := by
  obtain ⟨c, h1, h2⟩ := h.row
  intro j hj
  refine ⟨?_, frozen_of_row w b _ _ 50 h1⟩
  rw [cell_of_row w b _ _ 50 (0, 0) h1, Array.getElem?_eq_getElem (by omega)]
  rfl
def putM (mine : Nat → List ByteArray) (i : Nat) (v : List ByteArray) : Nat → List ByteArray := fun k => if k = i then v else mine k
theorem KM.put {w : World} {b : Nat} {mine : Nat → List ByteArray} (h : KM w b mine) (i : Nat) (hi : i < 16) (v : List ByteArray) (hv : v.length = 32) : KM (w.setCells b (i * 32) (v.map Value.string)) b (putM mine i v) := by
  obtain ⟨c, h1, h2⟩ := h.row
  refine ⟨?_, ?_, ?_⟩
  · obtain ⟨c', h3, h4⟩ := setCells_row b 50 (v.map Value.string) (i * 32) w c h1
    exact ⟨c', h3, h4.trans h2⟩
  · intro k hk
    unfold putM
    split
    · exact hv
    · exact h.len k hk
  · intro k hk
    unfold putM
    by_cases e : k = i
    · subst e
      rw [if_pos rfl]
      exact World.rangeAt_setCells_same w b (k * 32) _ (by rw [List.length_map, hv]; exact h.there k hk)
    · rw [if_neg e]
      refine World.rangeAt_setCells_apart (h.lies k hk) b (i * 32) _ (.inr ?_)
      rw [List.length_map, List.length_map, hv, h.len k hk]
      omega
end Go.Proofs.YtecimagjeelgbaaDoor.Pr
