/- slices.Sort, Compact, Reverse over a row of whole numbers of the call's own. -/
import Derived.Test.YtnpabhoflkppaaaDoorTree0f
import Derived.Sort.OwnSorted
set_option linter.unusedVariables false
set_option linter.unusedSimpArgs false
namespace Go.Proofs.YtnpabhoflkppaaaDoor
open Go.RowKit Go.Shelf Go.Sort Go.Proofs.YtnpabhoflkppaaaDoorW.PrintWords

theorem infoI : (Tryd.prog.info? 3).map (fun i => (i.zero, i.size, i.bytes)) = some (some (.int .i64 0), 1, 8) := by kernel_rfl
def encN (n : Int) : Value := .int .i64 n
theorem heapE {w : World} {g n : Nat} {os : Array Obj} {cur : Array Value} {e : TypeId} {fr : Nat × Nat} (d : Array Int) (hb : w.heap[g]? = some (.cells cur e fr)) :
    (grow (putRow (Value.int .i64) (Sort.ahead w n) g 0 d) os).heap[g]? = some (.cells (putCells (Value.int .i64) 0 d cur) e fr) := by
  have hg : g < w.heap.size := (Array.getElem?_eq_some_iff.1 hb).1
  rw [heap_grow_old _ _ (by simpa using hg)]
  simp [putRow, mapBlock, Sort.ahead, Array.getElem?_modify, hb, onCells]
theorem grownE {w : World} {g n : Nat} {os : Array Obj} (d : Array Int) : w.grownBy (grow (putRow (Value.int .i64) (Sort.ahead w n) g 0 d) os) (some g) := by
  refine ⟨rfl, rfl, rfl, by simp, fun k hk hne => ?_⟩
  rw [heap_grow_old _ _ (by simpa using hk)]
  have : g ≠ k := fun e => hne (by rw [e])
  simp [putRow, mapBlock, Sort.ahead, Array.getElem?_modify, this]
theorem takeE (cur : Array Value) (ts : List Int) (m : Nat) (hm : m ≤ ts.length) (h : ts.length ≤ cur.size) : (putCells (Value.int .i64) 0 ts.toArray cur).toList.take m = (ts.take m).map (Value.int .i64) := by
  apply List.ext_getElem?
  intro j
  by_cases hj : j < m
  · rw [List.getElem?_take_of_lt hj, Array.getElem?_toList, List.getElem?_map, List.getElem?_take_of_lt hj, List.getElem?_eq_getElem (by omega)]
    simp [putCells, show j < ts.length by omega, show j < cur.size by omega]
  · rw [List.getElem?_take_eq_none (by omega), List.getElem?_eq_none (by simp; omega)]
theorem holdsE {w : World} {g : Nat} {cur : Array Value} {e : TypeId} {ss : List Int} (hb : w.heap[g]? = some (.cells cur e (0, 0))) (ht : cur.toList.take ss.length = ss.map (Value.int .i64)) : Holds (Value.int .i64) w g 0 ss.toArray := by
  intro j hj
  have hj' : j < ss.length := by simpa using hj
  refine ⟨?_, by simp [World.frozen?, hb]⟩
  have h1 : (cur.toList.take ss.length)[j]? = (ss.map (Value.int .i64))[j]? := by rw [ht]
  rw [List.getElem?_take_of_lt hj'] at h1
  simp only [World.cell?, hb, Nat.zero_add]
  simp only [Option.isSome_none, Bool.false_eq_true, if_false]
  rw [← Array.getElem?_toList, h1]
  simp [hj']

theorem growRefl (w : World) (row : Option Nat) : w.grownBy w row := ⟨rfl, rfl, rfl, Nat.le_refl _, fun _ _ _ => rfl⟩
/-- A row of whole numbers of the call's own. -/
def IRow (base : Nat) (w : World) (v : Value) (xs : List Int) : Prop := w.ownsRow base 3 1 v xs.length (xs.map (Value.int .i64))
/-- Behind a rewriting of the row: its first m numbers. -/
theorem IRow.put {base g cap n m : Nat} {w : World} {os : Array Obj} {xs ts : List Int} (h : IRow base w (.slice (some ⟨g, 0, none⟩) xs.length cap) xs) (hl : ts.length = xs.length) (hm : m ≤ ts.length) :
    IRow base (grow (putRow (Value.int .i64) (Sort.ahead w n) g 0 ts.toArray) os) (.slice (some ⟨g, 0, none⟩) m cap) (ts.take m) := by
  rcases h.2 with ⟨h0, _⟩ | ⟨g', cap', cur, hv, hbase, hb, h1, h2, h3, h4⟩
  · cases h0
  · cases hv
    refine ⟨by simp [hm], .inr ⟨g, cap, _, by rw [List.length_take, Nat.min_eq_left hm], hbase, heapE _ hb, by rw [List.length_take]; omega, h2, by simp [putCells, h3], ?_⟩⟩
    rw [Nat.mul_one, List.length_take, Nat.min_eq_left hm]
    exact takeE cur ts m hm (by omega)
theorem IRow.shape {base : Nat} {w : World} {v : Value} {xs : List Int} (h : IRow base w v xs) (hne : xs ≠ []) :
    ∃ g cap, v = .slice (some ⟨g, 0, none⟩) xs.length cap ∧ g < w.heap.size ∧ base ≤ g ∧ xs.length ≤ cap ∧ Holds (Value.int .i64) w g 0 xs.toArray := by
  rcases h.2 with ⟨_, h0⟩ | ⟨g, cap, cur, rfl, hbase, hb, h1, h2, h3, h4⟩
  · exact absurd (List.eq_nil_of_length_eq_zero h0) hne
  · exact ⟨g, cap, rfl, (Array.getElem?_eq_some_iff.1 hb).1, hbase, h1, holdsE hb (by simpa using h4)⟩
theorem IRow.empty {base : Nat} {w : World} {v : Value} (h : IRow base w v []) : ∃ p cap, v = .slice p 0 cap := by
  rcases h.2 with ⟨rfl, _⟩ | ⟨g, cap, cur, rfl, _⟩ <;> exact ⟨_, _, rfl⟩

def sortL (xs : List Int) : List Int := xs.mergeSort fun x y => decide (x ≤ y)
theorem sortL_len (xs : List Int) : (sortL xs).length = xs.length := by unfold sortL; simp
theorem compact_le (xs : List Int) : (Lib.compact xs).length ≤ xs.length := by
  unfold Lib.compact Lib.compactUpTo
  rw [List.length_map]
  exact Nat.le_trans (List.length_filter_le _ _) (by simp)
def finL (xs : List Int) : List Int := (Lib.compact (sortL xs)).reverse

def RowPost (base : Nat) (w : World) (v v' : Value) (xs : List Int) (w' : World) : Prop := IRow base w' v' xs ∧ w.grownBy w' v.ownBlock ∧ v'.ownBlock = v.ownBlock

theorem sort_row {base : Nat} {w : World} {v : Value} {xs : List Int} (h : IRow base w v xs) (hl : xs.length < 1000000) :
    Calls Tryd.prog 26 #[v] w fun e w' => e = .returned (.tuple #[]) ∧ RowPost base w v v (sortL xs) w' := by
  by_cases hne : xs = []
  · subst hne
    obtain ⟨p, cap, rfl⟩ := h.empty
    exact (Any.slices_Sort_int_none sortI p cap w).mono fun e w' ⟨he, hw⟩ => by
      subst hw
      exact ⟨he, (by have e0 : sortL [] = [] := List.eq_nil_of_length_eq_zero (sortL_len []); rw [e0]; exact h), growRefl _ _, rfl⟩
  · obtain ⟨g, cap, rfl, hg, hb, hc, hH⟩ := h.shape hne
    exact (Any.slices_Sort_int sortI g 0 cap xs w hH hg (by omega)).mono fun e w' ⟨he, n, os, hw⟩ => by
      subst hw
      have hp := h.put (n := n) (os := os) (ts := sortL xs) (m := (sortL xs).length) (sortL_len xs) (Nat.le_refl _)
      rw [List.take_length, sortL_len] at hp
      exact ⟨he, hp, grownE _, rfl⟩
theorem compact_row {base : Nat} {w : World} {v : Value} {xs : List Int} (h : IRow base w v xs) (hl : xs.length < 1000000) :
    Calls Tryd.prog 27 #[v] w fun e w' => ∃ v', e = .returned v' ∧ RowPost base w v v' (Lib.compact xs) w' := by
  by_cases hne : xs = []
  · subst hne
    obtain ⟨p, cap, rfl⟩ := h.empty
    exact (Any.slices_Compact_int_empty compI p cap w).mono fun e w' ⟨he, hw⟩ => by
      subst hw
      exact ⟨_, he, h, growRefl _ _, rfl⟩
  · obtain ⟨g, cap, rfl, hg, hb, hc, hH⟩ := h.shape hne
    refine (Any.slices_Compact_int compI g 0 cap xs w hH (by omega) hc).mono ?_
    rintro e w' ⟨he, q, rfl⟩
    have hcl := compact_le xs
    have hp := h.put (n := q) (os := #[]) (ts := Lib.compact xs ++ List.replicate (xs.length - (Lib.compact xs).length) 0) (m := (Lib.compact xs).length) (by simp; omega) (by simp)
    rw [grow_empty, List.take_left'] at hp
    · have hg2 := grownE (w := w) (g := g) (n := q) (os := #[]) (Lib.compact xs ++ List.replicate (xs.length - (Lib.compact xs).length) 0).toArray
      rw [grow_empty] at hg2
      exact ⟨_, he, hp, hg2, rfl⟩
    · rfl
theorem reverse_row {base : Nat} {w : World} {v : Value} {xs : List Int} (h : IRow base w v xs) (hl : xs.length < 1000000) :
    Calls Tryd.prog 28 #[v] w fun e w' => e = .returned (.tuple #[]) ∧ RowPost base w v v xs.reverse w' := by
  by_cases hne : xs = []
  · subst hne
    obtain ⟨p, cap, rfl⟩ := h.empty
    exact (Any.slices_Reverse_int_empty revI p cap w).mono fun e w' ⟨he, hw⟩ => by
      subst hw
      exact ⟨he, h, growRefl _ _, rfl⟩
  · obtain ⟨g, cap, rfl, hg, hb, hc, hH⟩ := h.shape hne
    refine (Any.slices_Reverse_int revI g 0 cap xs w hH (by omega)).mono ?_
    rintro e w' ⟨he, q, rfl⟩
    have hp := h.put (n := q) (os := #[]) (ts := xs.reverse) (m := xs.reverse.length) (by simp) (Nat.le_refl _)
    rw [grow_empty, List.take_length, List.length_reverse] at hp
    have hg2 := grownE (w := w) (g := g) (n := q) (os := #[]) xs.reverse.toArray
    rw [grow_empty] at hg2
    exact ⟨he, hp, hg2, rfl⟩
theorem IRow.ofR {base : Nat} {ok : Nat → Prop} {w : World} {v : Value} {xs : List Int} (h : Kd.R (Kd.int .i64) 3 w base ok v xs) : IRow base w v xs := Kd.own_of_R h
theorem IRow.toR {base : Nat} {w : World} {v : Value} {xs : List Int} (h : IRow base w v xs) : Kd.R (Kd.int .i64) 3 w base (fun _ => True) v xs := Kd.R_of_own h (fun _ _ => trivial)
theorem RowPost.below {base : Nat} {w0 w w' : World} {v v' : Value} {xs ys : List Int} (h : RowPost base w v v' xs w') (hr : IRow base w v ys) (hb : RowKit.Below base w0 w) (hs : base ≤ w.heap.size) : RowKit.Below base w0 w' :=
  hb.grown h.2.1 hs (own_base hr)
theorem RowPost.le {base : Nat} {w w' : World} {v v' : Value} {xs : List Int} (h : RowPost base w v v' xs w') : w.heap.size ≤ w'.heap.size := h.2.1.size
end Go.Proofs.YtnpabhoflkppaaaDoor
