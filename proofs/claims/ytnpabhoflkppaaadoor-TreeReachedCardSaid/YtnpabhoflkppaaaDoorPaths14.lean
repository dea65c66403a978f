/- TreePaths: the plain law; the answers that the document fixes. -/
import Derived.Test.YtnpabhoflkppaaaDoorRefs14
set_option linter.unusedVariables false
set_option linter.unusedSimpArgs false
namespace Go.Proofs.YtnpabhoflkppaaaDoor.Pr
open Go.RowKit Go.Proofs.YtnpabhoflkppaaaDoorW.PrintWords

theorem alive_ev : Ev (fun k => chantrylaw14_alive.f k) true := Ev.of (fun k => chantrylaw14_alive.mono k) (k := 20) (by kernel_rfl)
theorem same_l (l : List Int) (hl : l.length < 1000) : ∀ (d i : Nat), l.length - i = d → i ≤ l.length → Ev (fun k => chantrylaw14_same.l0 k l l (l.length : Int) (i : Int)) true := by
  intro d
  induction d with
  | zero =>
    intro i hi hl2
    exact Ev.step (f := fun _ => some true) (fun k => by simp only [chantrylaw14_same.l0]; rw [if_neg (by omega)]) (Ev.now _)
  | succ d ih =>
    intro i hi hl2
    refine Ev.step (f := fun k => chantrylaw14_same.l0 k l l (l.length : Int) ((i + 1 : Nat) : Int)) (fun k => ?_) (ih (i + 1) (by omega) (by omega))
    simp only [chantrylaw14_same.l0]
    rw [if_pos (by omega), if_pos (by omega), if_pos (by omega), if_pos (by omega), if_pos trivial, show wrap64 ((i : Int) + 1) = ((i + 1 : Nat) : Int) by unfold wrap64; omega]
theorem same_f (l : List Int) (hl : l.length < 1000) : Ev (fun k => chantrylaw14_same.f k l l) true :=
  Ev.congr (f := fun k => chantrylaw14_same.l0 k l l (l.length : Int) ((0 : Nat) : Int)) (fun k => by unfold chantrylaw14_same.f; rw [if_pos rfl]; rfl) (same_l l hl _ 0 rfl (Nat.zero_le _))
theorem wf8 {a : Int} (h : (Lit.int .u8 a).wf = true) : 0 ≤ a ∧ a ≤ 255 := by
  simp [Lit.wf, IntKind.min, IntKind.max, IntKind.signed, IntKind.bits] at h; omega
theorem wf16 {a : Int} (h : (Lit.int .u16 a).wf = true) : ∃ n : Nat, a = (n : Int) ∧ n < 65536 := by
  simp [Lit.wf, IntKind.min, IntKind.max, IntKind.signed, IntKind.bits] at h
  exact ⟨a.toNat, by omega, by omega⟩
theorem below_f (s : Nat) (hs : s < 65536) (node : Int) (k : Nat) : tree_Below.f k (s : Int) node = some (belowI (s : Int) node) := by
  unfold tree_Below.f; rw [if_pos ⟨by omega, by omega⟩]
theorem below_ev (s : Nat) (hs : s < 65536) (node : Int) : Ev (fun k => tree_Below.f k (s : Int) node) (belowI (s : Int) node) := ⟨0, fun k _ => below_f s hs node k⟩
theorem fresh_ev (a b : Nat) (ha : a < 65536) (hb : b < 65536) : Ev (fun k => tree_Fresh.f k (a : Int) (b : Int)) (freshI (a : Int) (b : Int)) := ⟨0, fun k _ => by unfold tree_Fresh.f; rw [if_pos ⟨⟨by omega, by omega⟩, ⟨by omega, by omega⟩⟩]⟩
theorem leaf_eq (a : Int) (h0 : 0 ≤ a) (h1 : a ≤ 255) : ∃ v, tree_Leaf.f a = some v ∧ chantryref14_Leaf.f a = some v := by
  unfold tree_Leaf.f chantryref14_Leaf.f
  by_cases h : a ≥ 16
  · exact ⟨0, by rw [if_pos h], by rw [if_pos (by omega)]⟩
  · exact ⟨_, by rw [if_neg h], by rw [if_neg (by omega)]⟩
theorem TreePaths : chantrylaw14_TreePaths.Pure := by
  intro a0 a1 a2 h0 h1 h2
  obtain ⟨p0, p1⟩ := wf8 h0
  obtain ⟨s, rfl, hs⟩ := wf16 h1
  obtain ⟨v, e1, e2⟩ := leaf_eq a0 p0 p1
  refine Ev.rounds (?_ : Ev (fun k => chantrylaw14_TreePaths.f k a0 (s : Int) a2) true)
  unfold chantrylaw14_TreePaths.f
  refine Ev.bind alive_ev ?_
  simp only [if_true, e1, e2, Option.bind_some]
  refine Ev.bind (path_f a0 p0 p1) ?_
  refine Ev.bind (rpath_f a0 p0 p1) ?_
  refine Ev.bind (same_f (pathI a0) (by have := path_short a0; omega)) ?_
  simp only [if_true]
  refine Ev.bind (below_ev s hs a2) ?_
  refine Ev.bind (rbelow_f s hs a2) ?_
  simp only [beq_self_eq_true]
  exact Ev.now _
end Go.Proofs.YtnpabhoflkppaaaDoor.Pr
