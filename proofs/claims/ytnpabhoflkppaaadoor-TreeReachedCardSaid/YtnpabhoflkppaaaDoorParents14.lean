/- TreeParents: the plain law. -/
import Derived.Test.YtnpabhoflkppaaaDoorPaths14
import Derived.Test.YtnpabhoflkppaaaDoorPrxParents
set_option linter.unusedVariables false
set_option linter.unusedSimpArgs false
namespace Go.Proofs.YtnpabhoflkppaaaDoor.Pr
open Go.RowKit Go.Proofs.YtnpabhoflkppaaaDoorW.PrintWords Go.Proofs.YtnpabhoflkppaaaDoorW.PrintMore

theorem shr_bit (s id : Nat) (h : id < 16) : Int.tmod (shr .u16 (s : Int) (id : Int)) 2 = ((if bit s id = true then 1 else 0 : Nat) : Int) := by
  have e : shr .u16 (s : Int) (id : Int) = ((s / 2 ^ id : Nat) : Int) := by
    unfold shr
    rw [Int.toNat_natCast, Nat.min_eq_left (show id ≤ IntKind.u16.bits by show id ≤ 16; omega), Int.natCast_ediv, Int.natCast_pow]
    rfl
  rw [e, Int.tmod_eq_emod_of_nonneg (Int.natCast_nonneg _)]
  unfold bit
  by_cases g : s / 2 ^ id % 2 = 1
  · rw [if_pos (by rw [g]; rfl)]; omega
  · rw [if_neg (by simpa using g)]; omega
theorem way_all : ((List.range 16).all fun id => (List.range 5).all fun i => decide (1 ≤ (pathI (id : Int)).getD i 0) && decide ((pathI (id : Int)).getD i 0 ≤ 31) && (pathI (id : Int)).contains ((pathI (id : Int)).getD i 0) && (i == 0 || (pathI (id : Int)).getD (i - 1) 0 / 2 == (pathI (id : Int)).getD i 0)) = true := by decide +kernel
theorem way (id i : Nat) (h : id < 16) (hi : i < 5) : 1 ≤ (pathI (id : Int)).getD i 0 ∧ (pathI (id : Int)).getD i 0 ≤ 31 ∧ (pathI (id : Int)).contains ((pathI (id : Int)).getD i 0) = true ∧ (i ≠ 0 → (pathI (id : Int)).getD (i - 1) 0 / 2 = (pathI (id : Int)).getD i 0) := by
  have := List.all_eq_true.1 (List.all_eq_true.1 way_all id (List.mem_range.2 h)) i (List.mem_range.2 hi)
  simp only [Bool.and_eq_true, decide_eq_true_eq, Bool.or_eq_true, beq_iff_eq] at this
  exact ⟨this.1.1.1, this.1.1.2, this.1.2, fun h => by rcases this.2 with h2 | h2; exact absurd h2 h; exact h2⟩
theorem rd_getD (l : List Int) (i : Nat) (h : i < l.length) : rd l (i : Int) = l.getD i 0 := by simp [rd, h]
theorem below_way (s id : Nat) (nd : Int) (hs : s < 65536) (h : id < 16) (h1 : 1 ≤ nd) (h2 : nd ≤ 31) (hc : (pathI (id : Int)).contains nd = true) : Int.tmod (shr .u16 (belowI (s : Int) nd) (id : Int)) 2 = Int.tmod (shr .u16 (s : Int) (id : Int)) 2 := by
  rw [belowI_eq, shr_bit _ _ h, shr_bit _ _ h, belowN_bit s nd id h, hc, Bool.and_true]
theorem below_top (s : Nat) (hs : s < 65536) : belowI (s : Int) 1 = (s : Int) := by
  have e := belowI_nat s 1 (by omega) (by omega)
  rw [show ((1 : Nat) : Int) = 1 from rfl] at e
  rw [e]
  have : s &&& maskN 1 = s := by
    show s &&& 65535 = s
    rw [show (65535 : Nat) = 2 ^ 16 - 1 from rfl, Nat.and_two_pow_sub_one_eq_mod, Nat.mod_eq_of_lt (by omega)]
  rw [this]
theorem fall_nat {s n : Nat} (hs : s < 65536) (hn : n < 32) : s &&& maskN n < 65536 := Nat.lt_of_le_of_lt Nat.and_le_left hs
theorem kids_all : ((List.range 16).all fun n => n == 0 || ((maskN (2 * n) ||| maskN (2 * n + 1)) == maskN n && (maskN (2 * n) &&& maskN (2 * n + 1)) == 0)) = true := by decide +kernel
theorem kids (n : Nat) (h1 : 1 ≤ n) (h : n < 16) : (maskN (2 * n) ||| maskN (2 * n + 1)) = maskN n ∧ maskN (2 * n) &&& maskN (2 * n + 1) = 0 := by
  have := List.all_eq_true.1 kids_all n (List.mem_range.2 h)
  simp only [Bool.and_eq_true, Bool.or_eq_true, beq_iff_eq] at this
  rcases this with h2 | h2
  · omega
  · exact h2
theorem wrap_small (x : Int) (h0 : -1000 ≤ x) (h1 : x ≤ 1000) : wrap64 x = x := by unfold wrap64; omega

set_option maxHeartbeats 1000000 in
theorem parents_in (s id : Nat) (hs : s < 65536) (h : id < 16) : ∀ d i : Nat, 5 - i = d → i ≤ 5 → Ev (fun k => chantrylaw14_TreeParents.l0 k (s : Int) (id : Int) (pathI (id : Int)) (pathI (id : Int)) ((pathI (id : Int)).length : Int) (i : Int)) true := by
  have hl := path_len id h
  intro d
  induction d with
  | zero =>
    intro i hi hi5
    obtain rfl : i = 5 := by omega
    have hr0 : rd (pathI (id : Int)) 0 = 16 + (id : Int) := by
      rw [show (0 : Int) = ((0 : Nat) : Int) from rfl, rd_getD _ 0 (by omega)]; unfold pathI; rw [if_pos (by omega)]; rfl
    have hr4 : rd (pathI (id : Int)) 4 = 1 := by
      rw [show (4 : Int) = ((4 : Nat) : Int) from rfl, rd_getD _ 4 (by omega)]; unfold pathI; rw [if_pos (by omega)]; rfl
    refine Ev.step (f := fun k => (tree_Below.f k (s : Int) 1).bind fun t => some (t == (s : Int))) (fun k => ?_) ?_
    · have hlf : tree_Leaf.f (id : Int) = some (16 + (id : Int)) := by
        unfold tree_Leaf.f; rw [if_neg (by omega)]
        rw [wrap_small (id : Int) (by omega) (by omega), wrap_small (16 + (id : Int)) (by omega) (by omega)]
      simp only [chantrylaw14_TreeParents.l0]
      rw [hl, if_neg (by omega), if_neg (by omega), if_pos (by omega), if_pos (show ((5 : Nat) : Int) = 5 from rfl), if_pos (show (0 : Int) < ((5 : Nat) : Int) by decide), hlf]
      simp only [Option.bind_some]
      rw [hr0, if_pos rfl, if_pos (show (4 : Int) < ((5 : Nat) : Int) by decide), hr4, if_pos rfl]
    · refine Ev.bind (below_ev s hs 1) ?_
      rw [below_top s hs]
      simpa using Ev.now true
  | succ d ih =>
    intro i hi hi5
    have hil : i < 5 := by omega
    obtain ⟨q1, q2, q3, q4⟩ := way id i h hil
    have hri := Lib.hid (rd_getD (pathI (id : Int)) i (by omega))
    generalize (pathI (id : Int)).getD i 0 = nd at q1 q2 q3 q4 hri
    have g1 : (i : Int) < ((pathI (id : Int)).length : Int) := by omega
    have g2 : (0 : Int) ≤ (i : Int) := by omega
    have g6 : (0 : Int) ≤ (id : Int) := by omega
    have hw : wrap64 ((i : Int) + 1) = ((i + 1 : Nat) : Int) := by unfold wrap64; omega
    have g3 : i ≠ 0 → (i : Int) > 0 ∧ wrap64 ((i : Int) - 1) = ((i - 1 : Nat) : Int) ∧ (0 : Int) ≤ ((i - 1 : Nat) : Int) ∧ ((i - 1 : Nat) : Int) < ((pathI (id : Int)).length : Int) ∧ wrap64 (Int.tdiv (rd (pathI (id : Int)) ((i - 1 : Nat) : Int)) 2) = nd := by
      intro hi0
      have hr1 := rd_getD (pathI (id : Int)) (i - 1) (by omega)
      obtain ⟨p1, p2, _, _⟩ := way id (i - 1) h (by omega)
      have hd := q4 hi0
      rw [hr1]
      generalize (pathI (id : Int)).getD (i - 1) 0 = pd at p1 p2 hd
      refine ⟨by omega, by rw [wrap_small _ (by omega) (by omega)]; omega, by omega, by omega, ?_⟩
      rw [Int.tdiv_eq_ediv_of_nonneg (by omega), wrap_small _ (by omega) (by omega), hd]
    have g0 : i = 0 → ¬ (i : Int) > 0 := fun e => by omega
    refine Ev.step (f := fun k => (tree_Below.f k (s : Int) nd).bind fun t => if Int.tmod (shr .u16 t (id : Int)) 2 = Int.tmod (shr .u16 (s : Int) (id : Int)) 2 then chantrylaw14_TreeParents.l0 k (s : Int) (id : Int) (pathI (id : Int)) (pathI (id : Int)) ((pathI (id : Int)).length : Int) ((i + 1 : Nat) : Int) else some false) (fun k => ?_) ?_
    · simp only [chantrylaw14_TreeParents.l0]
      rw [if_pos g1, if_pos g2, if_pos g1]
      by_cases hi0 : i = 0
      · rw [if_neg (g0 hi0), hri.out]
        simp only [if_pos g6, hw]
      · obtain ⟨e1, e2, e3, e4, e5⟩ := g3 hi0
        rw [if_pos e1, e2, if_pos e3, if_pos e4, hri.out, if_pos e5]
        simp only [if_pos g6, hw]
    · refine Ev.bind (below_ev s hs nd) ?_
      have hnx := ih (i + 1) (by omega) (by omega)
      have hb := below_way s id nd hs h q1 q2 q3
      simp only [if_pos hb]
      exact hnx
theorem parents_j1 (s : Nat) (a2 : Int) (hs : s < 65536) (p0 : 0 ≤ a2) (p1 : a2 ≤ 255) : Ev (fun k => chantrylaw14_TreeParents.j1 k (s : Int) a2) true := by
  obtain ⟨id, rfl⟩ := Int.eq_ofNat_of_zero_le p0
  refine Ev.step (f := fun k => (tree_Path.f k (id : Int)).bind fun t => chantrylaw14_TreeParents.l0 k (s : Int) (id : Int) t t (t.length : Int) 0) (fun k => by simp only [chantrylaw14_TreeParents.j1]) ?_
  refine Ev.bind (path_f (id : Int) p0 p1) ?_
  by_cases h : id < 16
  · exact parents_in s id hs h _ 0 rfl (by omega)
  · have e : pathI (id : Int) = [] := by unfold pathI; rw [if_neg (by omega)]
    rw [e]
    refine Ev.step (f := fun k => (tree_Below.f k (s : Int) 1).bind fun t => some (t == (s : Int))) (fun k => ?_) ?_
    · simp only [chantrylaw14_TreeParents.l0, List.length_nil]
      rw [if_neg (by omega), if_pos (by omega), if_pos (by rfl)]
    · refine Ev.bind (below_ev s hs 1) ?_
      rw [below_top s hs]
      simpa using Ev.now true
theorem parents_j0 (s : Nat) (a1 a2 : Int) (b : Bool) (hs : s < 65536) (p0 : 0 ≤ a2) (p1 : a2 ≤ 255) (hb : b = true → 1 ≤ a1 ∧ a1 ≤ 15) : Ev (fun k => chantrylaw14_TreeParents.j0 k (s : Int) a1 a2 b) true := by
  cases b with
  | false =>
    exact Ev.step (f := fun k => chantrylaw14_TreeParents.j1 k (s : Int) a2) (fun k => by simp only [chantrylaw14_TreeParents.j0]; rw [if_neg (by simp)]) (parents_j1 s a2 hs p0 p1)
  | true =>
    obtain ⟨h1, h2⟩ := hb rfl
    obtain ⟨n, rfl⟩ := Int.eq_ofNat_of_zero_le (show 0 ≤ a1 by omega)
    obtain ⟨k1, k2⟩ := kids n (by omega) (by omega)
    refine Ev.step (f := fun k => (tree_Below.f k (s : Int) ((2 * n : Nat) : Int)).bind fun t239 => ((tree_Below.f k (s : Int) ((2 * n + 1 : Nat) : Int)).bind fun t240 => ((tree_Below.f k (s : Int) (n : Int)).bind fun t241 => (if (Go.bits .or .u16 t239 t240) = t241 then (if (Go.bits .and .u16 t239 t240) = 0 then (chantrylaw14_TreeParents.j1 k (s : Int) a2) else (some false)) else (some false))))) (fun k => ?_) ?_
    · simp only [chantrylaw14_TreeParents.j0]
      rw [if_pos trivial, wrap_small (2 * (n : Int)) (by omega) (by omega), wrap_small (2 * (n : Int) + 1) (by omega) (by omega)]
      rfl
    · refine Ev.bind (below_ev s hs _) (Ev.bind (below_ev s hs _) (Ev.bind (below_ev s hs _) ?_))
      rw [belowI_nat s (2 * n) (by omega) (by omega), belowI_nat s (2 * n + 1) (by omega) (by omega), belowI_nat s n (by omega) (by omega)]
      have f1 := fall_nat (n := 2 * n) hs (by omega)
      have f2 := fall_nat (n := 2 * n + 1) hs (by omega)
      have o1 : Go.bits .or .u16 ((s &&& maskN (2 * n) : Nat) : Int) ((s &&& maskN (2 * n + 1) : Nat) : Int) = ((s &&& maskN n : Nat) : Int) := by
        rw [u16_or_nat _ _ f1 f2, ← Nat.and_or_distrib_left, k1]
      have o2 : Go.bits .and .u16 ((s &&& maskN (2 * n) : Nat) : Int) ((s &&& maskN (2 * n + 1) : Nat) : Int) = 0 := by
        rw [u16_and_nat _ _ f1 f2]
        have : (s &&& maskN (2 * n)) &&& (s &&& maskN (2 * n + 1)) = 0 := by
          rw [Nat.and_assoc, ← Nat.and_assoc (maskN (2 * n)), Nat.and_comm (maskN (2 * n)) s, Nat.and_assoc, k2]
          simp
        rw [this]; rfl
      simp only [if_pos o1, if_pos o2]
      exact parents_j1 s a2 hs p0 p1
theorem TreeParents : chantrylaw14_TreeParents.Pure := by
  intro a0 a1 a2 h0 h1 h2
  obtain ⟨p0, p1⟩ := wf8 h2
  obtain ⟨s, rfl, hs⟩ := wf16 h0
  refine Ev.rounds (?_ : Ev (fun k => chantrylaw14_TreeParents.f k (s : Int) a1 a2) true)
  unfold chantrylaw14_TreeParents.f
  refine Ev.bind alive_ev ?_
  simp only [if_true]
  by_cases h : a1 ≥ 1
  · simp only [if_pos h]
    exact parents_j0 s a1 a2 _ hs p0 p1 fun hb => ⟨h, of_decide_eq_true hb⟩
  · simp only [if_neg h]
    exact parents_j0 s a1 a2 _ hs p0 p1 fun hb => by cases hb
end Go.Proofs.YtnpabhoflkppaaaDoor.Pr
