/- The reference's functions on trees, in closed form. -/
import Derived.Test.YtnpabhoflkppaaaDoorFresh14
import Derived.Test.YtnpabhoflkppaaaDoorPrx4
set_option linter.unusedVariables false
set_option linter.unusedSimpArgs false
namespace Go.Proofs.YtnpabhoflkppaaaDoor.Pr
open Go.RowKit Go.Proofs.YtnpabhoflkppaaaDoorW.PrintWords

theorem rpath_f (id : Int) (h0 : 0 ≤ id) (h1 : id ≤ 255) : Ev (fun k => chantryref14_Path.f k id) (pathI id) := by
  by_cases h : id < 16
  · have hid : id = 0 ∨ id = 1 ∨ id = 2 ∨ id = 3 ∨ id = 4 ∨ id = 5 ∨ id = 6 ∨ id = 7 ∨ id = 8 ∨ id = 9 ∨ id = 10 ∨ id = 11 ∨ id = 12 ∨ id = 13 ∨ id = 14 ∨ id = 15 := by omega
    rcases hid with rfl | rfl | rfl | rfl | rfl | rfl | rfl | rfl | rfl | rfl | rfl | rfl | rfl | rfl | rfl | rfl <;> exact Ev.of (fun k => chantryref14_Path.mono _ k) (k := 6) (by kernel_rfl)
  · have e : pathI id = [] := by unfold pathI; rw [if_neg (by omega)]
    rw [e]
    refine ⟨1, fun k hk => ?_⟩
    obtain ⟨k, rfl⟩ : ∃ m, k = m + 1 := ⟨k - 1, by omega⟩
    unfold chantryref14_Path.f chantryref14_Leaf.f
    rw [if_pos (by omega)]
    rfl
theorem value_f (id : Nat) (h : id < 16) : Ev (fun k => chantryref05_value.f k (id : Int)) ((2 ^ id : Nat) : Int) := by
  have hid : id = 0 ∨ id = 1 ∨ id = 2 ∨ id = 3 ∨ id = 4 ∨ id = 5 ∨ id = 6 ∨ id = 7 ∨ id = 8 ∨ id = 9 ∨ id = 10 ∨ id = 11 ∨ id = 12 ∨ id = 13 ∨ id = 14 ∨ id = 15 := by omega
  rcases hid with rfl | rfl | rfl | rfl | rfl | rfl | rfl | rfl | rfl | rfl | rfl | rfl | rfl | rfl | rfl | rfl <;> exact Ev.of (fun k => chantryref05_value.mono _ k) (k := 17) (by kernel_rfl)
def hasB (s id : Nat) : Bool := decide (id < 16) && bit s id
theorem wrap16 (n : Nat) (h : n < 65536) : IntKind.u16.wrap (n : Int) = (n : Int) := by simp only [IntKind.wrap, IntKind.bits, IntKind.signed]; simp; omega
theorem pow_lt16 {i : Nat} (h : i < 16) : 2 ^ i < 65536 := Nat.pow_lt_pow_right (n := 16) (by decide) h
theorem has_f (s id : Nat) (hs : s < 65536) (h : id ≤ 255) : Ev (fun k => chantryref05_Has.f k (s : Int) (id : Int)) (hasB s id) := by
  unfold hasB
  by_cases hi : id < 16
  · rw [decide_eq_true hi, Bool.true_and]
    refine Ev.congr (f := fun k => (chantryref05_value.f k (id : Int)).bind fun t164 => (if t164 = 0 then (none) else (some ((Int.tmod (IntKind.u16.wrap (Int.tdiv (s : Int) t164)) 2) == 1)))) (fun k => by unfold chantryref05_Has.f; rw [if_pos (by omega)]) ?_
    refine Ev.bind (value_f id hi) ?_
    have hp := Nat.two_pow_pos id
    refine Ev.congr (f := fun _ => some (bit s id)) (fun k => ?_) (Ev.now _)
    rw [if_neg (by omega), Int.tdiv_eq_ediv_of_nonneg (by omega), ← Int.natCast_ediv, wrap16 _ (Nat.lt_of_le_of_lt (Nat.div_le_self _ _) hs), Int.tmod_eq_emod_of_nonneg (Int.natCast_nonneg _)]
    unfold bit
    congr 1
    rw [Bool.eq_iff_iff]
    simp only [beq_iff_eq]
    omega
  · rw [decide_eq_false hi, Bool.false_and]
    exact Ev.congr (f := fun _ => some false) (fun k => by unfold chantryref05_Has.f; rw [if_neg (by omega)]) (Ev.now _)
theorem on_l (node : Int) (l : List Int) (hl : l.length < 100) : ∀ (d i : Nat), l.length - i = d → Ev (fun k => chantryref14_on.l0 k node l (i : Int)) ((l.drop i).contains node) := by
  intro d
  induction d with
  | zero =>
    intro i hi
    rw [List.drop_of_length_le (by omega)]
    exact Ev.step (f := fun _ => some false) (fun k => by simp only [chantryref14_on.l0]; rw [if_neg (by omega)]) (Ev.now _)
  | succ d ih =>
    intro i hi
    have hil : i < l.length := by omega
    have hr : rd l (i : Int) = l[i] := by simp [rd, hil]
    rw [List.drop_eq_getElem_cons hil]
    by_cases h : l[i] = node
    · refine Ev.step (f := fun _ => some true) (fun k => by simp only [chantryref14_on.l0]; rw [if_pos (by omega), if_pos (by omega), hr, if_pos h]) ?_
      have : (l[i] :: l.drop (i + 1)).contains node = true := by rw [List.contains_cons, beq_iff_eq.mpr h.symm, Bool.true_or]
      rw [this]
      exact Ev.now _
    · refine Ev.step (f := fun k => chantryref14_on.l0 k node l ((i + 1 : Nat) : Int)) (fun k => by simp only [chantryref14_on.l0]; rw [if_pos (by omega), if_pos (by omega), hr, if_neg h, show wrap64 ((i : Int) + 1) = ((i + 1 : Nat) : Int) by unfold wrap64; omega]) ?_
      have h2 : ¬ node = l[i] := fun e => h e.symm
      have : (l[i] :: l.drop (i + 1)).contains node = (l.drop (i + 1)).contains node := by rw [List.contains_cons, beq_eq_false_iff_ne.mpr h2, Bool.false_or]
      rw [this]
      exact ih (i + 1) (by omega)
theorem path_short (id : Int) : (pathI id).length < 100 := by unfold pathI; split <;> simp
theorem on_f (id : Nat) (h : id ≤ 255) (node : Int) : Ev (fun k => chantryref14_on.f k (id : Int) node) ((pathI (id : Int)).contains node) := by
  refine Ev.congr (f := fun k => (chantryref14_Path.f k (id : Int)).bind fun t => chantryref14_on.l0 k node t 0) (fun k => rfl) ?_
  exact Ev.bind (rpath_f (id : Int) (by omega) (by omega)) (on_l node (pathI (id : Int)) (path_short _) _ 0 rfl)
theorem with_f (a i : Nat) (hi : i < 16) (ha : a < 2 ^ i) : Ev (fun k => chantryref05_With.f k (a : Int) (i : Int)) ((a + 2 ^ i : Nat) : Int) := by
  have hp := pow_lt16 hi
  have hb : hasB a i = false := by
    unfold hasB
    rw [bit_eq, Nat.testBit_lt_two_pow ha, Bool.and_false]
  have h1 := has_f a i (by omega) (by omega)
  rw [hb] at h1
  refine Ev.congr (f := fun k => (chantryref05_Has.f k (a : Int) (i : Int)).bind fun t169 => (if t169 = true then (some (a : Int)) else ((chantryref05_value.f k (i : Int)).bind fun t170 => (some (IntKind.u16.wrap ((a : Int) + t170)))))) (fun k => rfl) ?_
  refine Ev.bind h1 ?_
  refine Ev.congr (f := fun k => (chantryref05_value.f k (i : Int)).bind fun t170 => (some (IntKind.u16.wrap ((a : Int) + t170)))) (fun k => by rw [if_neg (by simp)]) ?_
  refine Ev.bind (value_f i hi) ?_
  have hq : 2 ^ i + 2 ^ i ≤ 65536 := by
    have : 2 ^ (i + 1) ≤ 2 ^ 16 := Nat.pow_le_pow_right (by decide) hi
    rw [Nat.pow_succ] at this; omega
  rw [show ((a : Int) + ((2 ^ i : Nat) : Int)) = ((a + 2 ^ i : Nat) : Int) by omega, wrap16 _ (by omega)]
  exact Ev.now _

/-- Those below a node, as a natural number. -/
def belowN (s : Nat) (node : Int) : Nat := if 1 ≤ node ∧ node ≤ 31 then s &&& maskN node.toNat else 0
theorem belowI_eq (s : Nat) (node : Int) : belowI (s : Int) node = (belowN s node : Nat) := by
  unfold belowI belowN
  rw [Int.toNat_natCast]
  split <;> rfl
theorem belowN_lt {s : Nat} (hs : s < 65536) (node : Int) : belowN s node < 65536 := by
  unfold belowN
  split
  · exact Nat.lt_of_le_of_lt Nat.and_le_left hs
  · omega
theorem path_all {id : Nat} (h : id < 16) {n : Int} (hn : n ∈ pathI (id : Int)) : 1 ≤ n ∧ n ≤ 31 := by
  have hid : id = 0 ∨ id = 1 ∨ id = 2 ∨ id = 3 ∨ id = 4 ∨ id = 5 ∨ id = 6 ∨ id = 7 ∨ id = 8 ∨ id = 9 ∨ id = 10 ∨ id = 11 ∨ id = 12 ∨ id = 13 ∨ id = 14 ∨ id = 15 := by omega
  unfold pathI at hn
  rw [if_pos (by omega)] at hn
  simp only [List.mem_cons, List.not_mem_nil, or_false] at hn
  omega
theorem belowN_bit (s : Nat) (node : Int) (i : Nat) (hi : i < 16) : bit (belowN s node) i = (bit s i && (pathI (i : Int)).contains node) := by
  unfold belowN
  split
  · rename_i h
    rw [bit_and, mask_bit _ i (by omega) hi, Int.toNat_of_nonneg (by omega)]
  · rename_i h
    have : (pathI (i : Int)).contains node = false := by
      rw [Bool.eq_false_iff]
      intro hc
      have := path_all hi (List.contains_iff_mem.1 hc)
      omega
    rw [this, Bool.and_false, bit_eq, Nat.zero_testBit]
theorem mod_succ (x i : Nat) : x % 2 ^ (i + 1) = x % 2 ^ i + 2 ^ i * (x.testBit i).toNat := by
  rw [Nat.pow_succ, Nat.mod_mul, Nat.testBit_eq_decide_div_mod_eq]
  congr 2
  by_cases h : x / 2 ^ i % 2 = 1
  · rw [decide_eq_true h, h]; rfl
  · rw [decide_eq_false h]
    have : x / 2 ^ i % 2 = 0 := by omega
    rw [this]; rfl
theorem rbelow_l (s : Nat) (hs : s < 65536) (node : Int) : ∀ (d i : Nat), 16 - i = d → i ≤ 16 → Ev (fun k => chantryref14_Below.l0 k (s : Int) node ((belowN s node % 2 ^ i : Nat) : Int) (i : Int)) ((belowN s node : Nat) : Int) := by
  intro d
  induction d with
  | zero =>
    intro i hd hi
    obtain rfl : i = 16 := by omega
    rw [Nat.mod_eq_of_lt (show belowN s node < 2 ^ 16 from belowN_lt hs node)]
    exact Ev.step (f := fun _ => some ((belowN s node : Nat) : Int)) (fun k => by simp only [chantryref14_Below.l0]; rw [if_neg (by omega)]) (Ev.now _)
  | succ d ih =>
    intro i hd hi
    have h16 : i < 16 := by omega
    have hn := ih (i + 1) (by omega) (by omega)
    have hm := mod_succ (belowN s node) i
    have hb := belowN_bit s node i h16
    rw [bit_eq] at hb
    rw [hb] at hm
    have hmod : belowN s node % 2 ^ i < 2 ^ i := Nat.mod_lt _ (Nat.two_pow_pos i)
    refine Ev.step (f := fun k => (chantryref05_Has.f k (s : Int) (i : Int)).bind fun t171 => (if t171 = true then ((chantryref14_on.f k (i : Int) node).bind fun t172 => (if t172 = true then ((chantryref05_With.f k ((belowN s node % 2 ^ i : Nat) : Int) (i : Int)).bind fun t173 => (chantryref14_Below.l0 k (s : Int) node t173 ((i + 1 : Nat) : Int))) else (chantryref14_Below.l0 k (s : Int) node ((belowN s node % 2 ^ i : Nat) : Int) ((i + 1 : Nat) : Int)))) else (chantryref14_Below.l0 k (s : Int) node ((belowN s node % 2 ^ i : Nat) : Int) ((i + 1 : Nat) : Int)))) (fun k => ?_) ?_
    · simp only [chantryref14_Below.l0]
      rw [if_pos (by omega), show (i : Int) % 256 = (i : Int) by omega, show wrap64 ((i : Int) + 1) = ((i + 1 : Nat) : Int) by unfold wrap64; omega]
    · have hh : hasB s i = bit s i := by unfold hasB; rw [decide_eq_true h16, Bool.true_and]
      have h1 := has_f s i hs (by omega)
      rw [hh] at h1
      refine Ev.bind h1 ?_
      cases hbit : bit s i with
      | false =>
        rw [hbit, Bool.false_and] at hm
        refine Ev.congr (f := fun k => chantryref14_Below.l0 k (s : Int) node ((belowN s node % 2 ^ i : Nat) : Int) ((i + 1 : Nat) : Int)) (fun k => by rw [if_neg (by simp)]) ?_
        have e : belowN s node % 2 ^ (i + 1) = belowN s node % 2 ^ i := by rw [hm]; simp
        rw [e] at hn
        exact hn
      | true =>
        rw [hbit, Bool.true_and] at hm
        refine Ev.congr (f := fun k => (chantryref14_on.f k (i : Int) node).bind fun t172 => (if t172 = true then ((chantryref05_With.f k ((belowN s node % 2 ^ i : Nat) : Int) (i : Int)).bind fun t173 => (chantryref14_Below.l0 k (s : Int) node t173 ((i + 1 : Nat) : Int))) else (chantryref14_Below.l0 k (s : Int) node ((belowN s node % 2 ^ i : Nat) : Int) ((i + 1 : Nat) : Int)))) (fun k => by rw [if_pos rfl]) ?_
        refine Ev.bind (on_f i (by omega) node) ?_
        cases hc : (pathI (i : Int)).contains node with
        | false =>
          rw [hc] at hm
          refine Ev.congr (f := fun k => chantryref14_Below.l0 k (s : Int) node ((belowN s node % 2 ^ i : Nat) : Int) ((i + 1 : Nat) : Int)) (fun k => by rw [if_neg (by simp)]) ?_
          have e : belowN s node % 2 ^ (i + 1) = belowN s node % 2 ^ i := by rw [hm]; simp
          rw [e] at hn
          exact hn
        | true =>
          rw [hc] at hm
          refine Ev.congr (f := fun k => (chantryref05_With.f k ((belowN s node % 2 ^ i : Nat) : Int) (i : Int)).bind fun t173 => (chantryref14_Below.l0 k (s : Int) node t173 ((i + 1 : Nat) : Int))) (fun k => by rw [if_pos rfl]) ?_
          refine Ev.bind (with_f _ i h16 hmod) ?_
          have e : belowN s node % 2 ^ (i + 1) = belowN s node % 2 ^ i + 2 ^ i := by rw [hm]; simp
          rw [e] at hn
          exact hn
theorem rbelow_f (s : Nat) (hs : s < 65536) (node : Int) : Ev (fun k => chantryref14_Below.f k (s : Int) node) (belowI (s : Int) node) := by
  have h := rbelow_l s hs node 16 0 rfl (by omega)
  rw [belowI_eq, show belowN s node % 2 ^ 0 = 0 by omega] at *
  exact h
end Go.Proofs.YtnpabhoflkppaaaDoor.Pr
