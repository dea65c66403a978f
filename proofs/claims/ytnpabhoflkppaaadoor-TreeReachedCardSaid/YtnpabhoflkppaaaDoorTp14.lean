/- The tree of keys: what its functions compute, in closed form; sets of members by their bits. -/
import Derived.Test.YtnpabhoflkppaaaDoorBelow14
import Derived.Test.YtnpabhoflkppaaaDoorFin14
set_option linter.unusedVariables false
set_option linter.unusedSimpArgs false
namespace Go.Proofs.YtnpabhoflkppaaaDoor.Pr
open Go.RowKit Go.Proofs.YtnpabhoflkppaaaDoorW.PrintWords

/-- A member's nodes. -/
def pathI (id : Int) : List Int := if 0 ≤ id ∧ id < 16 then [16 + id, (16 + id) / 2, (16 + id) / 4, (16 + id) / 8, 1] else []
theorem path_f (id : Int) (h0 : 0 ≤ id) (h1 : id ≤ 255) : Ev (fun k => tree_Path.f k id) (pathI id) := by
  by_cases h : id < 16
  · have hid : id = 0 ∨ id = 1 ∨ id = 2 ∨ id = 3 ∨ id = 4 ∨ id = 5 ∨ id = 6 ∨ id = 7 ∨ id = 8 ∨ id = 9 ∨ id = 10 ∨ id = 11 ∨ id = 12 ∨ id = 13 ∨ id = 14 ∨ id = 15 := by omega
    rcases hid with rfl | rfl | rfl | rfl | rfl | rfl | rfl | rfl | rfl | rfl | rfl | rfl | rfl | rfl | rfl | rfl <;> exact Ev.of (fun k => tree_Path.mono _ k) (k := 6) (by kernel_rfl)
  · have e : pathI id = [] := by unfold pathI; rw [if_neg (by omega)]
    rw [e]
    refine ⟨1, fun k hk => ?_⟩
    obtain ⟨k, rfl⟩ : ∃ m, k = m + 1 := ⟨k - 1, by omega⟩
    unfold tree_Path.f tree_Leaf.f
    rw [if_pos (by omega)]
    rfl

/-! ### Members of a set -/
def bit (s i : Nat) : Bool := s / 2 ^ i % 2 == 1
theorem bit_eq (s i : Nat) : bit s i = s.testBit i := by
  unfold bit
  rw [Nat.testBit_eq_decide_div_mod_eq, Bool.eq_iff_iff]
  simp
def idsN (s : Nat) : List Nat := (List.range 16).filter (bit s)
theorem mem_ids {s i : Nat} : i ∈ idsN s ↔ i < 16 ∧ bit s i = true := by unfold idsN; simp [List.mem_filter]
theorem ids_asc (s : Nat) : (idsN s).Pairwise (· < ·) := List.Pairwise.filter _ List.pairwise_lt_range
/-- Two lists that rise, with the same members, are one. -/
theorem asc_ext : ∀ {l1 l2 : List Nat}, l1.Pairwise (· < ·) → l2.Pairwise (· < ·) → (∀ x, x ∈ l1 ↔ x ∈ l2) → l1 = l2
  | [], [], _, _, _ => rfl
  | [], y :: l2, _, _, h => absurd ((h y).2 List.mem_cons_self) (by simp)
  | x :: l1, [], _, _, h => absurd ((h x).1 List.mem_cons_self) (by simp)
  | x :: l1, y :: l2, h1, h2, h => by
    obtain ⟨a1, b1⟩ := List.pairwise_cons.1 h1
    obtain ⟨a2, b2⟩ := List.pairwise_cons.1 h2
    have hxy : x = y := by
      rcases List.mem_cons.1 ((h x).1 List.mem_cons_self) with e | e
      · exact e
      · rcases List.mem_cons.1 ((h y).2 List.mem_cons_self) with e' | e'
        · exact e'.symm
        · have := a2 x e; have := a1 y e'; omega
    subst hxy
    rw [asc_ext b1 b2 fun z => ?_]
    constructor
    · intro hz
      rcases List.mem_cons.1 ((h z).1 (List.mem_cons_of_mem _ hz)) with e | e
      · have := a1 z hz; omega
      · exact e
    · intro hz
      rcases List.mem_cons.1 ((h z).2 (List.mem_cons_of_mem _ hz)) with e | e
      · have := a2 z hz; omega
      · exact e
theorem ids_step (s : Nat) (h0 : 0 < s) (h : s < 65536) : idsN s = tz s :: idsN (s &&& (s - 1)) := by
  have ht : tz s < 16 := tz_lt 16 s h0 h
  obtain ⟨t1, t2⟩ := tz_bit 16 s h0 h
  refine asc_ext (ids_asc s) (List.pairwise_cons.2 ⟨fun i hi => ?_, ids_asc _⟩) fun i => ?_
  · obtain ⟨_, hb⟩ := mem_ids.1 hi
    rw [bit_eq, strip_bit 16 s h0 h] at hb
    simp only [Bool.and_eq_true, decide_eq_true_eq] at hb
    rcases Nat.lt_trichotomy (tz s) i with g | g | g
    · exact g
    · exact absurd g.symm hb.2
    · rw [t2 i g] at hb; cases hb.1
  · rw [List.mem_cons, mem_ids, mem_ids, bit_eq, bit_eq, strip_bit 16 s h0 h]
    simp only [Bool.and_eq_true, decide_eq_true_eq]
    show _ ↔ i = tz s ∨ _ ∧ _ ∧ i ≠ tz s
    constructor
    · rintro ⟨a, b⟩
      by_cases g : i = tz s
      · exact .inl g
      · exact .inr ⟨a, b, g⟩
    · rintro (rfl | ⟨a, b, _⟩)
      · exact ⟨ht, t1⟩
      · exact ⟨a, b⟩
theorem ids_zero : idsN 0 = [] := by decide
theorem list_l (s : Nat) : ∀ acc : List Int, s < 65536 → acc.length + s ≤ 100000 → Ev (fun k => count_List.l0 k (s : Int) acc) (acc ++ (idsN s).map (fun n : Nat => (n : Int))) := by
  induction s using Nat.strongRecOn with
  | ind s ih =>
    intro acc hs ha
    by_cases h0 : s = 0
    · subst h0
      rw [ids_zero]
      exact Ev.step (f := fun _ => some acc) (fun k => by simp only [count_List.l0]; rw [if_pos (by rfl)]) (by simpa using Ev.now acc)
    · have hl : s &&& (s - 1) ≤ s - 1 := Nat.and_le_right
      have hz : tz s ≤ 16 := tzAux_le 16 s
      have h1 : bits_TrailingZeros16.f (s : Int) = some ((tz s : Nat) : Int) := by
        unfold bits_TrailingZeros16.f
        rw [if_pos ⟨by omega, by omega⟩, Int.toNat_natCast]
      have h2 : Go.bits .and .u16 (s : Int) (IntKind.u16.wrap ((s : Int) - 1)) = ((s &&& (s - 1) : Nat) : Int) := by
        have e : IntKind.u16.wrap ((s : Int) - 1) = ((s - 1 : Nat) : Int) := by simp only [IntKind.wrap, IntKind.bits, IntKind.signed]; simp; omega
        rw [e, u16_and_nat s (s - 1) hs (by omega)]
      have hi := ih (s &&& (s - 1)) (by omega) (acc ++ [((tz s : Nat) : Int)]) (by omega) (by simp; omega)
      refine Ev.step (f := fun k => count_List.l0 k ((s &&& (s - 1) : Nat) : Int) (acc ++ [((tz s : Nat) : Int)])) (fun k => ?_) ?_
      · simp only [count_List.l0]
        rw [if_neg (by omega), h1]
        simp only [Option.bind_some]
        rw [if_pos (by omega), h2, show ((tz s : Nat) : Int) % 256 = ((tz s : Nat) : Int) by omega]
      · rw [ids_step s (by omega) hs]
        simpa using hi
def idsI (s : Int) : List Int := (idsN s.toNat).map (fun n : Nat => (n : Int))
theorem list_f (s : Nat) (hs : s < 65536) : Ev (fun k => count_List.f k (s : Int)) (idsI (s : Int)) := by
  have h := list_l s [] hs (by simp; omega)
  unfold idsI
  rw [Int.toNat_natCast]
  rw [List.nil_append] at h
  exact h
theorem ids_len (s : Nat) : (idsN s).length ≤ 16 := Nat.le_trans (List.length_filter_le _ _) (by simp)

/-! ### Bits -/
theorem bit_and (a b i : Nat) : bit (a &&& b) i = (bit a i && bit b i) := by simp only [bit_eq, Nat.testBit_and]
theorem bit_or (a b i : Nat) : bit (a ||| b) i = (bit a i || bit b i) := by simp only [bit_eq, Nat.testBit_or]
theorem bit_xor (a b i : Nat) : bit (a ^^^ b) i = Bool.xor (bit a i) (bit b i) := by simp only [bit_eq, Nat.testBit_xor]
theorem bit_big {s i : Nat} (hs : s < 65536) (hi : 16 ≤ i) : bit s i = false := by
  rw [bit_eq]
  exact Nat.testBit_lt_two_pow (Nat.lt_of_lt_of_le (show s < 2 ^ 16 from hs) (Nat.pow_le_pow_right (by decide) hi))
theorem ext16 {a b : Nat} (ha : a < 65536) (hb : b < 65536) (h : ∀ i, i < 16 → bit a i = bit b i) : a = b := by
  apply Nat.eq_of_testBit_eq
  intro i
  rw [← bit_eq, ← bit_eq]
  by_cases hi : i < 16
  · exact h i hi
  · rw [bit_big ha (by omega), bit_big hb (by omega)]
theorem ne_zero {a : Nat} (ha : a < 65536) : a ≠ 0 ↔ ∃ i, i < 16 ∧ bit a i = true := by
  constructor
  · intro h
    exact Classical.byContradiction fun hn => h (ext16 ha (by decide) fun i hi => by
      cases hb : bit a i with
      | true => exact absurd ⟨i, hi, hb⟩ hn
      | false => rw [bit_eq, Nat.zero_testBit])
  · rintro ⟨i, hi, hb⟩ rfl
    rw [bit_eq, Nat.zero_testBit] at hb
    cases hb
/-- Which members are below which nodes: those on whose way the node is. -/
theorem mask_all : ((List.range 32).all fun n => maskN n < 65536 && (List.range 16).all fun i => bit (maskN n) i == (pathI (i : Int)).contains (n : Int)) = true := by decide +kernel
theorem mask_lt (n : Nat) (hn : n < 32) : maskN n < 65536 := by
  have := List.all_eq_true.1 mask_all n (List.mem_range.2 hn)
  simp only [Bool.and_eq_true, decide_eq_true_eq] at this
  exact this.1
theorem mask_bit (n i : Nat) (hn : n < 32) (hi : i < 16) : bit (maskN n) i = (pathI (i : Int)).contains (n : Int) := by
  have := List.all_eq_true.1 mask_all n (List.mem_range.2 hn)
  simp only [Bool.and_eq_true] at this
  exact beq_iff_eq.1 (List.all_eq_true.1 this.2 i (List.mem_range.2 hi))
end Go.Proofs.YtnpabhoflkppaaaDoor.Pr
