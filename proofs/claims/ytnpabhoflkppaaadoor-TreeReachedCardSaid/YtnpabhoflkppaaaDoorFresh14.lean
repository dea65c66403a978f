/- tree.Fresh: what it computes: the plain law; its contract, in the print's form. -/
import Derived.Test.YtnpabhoflkppaaaDoorFreshW14
set_option linter.unusedVariables false
set_option linter.unusedSimpArgs false
namespace Go.Proofs.YtnpabhoflkppaaaDoor.Pr
open Go.RowKit Go.Sort Go.Proofs.YtnpabhoflkppaaaDoorW.PrintWords

/-- The nodes whose keys are new, from the last one to the first. -/
def downL : List Nat := [15, 14, 13, 12, 11, 10, 9, 8, 7, 6, 5, 4, 3, 2, 1]
def freshB (was is n : Nat) : Bool := ((was ^^^ is) &&& maskN n != 0) && (is &&& maskN n != 0)
def freshI (was is : Int) : List Int := (downL.filter (freshB was.toNat is.toNat)).map (fun n : Nat => (n : Int))

/-- Two lists that fall, with the same members, are one. -/
theorem desc_ext : ∀ {l1 l2 : List Int}, l1.Pairwise (· > ·) → l2.Pairwise (· > ·) → (∀ x, x ∈ l1 ↔ x ∈ l2) → l1 = l2
  | [], [], _, _, _ => rfl
  | [], y :: l2, _, _, h => absurd ((h y).2 List.mem_cons_self) (by simp)
  | x :: l1, [], _, _, h => absurd ((h x).1 List.mem_cons_self) (by simp)
  | x :: l1, y :: l2, h1, h2, h => by
    obtain ⟨a1, b1⟩ := List.pairwise_cons.1 h1
    obtain ⟨a2, b2⟩ := List.pairwise_cons.1 h2
    have hxy : x = y := by
      rcases List.mem_cons.1 ((h x).1 List.mem_cons_self) with e | e
      · exact e
      · rcases List.mem_cons.1 ((h y).2 List.mem_cons_self) with e' | e'
        · exact e'.symm
        · have := a2 x e; have := a1 y e'; omega
    subst hxy
    rw [desc_ext b1 b2 fun z => ?_]
    constructor
    · intro hz
      rcases List.mem_cons.1 ((h z).1 (List.mem_cons_of_mem _ hz)) with e | e
      · have := a1 z hz; omega
      · exact e
    · intro hz
      rcases List.mem_cons.1 ((h z).2 (List.mem_cons_of_mem _ hz)) with e | e
      · have := a2 z hz; omega
      · exact e

/-! ### Compact of a list that stands in order -/
theorem sortL_sorted (xs : List Int) : (sortL xs).Pairwise (· ≤ ·) := by
  have h := List.pairwise_mergeSort (le := fun (a b : Int) => decide (a ≤ b)) (fun a b c h1 h2 => by simp at *; omega) (fun a b => by simp; omega) xs
  refine (show List.Pairwise (fun a b => decide (a ≤ b) = true) (sortL xs) from h).imp ?_
  intro a b h; simpa using h
theorem sortL_mem (xs : List Int) (x : Int) : x ∈ sortL xs ↔ x ∈ xs := (List.mergeSort_perm xs _).mem_iff
theorem get_le {zs : List Int} (h : zs.Pairwise (· ≤ ·)) {i j : Nat} (hij : i ≤ j) (hj : j < zs.length) : zs.toArray[i]! ≤ zs.toArray[j]! := by
  rw [getElem!_pos zs.toArray i (by simp; omega), getElem!_pos zs.toArray j (by simpa using hj)]
  simp only [List.getElem_toArray]
  rcases Nat.lt_or_ge i j with g | g
  · exact List.pairwise_iff_getElem.1 h i j (by omega) hj g
  · obtain rfl : i = j := by omega
    exact Int.le_refl _
theorem compact_rises {zs : List Int} (h : zs.Pairwise (· ≤ ·)) : (Lib.compact zs).Pairwise (· < ·) := by
  unfold Lib.compact Lib.compactUpTo
  rw [List.pairwise_map, List.pairwise_filter]
  refine List.Pairwise.imp_of_mem ?_ List.pairwise_lt_range
  intro i j hi hj hij _ hk
  have hj' : j < zs.length := by simpa using hj
  unfold Lib.keeps at hk
  have hk := of_decide_eq_true hk
  rcases hk with hk | hk
  · omega
  · have h1 := get_le h (i := i) (j := j - 1) (by omega) (by omega)
    have h2 := get_le h (i := j - 1) (j := j) (by omega) hj'
    omega
theorem compact_mem {zs : List Int} (x : Int) : x ∈ Lib.compact zs ↔ x ∈ zs := by
  unfold Lib.compact Lib.compactUpTo
  rw [List.mem_map]
  constructor
  · rintro ⟨j, hj, rfl⟩
    have hj' : j < zs.length := by simpa using (List.mem_filter.1 hj).1
    rw [getElem!_pos zs.toArray j (by simpa using hj')]
    simp
  · intro hx
    obtain ⟨j, hj, rfl⟩ := List.mem_iff_getElem.1 hx
    induction j with
    | zero => exact ⟨0, List.mem_filter.2 ⟨by simpa using hj, by simp [Lib.keeps]⟩, by rw [getElem!_pos zs.toArray 0 (by simpa using hj)]; simp⟩
    | succ j ih =>
      by_cases hk : Lib.keeps zs.toArray (j + 1) = true
      · exact ⟨j + 1, List.mem_filter.2 ⟨by simpa using hj, hk⟩, by rw [getElem!_pos zs.toArray (j + 1) (by simpa using hj)]; simp⟩
      · have he : zs.toArray[j + 1]! = zs.toArray[j + 1 - 1]! := by
          apply Classical.byContradiction
          intro hne
          exact hk (by unfold Lib.keeps; exact decide_eq_true (.inr hne))
        rw [getElem!_pos zs.toArray (j + 1) (by simpa using hj), Nat.add_sub_cancel, getElem!_pos zs.toArray j (by simp; omega)] at he
        simp only [List.getElem_toArray] at he
        rw [he]
        exact ih (by omega) (List.getElem_mem _)
theorem fin_falls (xs : List Int) : (finL xs).Pairwise (· > ·) := by
  unfold finL
  rw [List.pairwise_reverse]
  exact compact_rises (sortL_sorted xs)
theorem fin_mem (xs : List Int) (x : Int) : x ∈ finL xs ↔ x ∈ xs := by
  unfold finL
  rw [List.mem_reverse, compact_mem, sortL_mem]

theorem path_range {id : Nat} (h : id < 16) {n : Int} (hn : n ∈ (pathI (id : Int)).tail) : 1 ≤ n ∧ n ≤ 15 := by
  have hid : id = 0 ∨ id = 1 ∨ id = 2 ∨ id = 3 ∨ id = 4 ∨ id = 5 ∨ id = 6 ∨ id = 7 ∨ id = 8 ∨ id = 9 ∨ id = 10 ∨ id = 11 ∨ id = 12 ∨ id = 13 ∨ id = 14 ∨ id = 15 := by omega
  unfold pathI at hn
  rw [if_pos (by omega)] at hn
  simp only [List.tail_cons, List.mem_cons, List.not_mem_nil, or_false] at hn
  omega
theorem tail_iff : ((List.range 16).all fun id => (List.range 16).all fun n => n == 0 || ((pathI (id : Int)).contains (n : Int) == (pathI (id : Int)).tail.contains (n : Int))) = true := by decide +kernel
theorem mem_tail {id n : Nat} (h : id < 16) (h1 : 1 ≤ n) (hn : n ≤ 15) : (n : Int) ∈ (pathI (id : Int)).tail ↔ bit (maskN n) id = true := by
  have := List.all_eq_true.1 (List.all_eq_true.1 tail_iff id (List.mem_range.2 h)) n (List.mem_range.2 (by omega))
  simp only [Bool.or_eq_true, beq_iff_eq] at this
  rw [mask_bit n id (by omega) h]
  rcases this with h | h
  · omega
  · rw [h, List.contains_iff_mem]
theorem below_ne {s n : Nat} (hs : s < 65536) (hn : n < 32) : s &&& maskN n ≠ 0 ↔ ∃ i, i < 16 ∧ bit s i = true ∧ bit (maskN n) i = true := by
  have hl : s &&& maskN n < 65536 := Nat.lt_of_le_of_lt Nat.and_le_left hs
  rw [ne_zero hl]
  constructor
  · rintro ⟨i, hi, hb⟩
    rw [bit_and, Bool.and_eq_true] at hb
    exact ⟨i, hi, hb.1, hb.2⟩
  · rintro ⟨i, hi, h1, h2⟩
    exact ⟨i, hi, by rw [bit_and, h1, h2]; rfl⟩
theorem mem_down (n : Nat) : n ∈ downL ↔ 1 ≤ n ∧ n ≤ 15 := by
  unfold downL
  simp only [List.mem_cons, List.not_mem_nil, or_false]
  omega
theorem belowI_nat (s n : Nat) (h1 : 1 ≤ n) (hn : n ≤ 31) : belowI (s : Int) (n : Int) = ((s &&& maskN n : Nat) : Int) := by
  unfold belowI
  rw [if_pos ⟨by omega, by omega⟩, Int.toNat_natCast, Int.toNat_natCast]
theorem out_mem (is : Nat) (ids : List Nat) (hids : ∀ i ∈ ids, i < 16) (x : Int) :
    x ∈ outL (is : Int) ids ↔ ∃ n : Nat, x = (n : Int) ∧ 1 ≤ n ∧ n ≤ 15 ∧ is &&& maskN n ≠ 0 ∧ ∃ id ∈ ids, bit (maskN n) id = true := by
  unfold outL ofId
  simp only [List.mem_flatMap]
  constructor
  · rintro ⟨id, hid, y, hy, hx⟩
    have hr := path_range (hids id hid) hy
    unfold stepO at hx
    split at hx
    · simp at hx
    · rename_i hz
      obtain rfl : x = y := by simpa using hx
      obtain ⟨n, rfl⟩ := Int.eq_ofNat_of_zero_le (show 0 ≤ x by omega)
      rw [belowI_nat is n (by omega) (by omega)] at hz
      exact ⟨n, rfl, by omega, by omega, by omega, id, hid, (mem_tail (hids id hid) (by omega) (by omega)).1 hy⟩
  · rintro ⟨n, rfl, h1, h2, h3, id, hid, hb⟩
    refine ⟨id, hid, (n : Int), (mem_tail (hids id hid) h1 h2).2 hb, ?_⟩
    unfold stepO
    rw [belowI_nat is n h1 (by omega), if_neg (by omega)]
    simp
theorem fresh_eq (was is : Nat) (hw : was < 65536) (hi : is < 65536) : finL (outL (is : Int) (idsN (was ^^^ is))) = freshI (was : Int) (is : Int) := by
  have hx : was ^^^ is < 65536 := Nat.xor_lt_two_pow (n := 16) hw hi
  refine desc_ext (fin_falls _) ?_ fun x => ?_
  · unfold freshI
    rw [List.pairwise_map]
    refine List.Pairwise.filter _ ?_
    show List.Pairwise (fun a b : Nat => (a : Int) > (b : Int)) downL
    decide
  · rw [fin_mem, out_mem is _ (fun i hi => (mem_ids.1 hi).1)]
    unfold freshI
    rw [List.mem_map]
    constructor
    · rintro ⟨n, rfl, h1, h2, h3, id, hid, hb⟩
      refine ⟨n, List.mem_filter.2 ⟨(mem_down n).2 ⟨h1, h2⟩, ?_⟩, rfl⟩
      obtain ⟨q1, q2⟩ := mem_ids.1 hid
      have := (below_ne hx (by omega : n < 32)).2 ⟨id, q1, q2, hb⟩
      unfold freshB
      simp only [Int.toNat_natCast, Bool.and_eq_true, bne_iff_ne]
      exact ⟨this, h3⟩
    · rintro ⟨n, hn, rfl⟩
      obtain ⟨q1, q2⟩ := List.mem_filter.1 hn
      obtain ⟨h1, h2⟩ := (mem_down n).1 q1
      unfold freshB at q2
      simp only [Int.toNat_natCast, Bool.and_eq_true, bne_iff_ne] at q2
      obtain ⟨id, r1, r2, r3⟩ := (below_ne hx (by omega : n < 32)).1 q2.1
      exact ⟨n, rfl, h1, h2, q2.2, id, mem_ids.2 ⟨r1, r2⟩, r3⟩

/-- tree.Fresh, in the print's form. -/
def tree_Fresh.f (k : Nat) (a0 a1 : Int) : Option (List Int) := if (0 ≤ a0 ∧ a0 < 65536) ∧ (0 ≤ a1 ∧ a1 < 65536) then some (freshI a0 a1) else none
theorem tree_Fresh.mono : ∀ a0 a1 k, LeO (tree_Fresh.f k a0 a1) (tree_Fresh.f (k + 1) a0 a1) := fun _ _ _ => LeO.refl _
theorem tree_Fresh.calls (k : Nat) (a0 : Int) (a1 : Int) (r : List Int) (w : World) (h : tree_Fresh.f k a0 a1 = some r) (HT0 : TabAt w) :
    Calls Tryd.prog 19 #[.int .u16 a0, .int .u16 a1] w fun e w' => ∃ v0_ : Value, e = .returned (v0_) ∧ Kd.R (Kd.int .i64) 3 w' w.heap.size (fun _ => True) v0_ r ∧ RowKit.Below w.heap.size w w' := by
  unfold tree_Fresh.f at h
  split at h
  · rename_i hb
    obtain rfl := Option.some.inj h
    have hf := fresh_walk a0.toNat a1.toNat (by omega) (by omega) w HT0
    rw [Int.toNat_of_nonneg hb.1.1, Int.toNat_of_nonneg hb.2.1] at hf
    refine hf.mono ?_
    rintro e w' ⟨v, he, hr, hbl⟩
    rw [fresh_eq a0.toNat a1.toNat (by omega) (by omega), Int.toNat_of_nonneg hb.1.1, Int.toNat_of_nonneg hb.2.1] at hr
    exact ⟨v, he, hr.toR, hbl⟩
  · cases h
end Go.Proofs.YtnpabhoflkppaaaDoor.Pr
