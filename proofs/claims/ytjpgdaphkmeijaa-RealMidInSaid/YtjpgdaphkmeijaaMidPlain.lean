/- The number in the middle, by counting: the plain law. -/
import Derived.Test.YtjpgdaphkmeijaaRefs01
set_option linter.unusedVariables false
set_option linter.unusedSimpArgs false
namespace Go.Proofs.Ytjpgdaphkmeijaa.Rl
open Go.RowKit Go.Proofs.YtjpgdaphkmeijaaW.PrintWords

/-- In a list that stands in order the k-th is less than c just where k is less than the number of those that are. -/
theorem sorted_lt (c : Nat) : ∀ (cs : List Nat), cs.Pairwise (· ≤ ·) → ∀ k (h : k < cs.length), cs[k] < c ↔ k < cs.countP (· < c)
  | [], _, k, h => by simp at h
  | x :: t, hp, k, h => by
    obtain ⟨hx, ht⟩ := List.pairwise_cons.1 hp
    by_cases hc : x < c
    · rw [List.countP_cons_of_pos (by simpa using hc)]
      cases k with
      | zero => simp [hc]
      | succ k =>
        have := sorted_lt c t ht k (by simpa using h)
        simp only [List.getElem_cons_succ]
        omega
    · have h0 : t.countP (· < c) = 0 := by
        rw [List.countP_eq_zero]
        intro y hy
        have := hx y hy
        simp; omega
      rw [List.countP_cons_of_neg (by simpa using hc), h0]
      constructor
      · intro hlt
        exfalso
        cases k with
        | zero => exact hc hlt
        | succ k =>
          simp only [List.getElem_cons_succ] at hlt
          have := hx (t[k]'(by simpa using h)) (List.getElem_mem _)
          omega
      · intro h; omega
theorem codes_sorted (zs : List Nat) : (codes zs).Pairwise (· ≤ ·) := by
  have h := List.pairwise_mergeSort (le := fun (a b : Nat) => decide (a ≤ b)) (fun a b c h1 h2 => by simp at *; omega) (fun a b => by simp; omega) (zs.map codeR)
  refine (show List.Pairwise (fun a b => decide (a ≤ b) = true) (codes zs) from h).imp ?_
  intro a b h; simpa using h
theorem codes_perm (zs : List Nat) : (codes zs).Perm (zs.map codeR) := List.mergeSort_perm _ _
theorem codes_len (zs : List Nat) : (codes zs).length = zs.length := by rw [(codes_perm zs).length_eq]; simp
/-- How many numbers come ahead of a code; how many have it. -/
def less (zs : List Nat) (c : Nat) : Nat := zs.countP (fun x => codeR x < c)
def same (zs : List Nat) (c : Nat) : Nat := zs.countP (fun x => codeR x == c)
def more (zs : List Nat) (c : Nat) : Nat := zs.countP (fun x => c < codeR x)
theorem less_codes (zs : List Nat) (c : Nat) : (codes zs).countP (· < c) = less zs c := by
  rw [(codes_perm zs).countP_eq, List.countP_map]; rfl
theorem less_same (zs : List Nat) (c : Nat) : less zs (c + 1) = less zs c + same zs c := by
  unfold less same
  induction zs with
  | nil => rfl
  | cons x t ih =>
    simp only [List.countP_cons]
    rw [ih]
    rcases Nat.lt_trichotomy (codeR x) c with h | h | h
    · rw [if_pos (by simp; omega), if_pos (by simp; omega), if_neg (by simp; omega)]; omega
    · rw [if_pos (by simp; omega), if_neg (by simp; omega), if_pos (by simp; omega)]; omega
    · rw [if_neg (by simp; omega), if_neg (by simp; omega), if_neg (by simp; omega)]; omega
theorem less_more (zs : List Nat) (c : Nat) : less zs (c + 1) + more zs c = zs.length := by
  unfold less more
  induction zs with
  | nil => rfl
  | cons x t ih =>
    simp only [List.countP_cons, List.length_cons]
    by_cases h : c < codeR x
    · rw [if_neg (by simp; omega), if_pos (by simp; omega)]; omega
    · rw [if_pos (by simp; omega), if_neg (by simp; omega)]; omega
/-- Which code stands at place k, by counting. -/
theorem at_place (zs : List Nat) (k : Nat) (h : k < zs.length) (c : Nat) : (codes zs).getD k 0 = c ↔ less zs c ≤ k ∧ k < less zs c + same zs c := by
  have hk : k < (codes zs).length := by rw [codes_len]; exact h
  have h1 := sorted_lt c _ (codes_sorted zs) k hk
  have h2 := sorted_lt (c + 1) _ (codes_sorted zs) k hk
  rw [less_codes] at h1 h2
  rw [less_same] at h2
  rw [List.getD_eq_getElem?_getD, List.getElem?_eq_getElem hk, Option.getD_some]
  omega
theorem place_mem (zs : List Nat) (k : Nat) (h : k < zs.length) : ∃ x ∈ zs, codeR x = (codes zs).getD k 0 := by
  have hk : k < (codes zs).length := by rw [codes_len]; exact h
  rw [List.getD_eq_getElem?_getD, List.getElem?_eq_getElem hk, Option.getD_some]
  have := (codes_perm zs).mem_iff.1 (List.getElem_mem hk)
  simpa using this

theorem rd_nat (zs : List Nat) (j : Nat) : rd (zs.map (fun n : Nat => (n : Int))) (j : Int) = ((zs.getD j 0 : Nat) : Int) := by
  simp only [rd, List.getD_eq_getElem?_getD, Int.toNat_natCast, List.getElem?_map]
  cases zs[j]? <;> rfl
theorem wrap_nat (n : Nat) (h : n < 1000000000) : wrap64 ((n : Int) + 1) = ((n + 1 : Nat) : Int) := by unfold wrap64; omega
theorem take_countP (zs : List Nat) (p : Nat → Bool) (j : Nat) (h : j < zs.length) : (zs.take (j + 1)).countP p = (zs.take j).countP p + if p (zs.getD j 0) then 1 else 0 := by
  rw [List.take_succ_eq_append_getElem h, List.countP_append, List.countP_singleton]
  rw [List.getD_eq_getElem?_getD, List.getElem?_eq_getElem h, Option.getD_some]

/-- The inner loop: from j on. -/
theorem inner (zs : List Nat) (hz : ∀ x ∈ zs, x < 18446744073709551616) (hlen : zs.length ≤ 1000000) (mid : Nat) (hm : mid < 1000000) (i : Nat) (hi : i < zs.length) : ∀ (d j : Nat), zs.length - j = d → j ≤ zs.length → ∀ k, d < k →
    ∃ k', k ≤ k' + d + 1 ∧ k' < k ∧ Pr.chantryref01_Mid.l1 k (zs.map (fun n : Nat => (n : Int))) (mid : Int) (i : Int) (less (zs.take j) (codeR (zs.getD i 0)) : Nat) (same (zs.take j) (codeR (zs.getD i 0)) : Nat) (j : Int) =
      if less zs (codeR (zs.getD i 0)) ≤ mid ∧ mid < less zs (codeR (zs.getD i 0)) + same zs (codeR (zs.getD i 0)) then some (canonF (zs.getD i 0) : Int) else Pr.chantryref01_Mid.l0 k' (zs.map (fun n : Nat => (n : Int))) (mid : Int) ((i + 1 : Nat) : Int) := by
  intro d
  have hzi : zs.getD i 0 < 18446744073709551616 := by
    rw [List.getD_eq_getElem?_getD, List.getElem?_eq_getElem hi, Option.getD_some]; exact hz _ (List.getElem_mem _)
  induction d with
  | zero =>
    intro j hd hj k hk
    obtain ⟨k, rfl⟩ : ∃ m, k = m + 1 := ⟨k - 1, by omega⟩
    have hjl : j = zs.length := by omega
    subst hjl
    refine ⟨k, by omega, by omega, ?_⟩
    have l1 : less zs (codeR (zs.getD i 0)) ≤ zs.length := List.countP_le_length
    have l2 : same zs (codeR (zs.getD i 0)) ≤ zs.length := List.countP_le_length
    simp only [Pr.chantryref01_Mid.l1]
    rw [if_neg (by simp), List.take_length]
    have hw : wrap64 ((less zs (codeR (zs.getD i 0)) : Int) + (same zs (codeR (zs.getD i 0)) : Int)) = ((less zs (codeR (zs.getD i 0)) + same zs (codeR (zs.getD i 0)) : Nat) : Int) := by unfold wrap64; omega
    rw [hw, wrap_nat i (by omega), rd_nat, f_canon hzi]
    simp only [Option.bind_some, List.length_map]
    by_cases h1 : less zs (codeR (zs.getD i 0)) ≤ mid
    · by_cases h2 : mid < less zs (codeR (zs.getD i 0)) + same zs (codeR (zs.getD i 0))
      · rw [if_pos (by omega), if_pos (by omega), if_pos (by omega), if_pos (by omega), if_pos ⟨h1, h2⟩]
      · rw [if_pos (by omega), if_neg (by omega), if_neg (fun h => h2 h.2)]
    · rw [if_neg (by omega), if_neg (fun h => h1 h.1)]
  | succ d ih =>
    intro j hd hj k hk
    obtain ⟨k, rfl⟩ : ∃ m, k = m + 1 := ⟨k - 1, by omega⟩
    have hjl : j < zs.length := by omega
    have hzj : zs.getD j 0 < 18446744073709551616 := by
      rw [List.getD_eq_getElem?_getD, List.getElem?_eq_getElem hjl, Option.getD_some]; exact hz _ (List.getElem_mem _)
    obtain ⟨k', h1, h2, h3⟩ := ih (j + 1) (by omega) (by omega) k (by omega)
    refine ⟨k', by omega, by omega, ?_⟩
    rw [← h3]
    simp only [Pr.chantryref01_Mid.l1]
    have l1 : less (zs.take j) (codeR (zs.getD i 0)) ≤ (zs.take j).length := List.countP_le_length
    have l2 : same (zs.take j) (codeR (zs.getD i 0)) ≤ (zs.take j).length := List.countP_le_length
    have l3 : (zs.take j).length ≤ zs.length := List.length_take_le' _ _
    rw [if_pos (by simp; omega), if_pos (by omega), if_pos (by omega), if_pos (by simp; omega), rd_nat, rd_nat, f_order hzj hzi, orderF_eq hzj hzi]
    simp only [Option.bind_some]
    have e1 := take_countP zs (fun x => codeR x < codeR (zs.getD i 0)) j hjl
    have e2 := take_countP zs (fun x => codeR x == codeR (zs.getD i 0)) j hjl
    rw [wrap_nat j (by omega), wrap_nat _ (by omega : less (zs.take j) (codeR (zs.getD i 0)) < 1000000000), wrap_nat _ (by omega : same (zs.take j) (codeR (zs.getD i 0)) < 1000000000)]
    unfold orderR
    by_cases g1 : codeR (zs.getD j 0) < codeR (zs.getD i 0)
    · rw [if_pos g1, if_pos rfl]
      rw [if_pos (decide_eq_true g1)] at e1
      rw [if_neg (fun h => by have := beq_iff_eq.1 h; omega)] at e2
      unfold less same
      rw [e1, e2]; rfl
    · rw [if_neg g1]
      rw [if_neg (fun h => g1 (of_decide_eq_true h))] at e1
      by_cases g2 : codeR (zs.getD i 0) < codeR (zs.getD j 0)
      · rw [if_pos g2, if_neg (by omega), if_neg (by omega)]
        rw [if_neg (fun h => by have := beq_iff_eq.1 h; omega)] at e2
        unfold less same
        rw [e1, e2]; rfl
      · rw [if_neg g2, if_neg (by omega), if_pos rfl]
        rw [if_pos (beq_iff_eq.2 (by omega))] at e2
        unfold less same
        rw [e1, e2]; rfl

/-- The outer loop: from i on, where the one in the middle stands at i or behind it. -/
theorem outer (zs : List Nat) (hz : ∀ x ∈ zs, x < 18446744073709551616) (hlen : zs.length ≤ 1000000) (mid : Nat) (hm : mid < zs.length) : ∀ (d i : Nat), zs.length - i = d → (∃ j, i ≤ j ∧ j < zs.length ∧ codeR (zs.getD j 0) = (codes zs).getD mid 0) →
    ∀ k, (d + 1) * (zs.length + 3) ≤ k → Pr.chantryref01_Mid.l0 k (zs.map (fun n : Nat => (n : Int))) (mid : Int) (i : Int) = some (decF ((codes zs).getD mid 0) : Int) := by
  intro d
  induction d with
  | zero => rintro i hd ⟨j, h1, h2, _⟩ k hk; omega
  | succ d ih =>
    rintro i hd ⟨j, h1, h2, h3⟩ k hk
    have hi : i < zs.length := by omega
    have hzi : zs.getD i 0 < 18446744073709551616 := by
      rw [List.getD_eq_getElem?_getD, List.getElem?_eq_getElem hi, Option.getD_some]; exact hz _ (List.getElem_mem _)
    have hmul : (d + 1 + 1) * (zs.length + 3) = (d + 1) * (zs.length + 3) + (zs.length + 3) := by rw [Nat.succ_mul]
    obtain ⟨k, rfl⟩ : ∃ m, k = m + 1 := ⟨k - 1, by omega⟩
    obtain ⟨k', q1, q2, q3⟩ := inner zs hz hlen mid (by omega) i hi zs.length 0 (by omega) (by omega) k (by omega)
    simp only [Pr.chantryref01_Mid.l0]
    rw [if_pos (by simp; omega)]
    simp only [List.take_zero] at q3
    have z1 : less [] (codeR (zs.getD i 0)) = 0 := rfl
    have z2 : same [] (codeR (zs.getD i 0)) = 0 := rfl
    rw [z1, z2] at q3
    refine (show _ = _ from q3).trans ?_
    have hp := at_place zs mid hm (codeR (zs.getD i 0))
    by_cases g : less zs (codeR (zs.getD i 0)) ≤ mid ∧ mid < less zs (codeR (zs.getD i 0)) + same zs (codeR (zs.getD i 0))
    · rw [if_pos g, hp.2 g, dec_code hzi, canonF_eq hzi]
    · rw [if_neg g]
      refine ih (i + 1) (by omega) ⟨j, ?_, h2, h3⟩ k' (by omega)
      rcases Nat.lt_or_ge i j with h | h
      · omega
      · exfalso
        have : i = j := by omega
        subst this
        exact g (hp.1 h3.symm)
theorem f_mid (zs : List Nat) (hz : ∀ x ∈ zs, x < 18446744073709551616) (hlen : zs.length ≤ 1000000) : ∃ k, Pr.chantryref01_Mid.f k (zs.map (fun n : Nat => (n : Int))) = some (midF zs : Int) := by
  by_cases hne : zs = []
  · subst hne
    exact ⟨0, rfl⟩
  · have hpos : 0 < zs.length := List.length_pos_iff.2 hne
    obtain ⟨x, hx, hcx⟩ := place_mem zs ((zs.length - 1) / 2) (by omega)
    obtain ⟨j, hj, rfl⟩ := List.mem_iff_getElem.1 hx
    refine ⟨(zs.length + 1) * (zs.length + 3), ?_⟩
    have h := outer zs hz hlen ((zs.length - 1) / 2) (by omega) zs.length 0 (by omega) ⟨j, by omega, hj, by rw [List.getD_eq_getElem?_getD, List.getElem?_eq_getElem hj, Option.getD_some]; exact hcx⟩ ((zs.length + 1) * (zs.length + 3)) (Nat.le_refl _)
    unfold Pr.chantryref01_Mid.f midF
    rw [if_neg (by simp; omega), if_neg hne, ← h]
    have w1 : wrap64 ((((zs.map (fun n : Nat => (n : Int))).length : Nat) : Int) - 1) = ((zs.length - 1 : Nat) : Int) := by rw [List.length_map]; unfold wrap64; omega
    have w2 : wrap64 (Int.tdiv (((zs.length - 1 : Nat) : Int)) 2) = (((zs.length - 1) / 2 : Nat) : Int) := by
      rw [Int.tdiv_eq_ediv_of_nonneg (by omega)]; unfold wrap64; omega
    rw [w1, w2]; rfl
theorem midF_lt (zs : List Nat) (hz : ∀ x ∈ zs, x < 18446744073709551616) : midF zs < 18446744073709551616 := by
  unfold midF; split
  · omega
  · rename_i hne
    have hpos : 0 < zs.length := List.length_pos_iff.2 hne
    obtain ⟨x, hx, hcx⟩ := place_mem zs ((zs.length - 1) / 2) (by omega)
    rw [← hcx]
    exact decF_lt (codeR_lt (hz x hx))
/-- The code of the one in the middle stands in the middle. -/
theorem code_mid (zs : List Nat) (hz : ∀ x ∈ zs, x < 18446744073709551616) (hne : zs ≠ []) : codeR (midF zs) = (codes zs).getD ((zs.length - 1) / 2) 0 := by
  have hpos : 0 < zs.length := List.length_pos_iff.2 hne
  obtain ⟨x, hx, hcx⟩ := place_mem zs ((zs.length - 1) / 2) (by omega)
  unfold midF
  rw [if_neg hne, ← hcx, dec_code (hz x hx), codeR_canon (hz x hx)]
theorem mid_in (zs : List Nat) (hz : ∀ x ∈ zs, x < 18446744073709551616) (hne : zs ≠ []) :
    0 < same zs (codeR (midF zs)) ∧ 2 * less zs (codeR (midF zs)) ≤ zs.length ∧ 2 * more zs (codeR (midF zs)) ≤ zs.length := by
  have hpos : 0 < zs.length := List.length_pos_iff.2 hne
  have h := (at_place zs ((zs.length - 1) / 2) (by omega) (codeR (midF zs))).1 (code_mid zs hz hne).symm
  have hm := less_more zs (codeR (midF zs))
  rw [less_same] at hm
  omega
end Go.Proofs.Ytjpgdaphkmeijaa.Rl
