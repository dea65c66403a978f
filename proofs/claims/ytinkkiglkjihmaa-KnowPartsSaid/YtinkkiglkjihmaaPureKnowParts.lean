/- KnowParts: the plain law. -/
import Derived.Test.YtinkkiglkjihmaaLw04
import Derived.Test.YtinkkiglkjihmaaPrxParts
set_option linter.unusedVariables false
set_option linter.unusedSimpArgs false
namespace Go.Proofs.Ytinkkiglkjihmaa.Pure
open Go.RowKit Go.Proofs.Ytinkkiglkjihmaa.Pr Go.Proofs.YtinkkiglkjihmaaW.PrintWords Go.Proofs.YtinkkiglkjihmaaW.PrintLast Go.Proofs.YtinkkiglkjihmaaW.PrintMore Go.Proofs.Ytinkkiglkjihmaa.TT Go.Proofs.Ytinkkiglkjihmaa.Ev03 Go.Proofs.Ytinkkiglkjihmaa.Kw Go.Proofs.Ytinkkiglkjihmaa.Ev04

theorem found_loop (q : List ByteArray) (hq : q.length ≤ 100000) (t : ByteArray) (l : List ByteArray) (j : Nat) (hj : j < l.length) (hl : l.length ≤ 1000) (ht : t ∈ q) : ∀ (d k i : Nat) (f : Bool), q.length - i = d → i ≤ q.length → (f = true ∨ t ∈ q.drop i) →
    chantrylaw04_KnowParts.l2 (k + d + 1) q t f l (l.length : Int) (j : Int) q (q.length : Int) (i : Int) = chantrylaw04_KnowParts.l1 k q l (l.length : Int) ((j + 1 : Nat) : Int) := by
  intro d
  induction d with
  | zero =>
    intro k i f hd hi hf
    rw [List.drop_eq_nil_of_le (by omega)] at hf
    have : f = true := hf.elim id (fun h => by cases h)
    subst this
    conv => lhs; unfold chantrylaw04_KnowParts.l2
    rw [if_neg (by omega), if_pos rfl, succ_wrap j (by omega)]
  | succ d ih =>
    intro k i f hd hi hf
    have hlt : i < q.length := by omega
    have E := Lib.hid (succ_wrap i (by omega))
    have hr := Lib.hid (rd_at q i hlt)
    rw [drop_here q i hlt] at hf
    rw [show k + (d + 1) + 1 = (k + d + 1) + 1 by omega]
    conv => lhs; unfold chantrylaw04_KnowParts.l2
    rw [if_pos (by omega), if_pos (by omega), if_pos (by omega), hr.out, E.out]
    cases f with
    | true => rw [if_pos rfl]; exact ih k (i + 1) true (by omega) (by omega) (.inl rfl)
    | false =>
      rw [if_neg (by simp)]
      refine ih k (i + 1) _ (by omega) (by omega) ?_
      rcases hf with h | h
      · cases h
      · rcases List.mem_cons.1 h with h | h
        · left; rw [beq_iff_eq]; exact (toList_iff _ _).2 h.symm
        · exact .inr h
theorem all_found (q : List ByteArray) (hq : q.length ≤ 100000) (l : List ByteArray) (hl : l.length ≤ 1000) (hm : ∀ t ∈ l, t ∈ q) : ∀ (d k i : Nat), l.length - i = d → i ≤ l.length → d * (q.length + 2) < k →
    chantrylaw04_KnowParts.l1 k q l (l.length : Int) (i : Int) = some true := by
  intro d
  induction d with
  | zero =>
    intro k i hd hi hk
    obtain ⟨k, rfl⟩ : ∃ m, k = m + 1 := ⟨k - 1, by omega⟩
    conv => lhs; unfold chantrylaw04_KnowParts.l1
    rw [if_neg (by omega)]
  | succ d ih =>
    intro k i hd hi hk
    have hlt : i < l.length := by omega
    rw [Nat.succ_mul] at hk
    obtain ⟨m, rfl⟩ : ∃ m, k = m + q.length + 1 + 1 := ⟨k - q.length - 2, by omega⟩
    have hr := Lib.hid (rd_at l i hlt)
    conv => lhs; unfold chantrylaw04_KnowParts.l1
    rw [if_pos (by omega), if_pos (by omega), if_pos (by omega), hr.out]
    have h1 := found_loop q hq l[i] l i hlt hl (hm _ (List.getElem_mem hlt)) q.length m 0 false (by omega) (by omega) (.inr (by rw [List.drop_zero]; exact hm _ (List.getElem_mem hlt)))
    exact h1.trans (ih m (i + 1) (by omega) (by omega) (by omega))
theorem rises_at {q : List ByteArray} (h : Rises q) {i j : Nat} (hj : j < q.length) (hij : i < j) : (q[i]'(by omega)).data.toList < q[j].data.toList := List.pairwise_iff_getElem.1 h i j _ _ hij
theorem parts_loop (l q : List ByteArray) (hl : l.length ≤ 20) (hv : ∀ s ∈ l, check s = 0) (hq : q.length ≤ 50000) (hr : Rises q) (hin : ∀ t ∈ q, ∃ s ∈ l, t ∈ (subsOf s).1) (hm : ∀ t ∈ l, t ∈ q) : ∀ (d k i : Nat), q.length - i = d → i ≤ q.length → 5000000 + d < k →
    chantrylaw04_KnowParts.l0 k l q q (q.length : Int) (i : Int) = some true := by
  intro d
  induction d with
  | zero =>
    intro k i hd hi hk
    obtain ⟨k, rfl⟩ : ∃ m, k = m + 1 := ⟨k - 1, by omega⟩
    have hbig : l.length * (q.length + 2) ≤ 20 * 50002 := Nat.mul_le_mul hl (by omega)
    conv => lhs; unfold chantrylaw04_KnowParts.l0
    rw [if_neg (by omega)]
    exact all_found q (by omega) l (by omega) hm l.length k 0 (by omega) (by omega) (by omega)
  | succ d ih =>
    intro k i hd hi hk
    obtain ⟨k, rfl⟩ : ∃ m, k = m + 1 := ⟨k - 1, by omega⟩
    have hlt : i < q.length := by omega
    have E := Lib.hid (succ_wrap i (by omega))
    have hrd := Lib.hid (rd_at q i hlt)
    have IH := Lib.hid (ih k (i + 1) (by omega) (by omega) (by omega))
    conv => lhs; unfold chantrylaw04_KnowParts.l0
    rw [if_pos (by omega), if_pos (by omega), if_pos (by omega), hrd.out, has_spec l _ (by omega) hv k (by omega), Option.bind_some, if_pos (decide_eq_true (hin _ (List.getElem_mem hlt))), E.out]
    by_cases h0 : (i : Int) > 0
    · have e1 : wrap64 ((i : Int) - 1) = ((i - 1 : Nat) : Int) := by unfold wrap64; omega
      have hp := rises_at hr hlt (show i - 1 < i by omega)
      rw [if_pos h0, e1, if_pos (by omega), if_pos (by omega), rd_at q (i - 1) (by omega), less_iff, if_pos (decide_eq_true hp), IH.out]
    · rw [if_neg h0, IH.out]
theorem KnowParts (l : List ByteArray) (hl : l.length ≤ maxLen) : ∃ k, chantrylaw04_KnowParts.f k l = some true := by
  obtain ⟨K1, f, f1, f2⟩ := few_spec l hl
  obtain ⟨n, hnn⟩ : ∃ n, n = K1 + 6000000 := ⟨_, rfl⟩
  refine ⟨n + 1, ?_⟩
  have jt : chantrylaw04_KnowParts.j0 (n + 1) l true = some true := by
    simp only [chantrylaw04_KnowParts.j0]
    rw [if_pos trivial]
  unfold chantrylaw04_KnowParts.f
  rw [alive_spec, Option.bind_some, if_pos rfl, f1 _ (by omega), Option.bind_some]
  cases f with
  | false => rw [if_neg (by simp)]; exact jt
  | true =>
    have hn := f2 rfl
    rw [if_pos rfl, right_spec _ (by omega), Option.bind_some]
    by_cases hr : checkL l = 0
    · obtain ⟨_, hv⟩ := ck_of hr
      have hsm := knL_small hr 20 hn
      rw [decide_eq_true hr]
      show chantrylaw04_KnowParts.j0 (n + 1) l false = some true
      simp only [chantrylaw04_KnowParts.j0]
      rw [if_neg (by simp), known_ok hr, Option.bind_some, if_pos rfl]
      exact parts_loop l (knL l) hn hv (by omega) (knL_rises l) (fun t ht => ((knL_in hr t).1 ht).1) (fun t ht => (knL_in hr t).2 ⟨⟨t, ht, self_subs (hv t ht)⟩, .mem ht⟩) (knL l).length n 0 (by omega) (by omega) (by omega)
    · rw [decide_eq_false hr]; exact jt
end Go.Proofs.Ytinkkiglkjihmaa.Pure
