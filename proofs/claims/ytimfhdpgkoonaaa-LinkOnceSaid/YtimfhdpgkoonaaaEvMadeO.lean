/- What a Make that is fine tells, and what the parts of a good term are. Plain law. -/
import Derived.Test.YtimfhdpgkoonaaaEv03o
set_option linter.unusedVariables false
set_option linter.unusedSimpArgs false
namespace Go.Proofs.Ytimfhdpgkoonaaa.Ev03
open Go.RowKit Go.Proofs.Ytimfhdpgkoonaaa.Pr Go.Proofs.YtimfhdpgkoonaaaW.PrintWords Go.Proofs.YtimfhdpgkoonaaaW.PrintLast Go.Proofs.YtimfhdpgkoonaaaW.PrintMore Go.Proofs.Ytimfhdpgkoonaaa.TT

/-- A Make that is not fine makes the empty text. -/
theorem made_bad {c : UInt8} {l : List ByteArray} (h : ¬ (makeOf c l).2 = 0) : (makeOf c l).1 = ⟨#[]⟩ := by
  unfold makeOf at h ⊢
  split
  · rfl
  · rename_i h1
    rw [if_neg h1] at h
    split
    · rfl
    · rename_i h2
      rw [h2] at h
      simp only at h
      split
      · rename_i h3; rw [if_pos h3] at h; exact absurd rfl h
      · rfl
/-- A Make that is fine: all its parts are fine, and what it makes. -/
theorem made_ok {c : UInt8} {l : List ByteArray} (h : (makeOf c l).2 = 0) : ar c = (l.length : Int) ∧ (∀ s ∈ l, check s = 0) ∧ check (strOf (c :: (l.map fun s => s.data.toList).flatten)) = 0 ∧ (makeOf c l).1 = strOf (c :: (l.map fun s => s.data.toList).flatten) := by
  unfold makeOf at h ⊢
  split at h
  · simp at h
  · rename_i h1
    rw [if_neg h1]
    split at h
    · rename_i s hs
      have h2 := List.find?_some hs
      simp only [decide_eq_true_eq] at h2
      exact absurd h h2
    · rename_i h2
      split at h
      · rename_i h3
        rw [if_pos h3]
        refine ⟨by omega, ?_, h3, rfl⟩
        intro s hs
        have := List.find?_eq_none.1 h2 s hs
        simpa using this
      · simp at h
theorem made_two {c : UInt8} {s u : ByteArray} (h : (makeOf c [s, u]).2 = 0) : ar c = 2 ∧ check s = 0 ∧ check u = 0 ∧ check (strOf (c :: (s.data.toList ++ u.data.toList))) = 0 ∧ (makeOf c [s, u]).1 = strOf (c :: (s.data.toList ++ u.data.toList)) := by
  obtain ⟨h1, h2, h3, h4⟩ := made_ok h
  have e : ([s, u].map fun s => s.data.toList).flatten = s.data.toList ++ u.data.toList := by simp
  rw [e] at h3 h4
  exact ⟨h1, h2 s (by simp), h2 u (by simp), h3, h4⟩
theorem made_one {c : UInt8} {s : ByteArray} (h : (makeOf c [s]).2 = 0) : ar c = 1 ∧ check s = 0 ∧ check (strOf (c :: s.data.toList)) = 0 ∧ (makeOf c [s]).1 = strOf (c :: s.data.toList) := by
  obtain ⟨h1, h2, h3, h4⟩ := made_ok h
  have e : ([s].map fun s => s.data.toList).flatten = s.data.toList := by simp
  rw [e] at h3 h4
  exact ⟨h1, h2 s (by simp), h3, h4⟩
/-- Two good texts: one is not the beginning of the other. -/
theorem whole {s u : ByteArray} (hs : check s = 0) (hu : check u = 0) (h : s.size ≤ u.size) (e : (u.extract 0 s.size) = s) : u = s := by
  obtain ⟨t, _, ho, rfl, _⟩ := check_ok hs
  obtain ⟨v, _, hv, rfl, _⟩ := check_ok hu
  have e1 : v.enc = t.enc ++ v.enc.drop t.enc.length := by
    have h2 : (v.str.extract 0 t.str.size).data.toList = t.enc := by rw [e]; exact str_data t
    rw [ByteArray.data_extract, Array.toList_extract, List.extract_eq_take_drop, str_data, str_size] at h2
    simp only [Nat.sub_zero, List.drop_zero] at h2
    conv => lhs; rw [← List.take_append_drop t.enc.length v.enc, h2]
  have e2 := (enc_prefix (r := []) (q := v.enc.drop t.enc.length) hv ho (by simpa using e1)).1
  rw [e2]
theorem parts_ok {t : Tm} (ho : t.ok) : ∀ u ∈ t.parts, u.ok ∧ u.depth < t.depth ∧ u.enc.length < t.enc.length := by
  intro u hu
  cases t with
  | nonce a b => simp [Tm.parts] at hu
  | const l => simp [Tm.parts] at hu
  | hash t =>
    simp only [Tm.parts, List.mem_singleton] at hu
    subst hu
    exact ⟨ho, by simp [Tm.depth], by simp [Tm.enc]⟩
  | two k a b =>
    simp only [Tm.parts, List.mem_cons, List.not_mem_nil, or_false] at hu
    have ha := a.enc_pos
    have hb := b.enc_pos
    rcases hu with rfl | rfl
    · exact ⟨ho.2.1, by simp [Tm.depth]; omega, by simp [Tm.enc]; omega⟩
    · exact ⟨ho.2.2, by simp [Tm.depth]; omega, by simp only [Tm.enc, List.length_cons, List.length_append]; omega⟩
theorem check_part {t u : Tm} (ho : t.ok) (hd : t.depth ≤ 60) (hl : t.enc.length ≤ 2000) (hu : u ∈ t.parts) : check u.str = 0 ∧ u.ok ∧ u.str.size < t.str.size := by
  obtain ⟨h1, h2, h3⟩ := parts_ok ho u hu
  exact ⟨check_str h1 (by omega) (by omega), h1, by rw [str_size, str_size]; exact h3⟩
theorem append_str (c : UInt8) (a b : ByteArray) : (strOf (c :: (a.data.toList ++ b.data.toList))).size = 1 + a.size + b.size := by
  rw [strOf_size, List.length_cons, List.length_append, len_eq, len_eq]; omega
theorem two_str (k : UInt8) (a b : Tm) : strOf (k :: (a.str.data.toList ++ b.str.data.toList)) = (Tm.two k a b).str := by
  rw [str_data, str_data]; rfl
theorem hash_str (a : Tm) : strOf (104 :: a.str.data.toList) = (Tm.hash a).str := by
  rw [str_data]; rfl
end Go.Proofs.Ytimfhdpgkoonaaa.Ev03
