/- The reference's Known and Derives are the program's. -/
import Derived.Test.YtinkkiglkjihmaaEv04b
import Derived.Test.YtinkkiglkjihmaaPrxD
set_option linter.unusedVariables false
set_option linter.unusedSimpArgs false
namespace Go.Proofs.Ytinkkiglkjihmaa.Ev04
open Go.RowKit Go.Proofs.Ytinkkiglkjihmaa.Pr Go.Proofs.YtinkkiglkjihmaaW.PrintWords Go.Proofs.YtinkkiglkjihmaaW.PrintLast Go.Proofs.YtinkkiglkjihmaaW.PrintMore Go.Proofs.Ytinkkiglkjihmaa.TT Go.Proofs.Ytinkkiglkjihmaa.Ev03 Go.Proofs.Ytinkkiglkjihmaa.Kw

theorem all_l1 (l q : List ByteArray) (j : Nat) (hj : j < 1000) (hq : q.length ≤ 2000) : ∀ (d i k : Nat) (a : List ByteArray), q.length - i = d → i ≤ q.length → a.length + d ≤ 900000 → 1000000 < k →
    chantryref04_all.l1 (k + d + 1) l a (j : Int) q (i : Int) = chantryref04_all.l0 k l (putsL (q.drop i) a) ((j + 1 : Nat) : Int) := by
  intro d
  induction d with
  | zero =>
    intro i k a hd hi ha hk
    simp only [chantryref04_all.l1]
    rw [if_neg (by omega), List.drop_eq_nil_of_le (by omega), succ_wrap j (by omega)]; rfl
  | succ d ih =>
    intro i k a hd hi ha hk
    have hlt : i < q.length := by omega
    have E := Lib.hid (succ_wrap i (by omega))
    have hr := Lib.hid (rd_at q i hlt)
    have hd2 := Lib.hid (drop_here q i hlt)
    have h2 := (putL_len q[i] a false).2.1
    rw [show k + (d + 1) + 1 = (k + d + 1) + 1 by omega]
    conv => lhs; unfold chantryref04_all.l1
    rw [if_pos (by omega), if_pos (by omega), hr.out, hd2.out, ref_put _ a _ (by omega) (by omega), Option.bind_some, E.out, ih (i + 1) k _ (by omega) (by omega) (by omega) hk]
    rfl
set_option maxRecDepth 100000 in
theorem all_l0 (l : List ByteArray) (hl : l.length ≤ 201) (hv : ∀ t ∈ l, check t = 0) : ∀ (d i k : Nat) (a : List ByteArray), l.length - i = d → i ≤ l.length → a.length ≤ 2000 * i → 1010000 + 2010 * d < k →
    chantryref04_all.l0 k l a (i : Int) = some (allL (l.drop i) a) := by
  intro d
  induction d with
  | zero =>
    intro i k a hd hi ha hk
    obtain ⟨k, rfl⟩ : ∃ m, k = m + 1 := ⟨k - 1, by omega⟩
    simp only [chantryref04_all.l0]
    rw [if_neg (by omega), List.drop_eq_nil_of_le (by omega)]; rfl
  | succ d ih =>
    intro i k a hd hi ha hk
    have hlt : i < l.length := by omega
    have hr := Lib.hid (rd_at l i hlt)
    have hd2 := Lib.hid (drop_here l i hlt)
    have hc := subs_count (hv _ (List.getElem_mem hlt))
    have hp := puts_len (subsOf l[i]).1 a
    obtain ⟨m, rfl⟩ : ∃ m, k = m + (subsOf l[i]).1.length + 1 + 1 := ⟨k - (subsOf l[i]).1.length - 2, by omega⟩
    have hsub := Lib.hid (ref_subs_spec (m + (subsOf l[i]).1.length + 1) (by omega) l[i])
    have hfold : allL (l[i] :: l.drop (i + 1)) a = allL (l.drop (i + 1)) (putsL (subsOf l[i]).1 a) := rfl
    rw [hd2.out, hfold]
    generalize subsOf l[i] = q at hc hp hk hsub ⊢
    have h1 := all_l1 l q.1 i (by omega) hc q.1.length 0 m a (Nat.sub_zero _) (Nat.zero_le _) (by omega) (by omega)
    rw [List.drop_zero] at h1
    conv => lhs; unfold chantryref04_all.l0
    rw [if_pos (by omega), if_pos (by omega), hr.out, hsub.out, Option.bind_some]
    refine Eq.trans h1 ?_
    exact ih (i + 1) m _ (by omega) (by omega) (by omega) (by omega)
theorem ref_all (l : List ByteArray) (hl : l.length ≤ 201) (hv : ∀ t ∈ l, check t = 0) (k : Nat) (hk : 1500000 ≤ k) : chantryref04_all.f k l = some (allL l []) := by
  unfold chantryref04_all.f
  have := all_l0 l hl hv l.length 0 k [] (by omega) (by omega) (by simp) (by omega)
  rw [List.drop_zero] at this
  exact this
theorem all_uni (l : List ByteArray) (hv : ∀ t ∈ l, check t = 0) : Uni (allL l []) := by
  refine ⟨fun s hs p hp => ?_, fun s hs => ?_⟩
  · rcases (all_mem s l []).1 hs with h | ⟨t, ht, h⟩
    · cases h
    · exact (all_mem p l []).2 (.inr ⟨t, ht, subs_parts (hv t ht) h hp⟩)
  · rcases (all_mem s l []).1 hs with h | ⟨t, ht, h⟩
    · cases h
    · exact check_subs (hv t ht) h

theorem ref_known (l : List ByteArray) : ∃ K, ∀ k, K ≤ k → chantryref04_Known.f k l = some (knownOf l) := by
  by_cases h : checkL l = 0
  · obtain ⟨hn, he⟩ := checkL_ok.1 h
    have hv := errOf_ok.1 he
    have hlen := all_len l [] hv
    obtain ⟨K, C, c1, c2, c3, c4⟩ := ref_close (l := l) (u := allL l []) (by omega) (all_uni l hv) (by simp at hlen; omega) (fun x hx => (all_mem x l []).2 (.inr ⟨x, hx, self_subs (hv x hx)⟩))
    have hC : C = knL l := by
      refine rises_ext c2 (knL_rises l) (fun x => ?_)
      rw [knL_mem hn he]
      constructor
      · intro hx
        have hu := c3 x hx
        exact ⟨((all_mem x l []).1 hu).elim (fun h => by cases h) id, (c4 x hu).1 hx⟩
      · rintro ⟨h1, h2⟩
        exact (c4 x ((all_mem x l []).2 (.inr h1))).2 h2
    refine ⟨K + 1500000, fun k hk => ?_⟩
    unfold chantryref04_Known.f
    rw [ref_check k (by omega), Option.bind_some, if_pos h, ref_all l (by omega) hv k (by omega), Option.bind_some, c1 k (by omega), Option.bind_some, hC]
    unfold knownOf
    rw [if_neg (by omega), if_pos he]
  · refine ⟨5000, fun k hk => ?_⟩
    unfold chantryref04_Known.f
    rw [ref_check k (by omega), Option.bind_some, if_neg h]
    unfold knownOf
    unfold checkL at h ⊢
    split
    · rfl
    · rename_i q
      rw [if_neg q] at h
      rw [if_neg h]
theorem ref_derives (l : List ByteArray) (g : ByteArray) : ∃ K, ∀ k, K ≤ k → chantryref04_Derives.f k l g = some (derOf l g) := by
  by_cases h : checkL l = 0
  · obtain ⟨hn, he⟩ := checkL_ok.1 h
    have hv := errOf_ok.1 he
    by_cases hg : check g = 0
    · have hv2 : ∀ t ∈ l ++ [g], check t = 0 := fun t ht => (List.mem_append.1 ht).elim (hv t) (fun e => by rw [List.mem_singleton.1 e]; exact hg)
      have hlen := all_len (l ++ [g]) [] hv2
      obtain ⟨K, C, c1, c2, c3, c4⟩ := ref_close (l := l) (u := allL (l ++ [g]) []) (by omega) (all_uni _ hv2) (by simp at hlen; omega) (fun x hx => (all_mem x _ []).2 (.inr ⟨x, by simp [hx], self_subs (hv x hx)⟩))
      have hCl : C.length ≤ 1000000 := by have := nodup_len _ _ (rises_nodup c2) c3; simp at hlen; omega
      have hgU : g ∈ allL (l ++ [g]) [] := (all_mem g _ []).2 (.inr ⟨g, by simp, self_subs hg⟩)
      refine ⟨K + 1500000, fun k hk => ?_⟩
      unfold chantryref04_Derives.f
      rw [ref_check k (by omega), Option.bind_some, if_pos h, check_spec k (by omega), Option.bind_some, if_pos hg, Option.bind_some, List.nil_append, if_pos (by simp; omega), Option.bind_some, if_pos (by omega), ref_all (l ++ [g]) (by simp; omega) hv2 k (by omega), Option.bind_some, c1 k (by omega), Option.bind_some, ref_in k C g hCl (by omega), Option.bind_some]
      unfold derOf
      rw [if_neg (by omega), if_pos he, if_pos hg]
      congr 2
      rw [Bool.eq_iff_iff, decide_eq_true_iff, c4 g hgU, dvB_iff hn he hg]
    · refine ⟨5000, fun k hk => ?_⟩
      unfold chantryref04_Derives.f
      rw [ref_check k (by omega), Option.bind_some, if_pos h, check_spec k (by omega), Option.bind_some, if_neg hg]
      unfold derOf
      rw [if_neg (by omega), if_pos he, if_neg hg]
  · refine ⟨5000, fun k hk => ?_⟩
    unfold chantryref04_Derives.f
    rw [ref_check k (by omega), Option.bind_some, if_neg h]
    unfold derOf
    unfold checkL at h ⊢
    split
    · rfl
    · rename_i q
      rw [if_neg q] at h
      rw [if_neg h]

end Go.Proofs.Ytinkkiglkjihmaa.Ev04
