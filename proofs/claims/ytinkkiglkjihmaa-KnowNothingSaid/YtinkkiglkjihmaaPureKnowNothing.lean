/- KnowNothing: the plain law. -/
import Derived.Test.YtinkkiglkjihmaaLw04
import Derived.Test.YtinkkiglkjihmaaPrxNothing
set_option linter.unusedVariables false
set_option linter.unusedSimpArgs false
namespace Go.Proofs.Ytinkkiglkjihmaa.Pure
open Go.RowKit Go.Proofs.Ytinkkiglkjihmaa.Pr Go.Proofs.YtinkkiglkjihmaaW.PrintWords Go.Proofs.YtinkkiglkjihmaaW.PrintLast Go.Proofs.YtinkkiglkjihmaaW.PrintMore Go.Proofs.Ytinkkiglkjihmaa.TT Go.Proofs.Ytinkkiglkjihmaa.Ev03 Go.Proofs.Ytinkkiglkjihmaa.Kw Go.Proofs.Ytinkkiglkjihmaa.Ev04

theorem nothing_iff : ∀ (t : Tm), t.ok → t.depth ≤ 60 → t.enc.length ≤ 2000 → (∀ u ∈ t.subs, u.kind ≠ 110) → Dv [] t.str
  | .nonce a b, _, _, _, h => absurd rfl (h (.nonce a b) (by simp [Tm.subs]))
  | .const l, ho, hd, hl, _ => .const (check_str ho hd hl) (by rw [b0_str]; rfl)
  | .hash t, ho, hd, hl, h => by
    have hp : ps (Tm.hash t).str = [t.str] := PFg_str ho hd hl
    refine .built (check_str ho hd hl) (by rw [hp]; simp) (fun p hq => ?_)
    rw [hp, List.mem_singleton] at hq
    subst hq
    exact nothing_iff t ho (by simp only [Tm.depth] at hd; omega) (by simp only [Tm.enc, List.length_cons] at hl; omega) (fun u hu => h u (by simp only [Tm.subs, List.mem_cons]; exact .inr hu))
  | .two k a b, ho, hd, hl, h => by
    have hp : ps (Tm.two k a b).str = [a.str, b.str] := PFg_str ho hd hl
    simp only [Tm.depth] at hd
    simp only [Tm.enc, List.length_cons, List.length_append] at hl
    refine .built (check_str ho (by simp only [Tm.depth]; omega) (by simp only [Tm.enc, List.length_cons, List.length_append]; omega)) (by rw [hp]; simp) (fun p hq => ?_)
    rw [hp] at hq
    rcases List.mem_cons.1 hq with rfl | hq
    · exact nothing_iff a ho.2.1 (by omega) (by omega) (fun u hu => h u (by simp only [Tm.subs, List.mem_cons, List.mem_append]; exact .inr (.inl hu)))
    · rw [List.mem_singleton] at hq; subst hq
      exact nothing_iff b ho.2.2 (by omega) (by omega) (fun u hu => h u (by simp only [Tm.subs, List.mem_cons, List.mem_append]; exact .inr (.inr hu)))
theorem nothing_dv {g : ByteArray} (hg : check g = 0) : Dv [] g ↔ ∀ s ∈ (subsOf g).1, b0 s ≠ 110 := by
  constructor
  · intro d s hs hk
    have hsc := check_subs hg hs
    have hps : ps s = [] := by
      obtain ⟨u, h1, rfl, h3, h4⟩ := (check_iff s).1 hsc
      unfold ps
      rw [PFg_str h1 h3 h4]
      rw [b0_str] at hk
      cases u with
      | nonce a b => rfl
      | const l => rfl
      | hash t => simp [Tm.kind] at hk
      | two k a b => have := h1.1; simp only [Tm.kind] at hk; subst hk; simp [isTwo] at this
    exact dv_free (l := []) (fun s hs => by cases hs) (n := s) (fun s hs => by cases hs) (by rw [hk]; decide) (fun q => absurd hps q) d hs
  · intro h
    obtain ⟨u, h1, rfl, h3, h4⟩ := (check_iff g).1 hg
    rw [subsOf_str h1 h3 h4] at h
    exact nothing_iff u h1 h3 h4 (fun v hv hk => h v.str (List.mem_map.2 ⟨v, hv, rfl⟩) (by rw [b0_str]; exact hk))
theorem bt_b0 {s : ByteArray} (h : 0 < s.size) : bt s 0 = ((b0 s).toNat : Int) := by
  rw [← b0_at s h]
  unfold bt
  simp [h]
theorem nothing_loop (g : ByteArray) (q : List ByteArray) (hv : ∀ s ∈ q, check s = 0) (hq : q.length ≤ 10000) : ∀ (d k i : Nat) (b : Bool), q.length - i = d → i ≤ q.length → d < k →
    (b && (q.drop i).all (fun s => b0 s != 110)) = dvB [] g → check g = 0 → chantrylaw04_KnowNothing.l0 k g b q (q.length : Int) (i : Int) = some true := by
  intro d
  induction d with
  | zero =>
    intro k i b hd hi hk hb hg
    obtain ⟨k, rfl⟩ : ∃ m, k = m + 1 := ⟨k - 1, by omega⟩
    rw [List.drop_eq_nil_of_le (by omega)] at hb
    simp only [List.all_nil, Bool.and_true] at hb
    simp only [chantrylaw04_KnowNothing.l0]
    rw [if_neg (by omega), der_ok (checkL_of (by simp) (by simp)) hg, Option.bind_some, hb]
    simp
  | succ d ih =>
    intro k i b hd hi hk hb hg
    obtain ⟨k, rfl⟩ : ∃ m, k = m + 1 := ⟨k - 1, by omega⟩
    have hlt : i < q.length := by omega
    have E := Lib.hid (succ_wrap i (by omega))
    have hr := Lib.hid (rd_at q i hlt)
    rw [drop_here q i hlt, List.all_cons] at hb
    have hz := (check_size (hv _ (List.getElem_mem hlt))).1
    simp only [chantrylaw04_KnowNothing.l0]
    rw [if_pos (by omega), if_pos (by omega), if_pos (by omega), hr.out, E.out]
    cases b with
    | true =>
      rw [if_pos rfl, if_pos (by omega), bt_b0 hz]
      refine ih k (i + 1) _ (by omega) (by omega) (by omega) ?_ hg
      rw [← hb, Bool.true_and]
      congr 1
      rw [Bool.eq_iff_iff, bne_iff_ne, bne_iff_ne]
      have := kind_eq (b0 q[i]) 110 110 rfl
      rw [ne_eq, this]
    | false =>
      rw [if_neg (by simp)]
      exact ih k (i + 1) _ (by omega) (by omega) (by omega) (by rw [← hb]; simp) hg
theorem nothing_t (k : Nat) (a : ByteArray) : chantrylaw04_KnowNothing.j0 (k + 1) a true = some true := by
  simp only [chantrylaw04_KnowNothing.j0]
  rw [if_pos trivial]
theorem KnowNothing : chantrylaw04_KnowNothing.Pure := by
  intro a _
  obtain ⟨n, hn⟩ : ∃ n, n = 10001 := ⟨_, rfl⟩
  refine ⟨n + 1, ?_⟩
  unfold chantrylaw04_KnowNothing.f
  rw [alive_spec, Option.bind_some, if_pos rfl]
  by_cases h : (a.size : Int) > 400
  · rw [if_pos h]; exact nothing_t n a
  · rw [if_neg h, check_spec _ (by omega), Option.bind_some]
    by_cases hc : check a = 0
    · rw [hc]
      show chantrylaw04_KnowNothing.j0 (n + 1) a false = some true
      simp only [chantrylaw04_KnowNothing.j0]
      rw [if_neg (by simp), ref_subs_spec _ (by omega), Option.bind_some]
      have hn := subs_count hc
      refine nothing_loop a (subsOf a).1 (fun s hs => check_subs hc hs) (by omega) (subsOf a).1.length n 0 true (by omega) (by omega) (by omega) ?_ hc
      rw [List.drop_zero, Bool.true_and, Bool.eq_iff_iff, dvL (checkL_of (by simp) (by simp)) hc, nothing_dv hc, List.all_eq_true]
      simp
    · have : (check a != 0) = true := bne_iff_ne.mpr hc
      rw [this]; exact nothing_t n a
end Go.Proofs.Ytinkkiglkjihmaa.Pure
