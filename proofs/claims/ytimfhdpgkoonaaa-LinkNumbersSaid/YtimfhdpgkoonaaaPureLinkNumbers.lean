/- LinkNumbers, the plain law: the second letter is number two, and its tag is another one. -/
import Derived.Test.YtimfhdpgkoonaaaAl06
import Derived.Test.YtimfhdpgkoonaaaPrxNums
set_option linter.unusedVariables false
namespace Go.Proofs.Ytimfhdpgkoonaaa.Pure
open Go.RowKit Go.Proofs.Ytimfhdpgkoonaaa.Pr Go.Proofs.YtimfhdpgkoonaaaW.PrintWords Go.Proofs.YtimfhdpgkoonaaaW.PrintLast Go.Proofs.Ytimfhdpgkoonaaa.TT Go.Proofs.Ytimfhdpgkoonaaa.Ev03 Go.Proofs.Ytimfhdpgkoonaaa.L06 Go.Proofs.Ytimfhdpgkoonaaa.Iter

theorem depth_two (c : UInt8) (t u : Tm) : (Tm.two c t u).depth = max t.depth u.depth + 1 := rfl
theorem enc_two (c : UInt8) (t u : Tm) : (Tm.two c t u).enc.length = 1 + t.enc.length + u.enc.length := by simp [Tm.enc]; omega
theorem text_bytes (a0 a1 a2 : Int) (l : List Int) (h0 : 0 ≤ a0 ∧ a0 ≤ 255) (h1 : 0 ≤ a1 ∧ a1 ≤ 255) (hl : ∀ x ∈ l, 0 ≤ x ∧ x ≤ 255) : ∀ x ∈ textOf a0 a1 a2 l, 0 ≤ x ∧ x ≤ 255 := by
  intro x hx
  unfold textOf at hx
  rcases List.mem_append.1 hx with h | h
  · simp only [List.mem_cons, List.not_mem_nil, or_false] at h
    rcases h with rfl | rfl | rfl | rfl | rfl | rfl <;> omega
  · exact hl x h
theorem wf_u8 {x : Int} (h : (Lit.int .u8 x).wf = true) : 0 ≤ x ∧ x ≤ 255 := by
  simp [Lit.wf, IntKind.min, IntKind.max, IntKind.bits, IntKind.signed] at h
  omega

set_option maxHeartbeats 1600000 in
theorem LinkNumbers : chantrylaw06_LinkNumbers.Pure := by
  intro a0 l1 l2 h0 h1 h1' h1w h2 h2' h2w
  refine ⟨6000, ?_⟩
  unfold chantrylaw06_LinkNumbers.f
  rw [alive06 6000 (by decide), Option.bind_some, if_pos rfl]
  have hj1 : chantrylaw06_LinkNumbers.j0 6000 a0 l1 l2 true = some true := by
    rw [show (6000 : Nat) = 5999 + 1 from rfl]; simp only [chantrylaw06_LinkNumbers.j0]; rw [if_pos trivial]
  by_cases c1 : (a0.size : Int) > 200
  · rw [if_pos c1, hj1]
  rw [if_neg c1]
  by_cases c2 : (l1.length : Int) > 500
  · rw [if_pos c2, hj1]
  rw [if_neg c2]
  by_cases c3 : (l2.length : Int) > 500
  · rw [show decide ((l2.length : Int) > 500) = true from decide_eq_true c3, hj1]
  rw [show decide ((l2.length : Int) > 500) = false from decide_eq_false c3]
  rw [show (6000 : Nat) = 5999 + 1 from rfl]
  simp only [chantrylaw06_LinkNumbers.j0]
  rw [if_neg (by decide), send_spec _ _ _ _ _ _ _ (by omega), Option.bind_some]
  have two34 : twoB 3 4 = true := rfl
  have hb1 : ∀ x ∈ l1, 0 ≤ x ∧ x ≤ 255 := fun x hx => wf_u8 (h1w x hx)
  have hb2 : ∀ x ∈ l2, 0 ≤ x ∧ x ≤ 255 := fun x hx => wf_u8 (h2w x hx)
  have E1 : ((0 : Int) + 1) % 4294967296 = 1 := by decide
  have E2 : ((1 : Int) + 1) % 4294967296 = 2 := by decide
  have tl1 := text_len 3 4 1 l1
  have tl2 := text_len 3 4 2 l2
  have tl3 := text_len 3 4 1 l2
  have T1 : tagOf a0 3 4 1 l1 = two2 109 a0 (btm (textOf 3 4 1 l1)) := by unfold tagOf; rw [if_neg (by omega)]
  have T2 : tagOf a0 3 4 2 l2 = two2 109 a0 (btm (textOf 3 4 2 l2)) := by unfold tagOf; rw [if_neg (by omega)]
  have T3 : tagOf a0 3 4 1 l2 = two2 109 a0 (btm (textOf 3 4 1 l2)) := by unfold tagOf; rw [if_neg (by omega)]
  have S1 : sendOf a0 0 0 0 3 4 l1 = if (two2 109 a0 (btm (textOf 3 4 1 l1))).2 = 0 then (a0, 1, 0, 0, 3, 4, 1, l1, (two2 109 a0 (btm (textOf 3 4 1 l1))).1, 0) else (a0, 0, 0, 0, 0, 0, 0, [], ⟨#[]⟩, (two2 109 a0 (btm (textOf 3 4 1 l1))).2) := by
    unfold sendOf; rw [if_pos two34, if_neg (by decide), E1, T1]
  have S2 : sendOf a0 1 0 0 3 4 l2 = if (two2 109 a0 (btm (textOf 3 4 2 l2))).2 = 0 then (a0, 2, 0, 0, 3, 4, 2, l2, (two2 109 a0 (btm (textOf 3 4 2 l2))).1, 0) else (a0, 1, 0, 0, 0, 0, 0, [], ⟨#[]⟩, (two2 109 a0 (btm (textOf 3 4 2 l2))).2) := by
    unfold sendOf; rw [if_pos two34, if_neg (by decide), E2, T2]
  have S3 : sendOf a0 0 0 0 3 4 l2 = if (two2 109 a0 (btm (textOf 3 4 1 l2))).2 = 0 then (a0, 1, 0, 0, 3, 4, 1, l2, (two2 109 a0 (btm (textOf 3 4 1 l2))).1, 0) else (a0, 0, 0, 0, 0, 0, 0, [], ⟨#[]⟩, (two2 109 a0 (btm (textOf 3 4 1 l2))).2) := by
    unfold sendOf; rw [if_pos two34, if_neg (by decide), E1, T3]
  have hz : ∀ bs : List Int, bs.length ≤ 506 → (btm bs).depth ≤ 26 ∧ (btm bs).enc.length ≤ 700 := by
    intro bs hbs
    refine ⟨btm_depth bs (by omega), ?_⟩
    have := btm_len bs
    unfold nP at this
    omega
  have hsz : check a0 = 0 → ∀ t, read a0 = some t → t.enc.length ≤ 200 := by
    intro hc t ht
    obtain ⟨_, e⟩ := read_some ht
    have := str_size t
    rw [← e] at this
    omega
  -- what a tag comes to, of a key that is a term
  have hval : check a0 = 0 → ∀ t, read a0 = some t → ∀ bs : List Int, bs.length ≤ 506 → two2 109 a0 (btm bs) = if t.depth ≤ 59 then ((Tm.two 109 t (btm bs)).str, 0) else (⟨#[]⟩, 3) := by
    intro hc t ht bs hbs
    unfold two2
    rw [if_pos hc, ht]
    simp only [Option.elim]
    have := hz bs hbs
    have := hsz hc t ht
    rw [depth_two, enc_two]
    by_cases h5 : t.depth ≤ 59
    · rw [if_pos h5, if_pos (by omega)]
    · rw [if_neg h5, if_neg (by omega)]
  by_cases hc : check a0 = 0
  · obtain ⟨t, ht, ho, e, hd, _⟩ := check_ok hc
    by_cases h5 : t.depth ≤ 59
    · rw [S1, hval hc t ht _ (by omega), if_pos h5, if_pos rfl]
      simp only []
      rw [send_spec _ _ _ _ _ _ _ (by omega), S2, hval hc t ht _ (by omega), if_pos h5, if_pos rfl, Option.bind_some]
      simp only []
      rw [if_pos trivial, if_pos trivial, if_pos trivial, if_pos trivial, if_pos trivial]
      have hne : ¬ (Tm.two 109 t (btm (textOf 3 4 1 l1))).str.toList = (Tm.two 109 t (btm (textOf 3 4 2 l2))).str.toList := by
        intro h
        have h6 := enc_inj (show (Tm.two 109 t (btm (textOf 3 4 1 l1))).ok from ⟨rfl, ho, btm_ok _⟩) (show (Tm.two 109 t (btm (textOf 3 4 2 l2))).ok from ⟨rfl, ho, btm_ok _⟩) (strOf_inj ((toList_iff _ _).1 h))
        injection h6 with _ _ h7
        have h8 := btm_inj (text_bytes 3 4 1 l1 (by omega) (by omega) hb1) (text_bytes 3 4 2 l2 (by omega) (by omega) hb2) (by rw [h7])
        have h9 := congrArg (fun l => l.getD 5 0) h8
        revert h9
        unfold textOf
        simp
      rw [if_neg hne, if_pos trivial]
      simp
    · rw [S1, hval hc t ht _ (by omega), if_neg h5, if_neg (by decide)]
      simp only []
      rw [send_spec _ _ _ _ _ _ _ (by omega), S3, hval hc t ht _ (by omega), if_neg h5, if_neg (by decide), Option.bind_some]
      simp only []
      have hdep : chantryref03_Depth.f 5999 a0 = some (t.depth : Int) := by
        rw [e]; exact depth_spec 5999 t ho (by have := hsz hc t ht; omega) (by have := hsz hc t ht; omega)
      rw [if_neg (by decide), if_pos trivial, check_spec 5999 (by decide), Option.bind_some, if_pos hc, hdep, Option.bind_some]
      rw [decide_eq_true (by omega)]
  · have hv : ∀ bs : List Int, two2 109 a0 (btm bs) = (⟨#[]⟩, check a0) := by intro bs; unfold two2; rw [if_neg hc]
    rw [S1, hv, if_neg hc]
    simp only []
    rw [send_spec _ _ _ _ _ _ _ (by omega), S3, hv, if_neg hc, Option.bind_some]
    simp only []
    rw [if_neg hc, if_pos trivial, check_spec 5999 (by decide), Option.bind_some, if_neg hc]
end Go.Proofs.Ytimfhdpgkoonaaa.Pure
