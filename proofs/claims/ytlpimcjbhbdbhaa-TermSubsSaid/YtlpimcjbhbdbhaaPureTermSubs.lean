/- TermSubs: the subs of a good text are the text itself and the subs of its parts, in order; each part is shorter. No condition. -/
import Derived.Test.YtlpimcjbhbdbhaaEvMade
import Derived.Test.YtlpimcjbhbdbhaaPrx6
set_option linter.unusedVariables false
set_option linter.unusedSimpArgs false
namespace Go.Proofs.Ytlpimcjbhbdbhaa.Pure
open Go.RowKit Go.Proofs.Ytlpimcjbhbdbhaa.Pr Go.Proofs.YtlpimcjbhbdbhaaW.PrintWords Go.Proofs.YtlpimcjbhbdbhaaW.PrintLast Go.Proofs.Ytlpimcjbhbdbhaa.Ev03 Go.Proofs.Ytlpimcjbhbdbhaa.TT

theorem sub_round (k : Nat) (x0 : ByteArray) (hk : 3000 ≤ k) (pre post : List ByteArray) (u : Tm) (x50 : List ByteArray) (i : Nat) (hp : pre.length ≤ 100000) (hi50 : i < x50.length) (hx : x50.length ≤ 100) (hu : rdOf ByteArray.empty x50 (i : Int) = u.str) (ho : u.ok) (hc : check u.str = 0) (hsz : u.str.size < x0.size) :
    chantrylaw03_TermSubs.l0 (k + 1) x0 (pre ++ u.subs.map Tm.str ++ post) (pre.length : Int) x50 (x50.length : Int) (i : Int) =
      chantrylaw03_TermSubs.l0 k x0 (pre ++ u.subs.map Tm.str ++ post) ((pre ++ u.subs.map Tm.str).length : Int) x50 (x50.length : Int) ((i + 1 : Nat) : Int) := by
  have hsub := subs_small u.str
  rw [subsOf_ok hc (read_str u ho)] at hsub
  simp only [List.length_map] at hsub
  have E : Hid (wrap64 ((i : Int) + 1) = ((i + 1 : Nat) : Int)) := by apply Lib.hid; rw [wr (by omega) (by omega)]; omega
  have E2 : Hid (wrap64 ((pre.length : Int) + (u.subs.length : Int)) = ((pre.length + u.subs.length : Nat) : Int)) := by apply Lib.hid; rw [wr (by omega) (by omega)]; omega
  simp only [chantrylaw03_TermSubs.l0]
  rw [if_pos (by omega), if_pos (by omega), if_pos (by omega), hu]
  simp only [term_Subs.f, term_subs.f, Option.bind_some]
  rw [subsOf_ok hc (read_str u ho)]
  simp only [List.length_map, E2.out, List.length_append]
  rw [if_pos trivial, if_neg (by omega), if_pos (by omega), if_pos (by omega), if_pos (by omega)]
  have q : (((pre ++ u.subs.map Tm.str ++ post).take ((pre.length + u.subs.length : Nat) : Int).toNat).drop ((pre.length : Nat) : Int).toNat) = u.subs.map Tm.str := by
    rw [Int.toNat_natCast, Int.toNat_natCast]
    have e : pre.length + u.subs.length = (pre ++ u.subs.map Tm.str).length := by simp
    rw [e, List.take_left, List.drop_left]
  rw [q, same_self k _ (by simp; omega) (by simp; omega), Option.bind_some, if_pos rfl, if_neg (by omega), E.out]
theorem sub_end (k : Nat) (x0 : ByteArray) (l x50 : List ByteArray) (n : Int) (hn : n = l.length) : chantrylaw03_TermSubs.l0 (k + 1) x0 l n x50 (x50.length : Int) (x50.length : Int) = some true := by
  simp only [chantrylaw03_TermSubs.l0]
  rw [if_neg (by omega)]
  simp [hn]
theorem subs_j0 (k : Nat) (hk : 4000 ≤ k) (x0 : ByteArray) (t : Tm) (hr : read x0 = some t) (hc : check x0 = 0) : chantrylaw03_TermSubs.j0 k x0 (t.subs.map Tm.str) false = some true := by
  obtain ⟨k, rfl⟩ : ∃ m, k = m + 4 := ⟨k - 4, by omega⟩
  simp only [chantrylaw03_TermSubs.j0]
  rw [if_neg (by decide)]
  simp only [term_Parts.f, Option.bind_some]
  rw [partsOf_ok hc hr]
  obtain ⟨t', ht', ho, rfl, hd, hl⟩ := check_ok hc
  obtain rfl : t = t' := by rw [hr] at ht'; exact Option.some.inj ht'
  have P := fun u hu => check_part (t := t) (u := u) ho hd hl hu
  cases t with
  | nonce a b => exact sub_end _ _ _ _ _ (by simp [Tm.subs])
  | const l => exact sub_end _ _ _ _ _ (by simp [Tm.subs])
  | hash a =>
    obtain ⟨p1, p2, p3⟩ := P a (by simp [Tm.parts])
    have e : (Tm.hash a).subs.map Tm.str = [(Tm.hash a).str] ++ a.subs.map Tm.str ++ [] := by simp [Tm.subs]
    have r1 := sub_round (k + 2) (Tm.hash a).str (by omega) [(Tm.hash a).str] [] a ((Tm.hash a).parts.map Tm.str) 0 (by simp) (by simp [Tm.parts]) (by simp [Tm.parts]) rfl p2 p1 p3
    rw [e]
    refine Eq.trans r1 ?_
    exact sub_end _ _ _ _ _ (by simp)
  | two c a b =>
    obtain ⟨p1, p2, p3⟩ := P a (by simp [Tm.parts])
    obtain ⟨q1, q2, q3⟩ := P b (by simp [Tm.parts])
    have c1 := a.subs_len
    have e : (Tm.two c a b).subs.map Tm.str = [(Tm.two c a b).str] ++ a.subs.map Tm.str ++ b.subs.map Tm.str := by simp [Tm.subs]
    have z : a.enc.length ≤ 2000 := by have := str_size a; have := check_small p1; omega
    have r1 := sub_round (k + 2) (Tm.two c a b).str (by omega) [(Tm.two c a b).str] (b.subs.map Tm.str) a ((Tm.two c a b).parts.map Tm.str) 0 (by simp) (by simp [Tm.parts]) (by simp [Tm.parts]) rfl p2 p1 p3
    have r2 := sub_round (k + 1) (Tm.two c a b).str (by omega) ([(Tm.two c a b).str] ++ a.subs.map Tm.str) [] b ((Tm.two c a b).parts.map Tm.str) 1 (by simp; omega) (by simp [Tm.parts]) (by simp [Tm.parts]) rfl q2 q1 q3
    rw [e]
    refine Eq.trans r1 ?_
    rw [List.append_nil] at r2
    refine Eq.trans r2 ?_
    exact sub_end _ _ _ _ _ rfl
theorem TermSubs : chantrylaw03_TermSubs.Pure := by
  intro a0 _
  refine ⟨4000, ?_⟩
  unfold chantrylaw03_TermSubs.f
  rw [alive_spec, Option.bind_some, if_pos rfl]
  by_cases h : (a0.size : Int) > 600
  · rw [if_pos h]
  rw [if_neg h]
  simp only [term_Subs.f, term_subs.f, term_Check.f, Option.bind_some]
  by_cases hc : check a0 = 0
  · obtain ⟨t, hr, ho, e, hd, hl⟩ := check_ok hc
    rw [subsOf_ok hc hr]
    obtain ⟨r, es, _⟩ := t.subs_eq
    simp only
    rw [if_pos trivial, if_neg (by rw [es]; simp; omega), if_pos (by rw [es]; simp)]
    have q : rdOf ByteArray.empty (t.subs.map Tm.str) 0 = a0 := by rw [es, e]; rfl
    rw [q, bne_self_eq_false]
    exact subs_j0 4000 (by omega) a0 t hr hc
  · rw [subsOf_bad hc]
    simp only
    rw [if_neg hc, if_pos (by simp)]
    simp
end Go.Proofs.Ytlpimcjbhbdbhaa.Pure
