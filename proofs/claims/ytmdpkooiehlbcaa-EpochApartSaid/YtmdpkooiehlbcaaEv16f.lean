/- What keys of epochs are, and what is opened of what was sealed. Plain law: no program in sight. -/
import Derived.Test.YtmdpkooiehlbcaaEv16
set_option linter.unusedVariables false
set_option linter.unusedSimpArgs false
namespace Go.Proofs.Ytmdpkooiehlbcaa.Ev16
open Go.RowKit Go.Proofs.Ytmdpkooiehlbcaa.Pr Go.Proofs.YtmdpkooiehlbcaaW.PrintWords Go.Proofs.YtmdpkooiehlbcaaW.PrintLast Go.Proofs.YtmdpkooiehlbcaaW.PrintMore Go.Proofs.Ytmdpkooiehlbcaa.TT Go.Proofs.Ytmdpkooiehlbcaa.Ev03

def keyT (v : Int) (t : Tm) : Tm := .two 100 t (nameT v)
theorem keyT_ok (v : Int) {t : Tm} (h : t.ok) : (keyT v t).ok := ⟨by decide, h, nameT_ok v⟩
theorem nameT_inj {v u : Int} (hv : 0 ≤ v ∧ v ≤ 1000) (hu : 0 ≤ u ∧ u ≤ 1000) (h : nameT v = nameT u) : v = u := by
  unfold nameT at h
  simp only [Tm.const.injEq, List.cons.injEq, and_true, true_and] at h
  obtain ⟨p, q⟩ := h
  have p := congrArg UInt8.toNat p
  have q := congrArg UInt8.toNat q
  simp only [UInt8.toNat_ofNat'] at p q
  omega
theorem new_ok {v : Int} {r : ByteArray} (h : (newOf v r).2.2 = 0) : ∃ t : Tm, t.ok ∧ r = t.str ∧ (0 ≤ v ∧ v ≤ 1000) ∧ newOf v r = (v, (keyT v t).str, 0) ∧ check (keyT v t).str = 0 := by
  unfold newOf at h ⊢
  by_cases hv : 0 ≤ v ∧ v ≤ 1000
  · rw [if_pos hv] at h ⊢
    by_cases hm : (makeOf 100 [r, nameOf v]).2 = 0
    · rw [if_pos hm]
      obtain ⟨_, h0, _, h2, m⟩ := made_two hm
      obtain ⟨t, hr, ho, rfl, hd, hl⟩ := check_ok h0
      unfold nameOf at h2 m
      rw [two_str] at h2 m
      refine ⟨t, ho, rfl, hv, ?_, h2⟩
      unfold nameOf
      rw [m]
      rfl
    · rw [if_neg hm] at h; exact absurd h hm
  · rw [if_neg hv] at h; simp at h
theorem right_ok {v : Int} {t : Tm} (hv : 0 ≤ v ∧ v ≤ 1000) (hc : check (keyT v t).str = 0) : rightOf v (keyT v t).str = true := decide_eq_true ⟨hv, hc⟩
theorem sealed_check {v : Int} {t : Tm} {text : ByteArray} (ho : t.ok) (ht : text.size ≤ 40) (hl : t.enc.length ≤ 1500) (hd : t.depth ≤ 55) : check (Tm.two 115 (keyT v t) (pairT v text)).str = 0 := by
  refine check_str (t := Tm.two 115 (keyT v t) (pairT v text)) ⟨by decide, keyT_ok v ho, pairT_ok v ht⟩ ?_ ?_
  · have := t.depth_pos
    simp only [Tm.depth, keyT, pairT, nameT]
    omega
  · have := pairT_len v text
    have e : (keyT v t).enc.length = 6 + t.enc.length := by simp [keyT, nameT, Tm.enc]; omega
    simp only [Tm.enc, List.length_cons, List.length_append] at this ⊢
    rw [e]
    simp only [pairT, Tm.enc, List.length_cons, List.length_append] at this ⊢
    omega
theorem seal_val {v : Int} {t : Tm} {text : ByteArray} (ho : t.ok) (hv : 0 ≤ v ∧ v ≤ 1000) (hc : check (keyT v t).str = 0) :
    sealOf v (keyT v t).str text = if text.size ≤ 40 ∧ check (Tm.two 115 (keyT v t) (pairT v text)).str = 0 then (v, (Tm.two 115 (keyT v t) (pairT v text)).str, 0) else (0, ⟨#[]⟩, 3) := by
  unfold sealOf
  rw [if_pos (right_ok hv hc)]
  by_cases ht : 40 < text.size
  · rw [if_pos ht, if_neg (show ¬ (text.size ≤ 40 ∧ check (Tm.two 115 (keyT v t) (pairT v text)).str = 0) from fun q => absurd q.1 (by omega))]
  · rw [if_neg ht]
    have hm := make_of_two 115 (keyT v t).str (pairT v text).str (by decide)
    rw [if_neg (fun q : ¬ check (keyT v t).str = 0 => q hc), if_neg (fun q : ¬ check (pairT v text).str = 0 => q (pair_check v (by omega))), two_str] at hm
    by_cases hk : check (Tm.two 115 (keyT v t) (pairT v text)).str = 0
    · rw [if_pos hk] at hm
      rw [hm, if_pos (show text.size ≤ 40 ∧ check (Tm.two 115 (keyT v t) (pairT v text)).str = 0 from ⟨by omega, hk⟩)]
      rfl
    · rw [if_neg hk] at hm
      rw [hm, if_neg (show ¬ (text.size ≤ 40 ∧ check (Tm.two 115 (keyT v t) (pairT v text)).str = 0) from fun q => hk q.2)]
      rfl
theorem open_sealed {a b : Tm} (hb : (Tm.two 115 a b).ok) (hc : check (Tm.two 115 a b).str = 0) (key : ByteArray) : openOf key (Tm.two 115 a b).str = if check key = 0 then (if a.str = key then (b.str, 0) else (⟨#[]⟩, 12)) else (⟨#[]⟩, check key) := by
  unfold openOf
  rw [if_pos hc, read_str _ hb]
  rfl
theorem str_inj {a b : Tm} (ha : a.ok) (hb : b.ok) (h : a.str = b.str) : a = b := enc_inj ha hb (strOf_inj h)
theorem open_val {v u : Int} {t s : Tm} {text : ByteArray} (ho : t.ok) (hs : s.ok) (hv : 0 ≤ v ∧ v ≤ 1000) (hu : 0 ≤ u ∧ u ≤ 1000) (hcu : check (keyT u s).str = 0) (ht : text.size ≤ 40) (hc : check (Tm.two 115 (keyT v t) (pairT v text)).str = 0) (sv : Int) :
    open16 u (keyT u s).str sv (Tm.two 115 (keyT v t) (pairT v text)).str = if sv = u then (if v = u ∧ t = s then (text, 0) else (⟨#[]⟩, 12)) else (⟨#[]⟩, 11) := by
  have hok : (Tm.two 115 (keyT v t) (pairT v text)).ok := ⟨by decide, keyT_ok v ho, pairT_ok v ht⟩
  unfold open16
  rw [if_pos (right_ok hu hcu), open_sealed hok hc, if_pos hcu]
  by_cases h : sv = u
  · rw [if_pos h, if_pos h]
    by_cases hk : v = u ∧ t = s
    · obtain ⟨rfl, rfl⟩ := hk
      rw [if_pos rfl, if_pos rfl, if_pos (show v = v ∧ t = t from ⟨rfl, rfl⟩), read_str _ (pairT_ok v ht)]
      show tailOf v (.two 112 (nameT v) (.const text.data.toList)) = _
      rw [tailOf_two, if_pos (show (112 : UInt8) = 112 ∧ (nameT v).str = nameOf v from ⟨rfl, rfl⟩)]
      simp only [tailIn, strOf_of]
    · have hne : ¬ (keyT v t).str = (keyT u s).str := by
        intro e
        have e := str_inj (keyT_ok v ho) (keyT_ok u hs) e
        simp only [keyT, Tm.two.injEq, true_and] at e
        exact hk ⟨nameT_inj hv hu e.2, e.1⟩
      rw [if_neg hne, if_neg (by decide), if_neg hk]
  · rw [if_neg h, if_neg h]
end Go.Proofs.Ytmdpkooiehlbcaa.Ev16
