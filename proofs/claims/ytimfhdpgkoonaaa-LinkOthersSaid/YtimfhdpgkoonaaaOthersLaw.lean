/- LinkOthers: the plain law: a letter is taken just where it is the one that was sent. -/
import Derived.Test.YtimfhdpgkoonaaaOthers
set_option linter.unusedVariables false
set_option linter.unusedSimpArgs false
namespace Go.Proofs.Ytimfhdpgkoonaaa.L06
open Go.RowKit Go.Proofs.Ytimfhdpgkoonaaa.Pr Go.Proofs.YtimfhdpgkoonaaaW.PrintWords Go.Proofs.YtimfhdpgkoonaaaW.PrintLast Go.Proofs.YtimfhdpgkoonaaaW.PrintMore Go.Proofs.Ytimfhdpgkoonaaa.TT Go.Proofs.Ytimfhdpgkoonaaa.Ev03 Go.Proofs.Ytimfhdpgkoonaaa.Iter

theorem text_by (a0 a1 a2 : Int) (l : List Int) (h0 : 0 ≤ a0 ∧ a0 ≤ 255) (h1 : 0 ≤ a1 ∧ a1 ≤ 255) (hl : ∀ x ∈ l, 0 ≤ x ∧ x ≤ 255) : ∀ x ∈ textOf a0 a1 a2 l, 0 ≤ x ∧ x ≤ 255 := by
  intro x hx
  unfold textOf at hx
  rcases List.mem_append.1 hx with h | h
  · simp only [List.mem_cons, List.not_mem_nil, or_false] at h
    rcases h with rfl | rfl | rfl | rfl | rfl | rfl <;> omega
  · exact hl x h
theorem text_inj {a0 a1 a2 b0 b1 b2 : Int} {l m : List Int} (ha : 0 ≤ a2 ∧ a2 < 4294967296) (hb : 0 ≤ b2 ∧ b2 < 4294967296) (h : textOf a0 a1 a2 l = textOf b0 b1 b2 m) : a0 = b0 ∧ a1 = b1 ∧ a2 = b2 ∧ l = m := by
  unfold textOf at h
  simp only [List.cons_append, List.nil_append, List.cons.injEq] at h
  obtain ⟨h1, h2, h3, h4, h5, h6, h7⟩ := h
  exact ⟨h1, h2, by omega, h7⟩
/-- Two tags are equal just where keys and letters are. -/
theorem tag_inj {k k' : ByteArray} {a0 a1 a2 b0 b1 b2 : Int} {l m : List Int} (h : (tagOf k a0 a1 a2 l).2 = 0) (h' : (tagOf k' b0 b1 b2 m).2 = 0) (he : (tagOf k a0 a1 a2 l).1 = (tagOf k' b0 b1 b2 m).1)
    (ha0 : 0 ≤ a0 ∧ a0 ≤ 255) (ha1 : 0 ≤ a1 ∧ a1 ≤ 255) (ha2 : 0 ≤ a2 ∧ a2 < 4294967296) (hl : ∀ x ∈ l, 0 ≤ x ∧ x ≤ 255) (hb0 : 0 ≤ b0 ∧ b0 ≤ 255) (hb1 : 0 ≤ b1 ∧ b1 ≤ 255) (hb2 : 0 ≤ b2 ∧ b2 < 4294967296) (hm : ∀ x ∈ m, 0 ≤ x ∧ x ≤ 255) :
    k = k' ∧ a0 = b0 ∧ a1 = b1 ∧ a2 = b2 ∧ l = m := by
  unfold tagOf at h h' he
  by_cases c1 : (l.length : Int) > 1000
  · rw [if_pos c1] at h; exact absurd h (by decide)
  by_cases c2 : (m.length : Int) > 1000
  · rw [if_pos c2] at h'; exact absurd h' (by decide)
  rw [if_neg c1] at h he
  rw [if_neg c2] at h' he
  obtain ⟨t, ho, e1, _, _, _, _, e2⟩ := two2_ok h
  obtain ⟨u, uo, e3, _, _, _, _, e4⟩ := two2_ok h'
  rw [e2, e4] at he
  have h6 := enc_inj (show (Tm.two 109 t (btm (textOf a0 a1 a2 l))).ok from ⟨rfl, ho, btm_ok _⟩) (show (Tm.two 109 u (btm (textOf b0 b1 b2 m))).ok from ⟨rfl, uo, btm_ok _⟩) (strOf_inj he)
  injection h6 with _ h7 h8
  have h9 := text_inj ha2 hb2 (btm_inj (text_by a0 a1 a2 l ha0 ha1 hl) (text_by b0 b1 b2 m hb0 hb1 hm) (by rw [h8]))
  exact ⟨by rw [e1, e3, h7], h9⟩
theorem accept_zero (key : ByteArray) (a b sq : Int) (l : List Int) (tag : ByteArray) (h0 : 0 ≤ sq) : (acceptOf key 0 0 0 b a b sq l tag).2.2.2.2 = 0 ↔ (twoB a b = true ∧ sq ≠ 0 ∧ (tagOf key a b sq l).2 = 0 ∧ (tagOf key a b sq l).1 = tag) := by
  unfold acceptOf
  by_cases hC : b = b ∧ twoB a b = true ∧ sq ≠ 0
  · rw [if_pos hC]
    by_cases h4 : (tagOf key a b sq l).2 = 0
    · rw [if_pos h4]
      by_cases h5 : (tagOf key a b sq l).1 = tag
      · rw [if_pos h5, if_pos (by have := hC.2.2; omega)]
        simp [hC.2.1, hC.2.2, h4, h5]
      · rw [if_neg h5]
        simp [h5]
    · rw [if_neg h4]
      simp [h4]
  · rw [if_neg hC]
    simp only [true_and] at hC
    constructor
    · intro h; exact absurd h (show ¬ (2 : Int) = 0 by decide)
    · rintro ⟨h1, h2, _⟩; exact absurd ⟨h1, h2⟩ hC
theorem strs_iff {m l : List Int} (hm : ∀ x ∈ m, 0 ≤ x ∧ x ≤ 255) (hl : ∀ x ∈ l, 0 ≤ x ∧ x ≤ 255) : (strOfNums m).toList = (strOfNums l).toList ↔ m = l := by
  constructor
  · intro h
    have h1 := (toList_iff _ _).1 h
    rw [by8_str, by8_str] at h1
    exact by8_inj hm hl (strOf_inj h1)
  · rintro rfl; rfl
theorem oth_fact (k0 k1 : ByteArray) (x0 x1 x2 : Int) (l3 : List Int) (y0 y1 y2 : Int) (m3 : List Int) (hx0 : 0 ≤ x0 ∧ x0 ≤ 255) (hx1 : 0 ≤ x1 ∧ x1 ≤ 255) (hx2 : 0 ≤ x2 ∧ x2 < 4294967296) (hl : ∀ x ∈ l3, 0 ≤ x ∧ x ≤ 255)
    (hy0 : 0 ≤ y0 ∧ y0 ≤ 255) (hy1 : 0 ≤ y1 ∧ y1 ≤ 255) (hy2 : 0 ≤ y2 ∧ y2 < 4294967296) (hm : ∀ x ∈ m3, 0 ≤ x ∧ x ≤ 255)
    (s1 : ByteArray) (s2 s3 s4 t0 t1 t2 : Int) (tb : List Int) (tt : ByteArray) (f : Int) (hs : sendOf k0 x2 0 0 x0 x1 l3 = (s1, s2, s3, s4, t0, t1, t2, tb, tt, f)) :
    OthFact f (acceptOf k1 0 0 0 y1 y0 y1 y2 m3 tt).2.2.2.2 (acceptOf k0 0 0 0 t1 t0 t1 t2 tb tt).2.2.2.2 y0 t0 y1 t1 y2 t2 m3 tb k0 k1 := by
  rintro rfl
  unfold sendOf at hs
  by_cases c1 : twoB x0 x1 = true
  rotate_left
  · rw [if_neg c1] at hs; simp only [Prod.mk.injEq] at hs; omega
  rw [if_pos c1] at hs
  by_cases c2 : x2 = 4294967295
  · rw [if_pos c2] at hs; simp only [Prod.mk.injEq] at hs; omega
  rw [if_neg c2] at hs
  by_cases c3 : (tagOf k0 x0 x1 ((x2 + 1) % 4294967296) l3).2 = 0
  rotate_left
  · rw [if_neg c3] at hs; simp only [Prod.mk.injEq] at hs; exact absurd hs.2.2.2.2.2.2.2.2.2 c3
  rw [if_pos c3] at hs
  simp only [Prod.mk.injEq] at hs
  obtain ⟨_, _, _, _, rfl, rfl, rfl, rfl, rfl, _⟩ := hs
  have hn : (x2 + 1) % 4294967296 ≠ 0 ∧ 0 ≤ (x2 + 1) % 4294967296 ∧ (x2 + 1) % 4294967296 < 4294967296 := by omega
  refine ⟨(accept_zero _ _ _ _ _ _ hn.2.1).2 ⟨c1, hn.1, c3, rfl⟩, ?_⟩
  rw [Bool.eq_iff_iff]
  simp only [beq_iff_eq, Bool.and_eq_true]
  rw [accept_zero _ _ _ _ _ _ hy2.1, strs_iff hm hl, toList_iff]
  constructor
  · rintro ⟨h1, h2, h3, h4⟩
    obtain ⟨e1, e2, e3, e4, e5⟩ := tag_inj h3 c3 h4 hy0 hy1 hy2 hm hx0 hx1 hn.2 hl
    exact ⟨e2, e3, e4, e5, e1.symm⟩
  · rintro ⟨rfl, rfl, rfl, rfl, rfl⟩
    exact ⟨c1, hn.1, c3, rfl⟩
theorem others_all (k0 k1 : ByteArray) (x0 x1 x2 : Int) (A3 : Option Addr) (c3 : Nat) (l3 : List Int) (x4 : ByteArray) (y0 y1 y2 : Int) (B3 : Option Addr) (d3 : Nat) (m3 : List Int) (y4 : ByteArray) (w : World)
    (hcx : Kd.C (Kd.int .u8) w A3 l3.length l3) (hlx : l3.length ≤ c3) (hcy : Kd.C (Kd.int .u8) w B3 m3.length m3) (hly : m3.length ≤ d3)
    (hx0 : 0 ≤ x0 ∧ x0 ≤ 255) (hx1 : 0 ≤ x1 ∧ x1 ≤ 255) (hx2 : 0 ≤ x2 ∧ x2 < 4294967296) (hl : ∀ x ∈ l3, 0 ≤ x ∧ x ≤ 255) (hy0 : 0 ≤ y0 ∧ y0 ≤ 255) (hy1 : 0 ≤ y1 ∧ y1 ≤ 255) (hy2 : 0 ≤ y2 ∧ y2 < 4294967296) (hm : ∀ x ∈ m3, 0 ≤ x ∧ x ≤ 255) :
    Calls Try.prog 6 #[.agg #[.string k0, .string k1], .agg #[.int .u8 x0, .int .u8 x1, .int .u32 x2, .slice A3 l3.length c3, .string x4], .agg #[.int .u8 y0, .int .u8 y1, .int .u32 y2, .slice B3 m3.length d3, .string y4]] w fun e w' => e = .returned (.bool true) ∧ Below w.heap.size w w' := by
  obtain ⟨qx, hqx⟩ : ∃ q, chantrylaw06_few.f x0 x1 x2 l3 x4 = some q := by
    unfold chantrylaw06_few.f; split <;> exact ⟨_, rfl⟩
  obtain ⟨qy, hqy⟩ : ∃ q, chantrylaw06_few.f y0 y1 y2 m3 y4 = some q := by
    unfold chantrylaw06_few.f; split <;> exact ⟨_, rfl⟩
  obtain ⟨s1, s2, s3, s4, t0, t1, t2, tb, tt, f, hs⟩ : ∃ s1 s2 s3 s4 t0 t1 t2 tb tt f, sendOf k0 x2 0 0 x0 x1 l3 = (s1, s2, s3, s4, t0, t1, t2, tb, tt, f) := ⟨_, _, _, _, _, _, _, _, _, _, rfl⟩
  refine others_core k0 k1 x0 x1 x2 A3 c3 l3 x4 y0 y1 y2 B3 d3 m3 y4 w hcx hlx hcy hly qx qy hqx hqy s1 s2 s3 s4 t0 t1 t2 tb tt f ?_ _ _ _ _ _ (accept_spec 6000 (by decide) _ _ _ _ _ _ _ _ _ _) _ _ _ _ _ (accept_spec 6000 (by decide) _ _ _ _ _ _ _ _ _ _)
    (oth_fact k0 k1 x0 x1 x2 l3 y0 y1 y2 m3 hx0 hx1 hx2 hl hy0 hy1 hy2 hm s1 s2 s3 s4 t0 t1 t2 tb tt f hs)
  rintro rfl
  rw [← hs]
  refine send_spec _ _ _ _ _ _ _ ?_
  unfold chantrylaw06_few.f at hqx
  split at hqx
  · omega
  · simp at hqx
end Go.Proofs.Ytimfhdpgkoonaaa.L06
