/- TermNonces: its walk, by hand: unlike numbers have unlike nonces, unlike texts unlike constants, and no nonce is a constant. -/
import Derived.Test.YtlpimcjbhbdbhaaEvConst
import Derived.Test.YtlpimcjbhbdbhaaPrx1
set_option linter.unusedVariables false
set_option linter.unusedSimpArgs false
namespace Go.Proofs.Ytlpimcjbhbdbhaa.Ev03
open Go.RowKit Go.Proofs.Ytlpimcjbhbdbhaa.Pr Go.Proofs.YtlpimcjbhbdbhaaW.PrintWords Go.Proofs.YtlpimcjbhbdbhaaW.PrintLast Go.Proofs.YtlpimcjbhbdbhaaW.PrintMore Go.Proofs.Ytlpimcjbhbdbhaa.TT

theorem const_short {s : ByteArray} (h : (s.size : Int) ≤ 40) : constOf s = ((Tm.const s.data.toList).str, 0) := by unfold constOf; rw [if_neg (by omega)]
theorem const_long {s : ByteArray} (h : ¬ (s.size : Int) ≤ 40) : constOf s = (⟨#[]⟩, 3) := by unfold constOf; rw [if_pos (by omega)]
theorem const_inj {s u : ByteArray} (hs : (s.size : Int) ≤ 40) (hu : (u.size : Int) ≤ 40) : ((Tm.const s.data.toList).str.toList == (Tm.const u.data.toList).str.toList) = (s.toList == u.toList) := by
  rw [Bool.eq_iff_iff, beq_iff_eq, beq_iff_eq, toList_iff, toList_iff]
  constructor
  · intro e
    have e := strOf_inj e
    have := enc_inj (t := Tm.const s.data.toList) (u := Tm.const u.data.toList) (by show s.data.toList.length ≤ 40; rw [len_eq]; omega) (by show u.data.toList.length ≤ 40; rw [len_eq]; omega) e
    simp only [Tm.const.injEq] at this
    exact ByteArray.ext (Array.ext' this)
  · rintro rfl; rfl
theorem nonce_inj {a b : Int} (h0 : 0 ≤ a) (h1 : a < 65536) (h2 : 0 ≤ b) (h3 : b < 65536) : ((nonceOf a).toList == (nonceOf b).toList) = (a == b) := by
  rw [Bool.eq_iff_iff, beq_iff_eq, beq_iff_eq, toList_iff]
  constructor
  · intro e
    have e := strOf_inj e
    have e1 := enc_inj (t := Tm.nonce (UInt8.ofNat (a / 256).toNat) (UInt8.ofNat (a % 256).toNat)) (u := Tm.nonce (UInt8.ofNat (b / 256).toNat) (UInt8.ofNat (b % 256).toNat)) trivial trivial e
    simp only [Tm.nonce.injEq] at e1
    obtain ⟨p, q⟩ := e1
    have p := congrArg UInt8.toNat p
    have q := congrArg UInt8.toNat q
    simp only [UInt8.toNat_ofNat'] at p q
    omega
  · rintro rfl; rfl
theorem nonce_const (a : Int) (s : ByteArray) : ((nonceOf a).toList == (constOf s).1.toList) = false := by
  rw [beq_eq_false_iff_ne]
  intro e
  have e := (toList_iff _ _).1 e
  by_cases h : (s.size : Int) ≤ 40
  · rw [const_short h] at e
    have e := strOf_inj e
    simp [Tm.enc] at e
  · rw [const_long h] at e
    have e : strOf _ = strOf [] := e
    have e := strOf_inj e
    simp [Tm.enc] at e
theorem nonce_check (a : Int) : check (nonceOf a) = 0 := check_str (t := Tm.nonce _ _) trivial (by simp [Tm.depth]) (by simp [Tm.enc])

/-- The two texts stand in a block. -/
def Has (w : World) (g : Nat) (s0 s1 : ByteArray) : Prop := w.cell? ⟨g, 0, none⟩ = some (.string s0) ∧ w.cell? ⟨g, 1, none⟩ = some (.string s1) ∧ g < w.heap.size
theorem Has.new (w : World) (s0 s1 : ByteArray) (t : Nat) : Has (w.alloc (.cells #[.string s0, .string s1] t (0, 0))) w.heap.size s0 s1 :=
  ⟨blk_cell (blk_new w _) 0, blk_cell (blk_new w _) 1, by simp⟩
theorem Has.below {w w1 : World} {g : Nat} {s0 s1 : ByteArray} (h : Has w g s0 s1) (hb : Below w.heap.size w w1) : Has w1 g s0 s1 :=
  ⟨(hb.cell h.2.2).trans h.1, (hb.cell h.2.2).trans h.2.1, Nat.lt_of_lt_of_le h.2.2 hb.size⟩

set_option maxHeartbeats 3200000 in
set_option maxRecDepth 100000 in
theorem nonces_core (a b : Int) (s0 s1 : ByteArray) (w : World) (x0 x1 na nb : ByteArray) (e0 e1 : Int) (hc0 : term_NewConst.f s0 = some (x0, e0)) (hc1 : term_NewConst.f s1 = some (x1, e1)) (hna : term_NewNonce.f a = some na) (hnb : term_NewNonce.f b = some nb)
    (k0 : (e0 == 0) = decide ((s0.size : Int) ≤ 40)) (kxy : e0 = 0 → e1 = 0 → (x0.toList == x1.toList) = (s0.toList == s1.toList)) (kn : (na.toList == nb.toList) = (a == b)) (ka0 : (na.toList == x0.toList) = false) (ka1 : (na.toList == x1.toList) = false) (kc : term_Check.f na = some 0) :
    Calls Try.prog 10 #[.int .u16 a, .int .u16 b, .agg #[.string s0, .string s1]] w fun e w' => e = .returned (.bool true) ∧ Below w.heap.size w w' := by
  have HC0 := Lib.hid hc0; have HC1 := Lib.hid hc1; have HNA := Lib.hid hna; have HNB := Lib.hid hnb
  have HK0 := Lib.hid k0; have HXY := Lib.hid kxy; have HN := Lib.hid kn; have HA0 := Lib.hid ka0; have HA1 := Lib.hid ka1; have HCK := Lib.hid kc
  clear hc0 hc1 hna hnb k0 kxy kn ka0 ka1 kc
  have HS := Lib.hid (Has.new w s0 s1 52)
  have HB0 := Lib.hid ((Below.refl w.heap.size w).alloc (Nat.le_refl _) (.cells #[.string s0, .string s1] 52 (0, 0)))
  go_enter Try.func10, Try.ntmps10
  go_wp2_with fail
  generalize w.alloc (.cells #[.string s0, .string s1] 52 (0, 0)) = w0 at *
  refine (chantrylaw03_alive.calls true w0 alive_spec).mono ?_
  rintro e w1 ⟨rfl, hb1⟩
  have HS1 := Lib.hid (HS.out.below hb1)
  have HB1 := Lib.hid (HB0.out.trans (hb1.mono HB0.out.size))
  clear hb1
  obtain ⟨c0, c1, _⟩ := HS1.out
  by_cases z0 : (s0.size : Int) > 2100
  · go_wp2_with fail
    go_ret
    exact ⟨rfl, HB1.out⟩
  by_cases z1 : (s1.size : Int) > 2100
  · go_wp2_with fail
    go_ret
    exact ⟨rfl, HB1.out⟩
  go_wp2_with fail
  refine (term_NewConst.calls s0 x0 e0 w1 HC0.out).mono ?_
  rintro e w2 ⟨rfl, hb2⟩
  have HS2 := Lib.hid (HS1.out.below hb2)
  have HB2 := Lib.hid (HB1.out.trans (hb2.mono HB1.out.size))
  clear hb2 c0 c1
  obtain ⟨c0, c1, _⟩ := HS2.out
  go_wp2_with fail
  refine (term_NewConst.calls s1 x1 e1 w2 HC1.out).mono ?_
  rintro e w3 ⟨rfl, hb3⟩
  have HS3 := Lib.hid (HS2.out.below hb3)
  have HB3 := Lib.hid (HB2.out.trans (hb3.mono HB2.out.size))
  clear hb3 c0 c1
  obtain ⟨c0, c1, _⟩ := HS3.out
  by_cases f0 : e0 = 0
  · have l0 : (s0.size : Int) ≤ 40 := by have := HK0.out; rw [f0] at this; simpa using this.symm
    subst f0
    by_cases f1 : e1 = 0
    · subst f1
      have hxy := HXY.out rfl rfl
      by_cases q : s0.toList = s1.toList
      · have q1 : (s0.toList == s1.toList) = true := by simpa using q
        have q2 : (x0.toList == x1.toList) = true := by rw [hxy, q1]
        clear hxy q
        go_wp2_with fail
        refine (term_NewNonce.calls a na w3 HNA.out).mono ?_
        rintro e w4 ⟨rfl, hb4⟩
        have HB4 := Lib.hid (HB3.out.trans (hb4.mono HB3.out.size))
        clear hb4
        go_wp2_with fail
        refine (term_NewNonce.calls b nb w4 HNB.out).mono ?_
        rintro e w5 ⟨rfl, hb5⟩
        have HB5 := Lib.hid (HB4.out.trans (hb5.mono HB4.out.size))
        clear hb5
        have g0 := HA0.out
        have g1 := HA1.out
        by_cases hab : a = b
        · have g2 : (na.toList == nb.toList) = true := by rw [HN.out]; simpa using hab
          have g3 : (a == b) = true := by simpa using hab
          go_wp2_with fail
          refine (term_Check.calls na 0 w5 HCK.out).mono ?_
          rintro e w6 ⟨rfl, hb6⟩
          have HB6 := Lib.hid (HB5.out.trans (hb6.mono HB5.out.size))
          clear hb6
          go_wp2_with fail
          go_ret
          exact ⟨by first | rfl | (simp; done) | (simp [*]; done), HB6.out⟩
        · have g2 : (na.toList == nb.toList) = false := by rw [HN.out]; simpa using hab
          have g3 : (a == b) = false := by simpa using hab
          go_wp2_with fail
          refine (term_Check.calls na 0 w5 HCK.out).mono ?_
          rintro e w6 ⟨rfl, hb6⟩
          have HB6 := Lib.hid (HB5.out.trans (hb6.mono HB5.out.size))
          clear hb6
          go_wp2_with fail
          go_ret
          exact ⟨by first | rfl | (simp; done) | (simp [*]; done), HB6.out⟩
      · have q1 : (s0.toList == s1.toList) = false := by simpa using q
        have q2 : (x0.toList == x1.toList) = false := by rw [hxy, q1]
        clear hxy q
        go_wp2_with fail
        refine (term_NewNonce.calls a na w3 HNA.out).mono ?_
        rintro e w4 ⟨rfl, hb4⟩
        have HB4 := Lib.hid (HB3.out.trans (hb4.mono HB3.out.size))
        clear hb4
        go_wp2_with fail
        refine (term_NewNonce.calls b nb w4 HNB.out).mono ?_
        rintro e w5 ⟨rfl, hb5⟩
        have HB5 := Lib.hid (HB4.out.trans (hb5.mono HB4.out.size))
        clear hb5
        have g0 := HA0.out
        have g1 := HA1.out
        by_cases hab : a = b
        · have g2 : (na.toList == nb.toList) = true := by rw [HN.out]; simpa using hab
          have g3 : (a == b) = true := by simpa using hab
          go_wp2_with fail
          refine (term_Check.calls na 0 w5 HCK.out).mono ?_
          rintro e w6 ⟨rfl, hb6⟩
          have HB6 := Lib.hid (HB5.out.trans (hb6.mono HB5.out.size))
          clear hb6
          go_wp2_with fail
          go_ret
          exact ⟨by first | rfl | (simp; done) | (simp [*]; done), HB6.out⟩
        · have g2 : (na.toList == nb.toList) = false := by rw [HN.out]; simpa using hab
          have g3 : (a == b) = false := by simpa using hab
          go_wp2_with fail
          refine (term_Check.calls na 0 w5 HCK.out).mono ?_
          rintro e w6 ⟨rfl, hb6⟩
          have HB6 := Lib.hid (HB5.out.trans (hb6.mono HB5.out.size))
          clear hb6
          go_wp2_with fail
          go_ret
          exact ⟨by first | rfl | (simp; done) | (simp [*]; done), HB6.out⟩
    · have f2 : (e1 == 0) = false := by simpa using f1
      go_wp2_with fail
      refine (term_NewNonce.calls a na w3 HNA.out).mono ?_
      rintro e w4 ⟨rfl, hb4⟩
      have HB4 := Lib.hid (HB3.out.trans (hb4.mono HB3.out.size))
      clear hb4
      go_wp2_with fail
      refine (term_NewNonce.calls b nb w4 HNB.out).mono ?_
      rintro e w5 ⟨rfl, hb5⟩
      have HB5 := Lib.hid (HB4.out.trans (hb5.mono HB4.out.size))
      clear hb5
      have g0 := HA0.out
      have g1 := HA1.out
      by_cases hab : a = b
      · have g2 : (na.toList == nb.toList) = true := by rw [HN.out]; simpa using hab
        have g3 : (a == b) = true := by simpa using hab
        go_wp2_with fail
        refine (term_Check.calls na 0 w5 HCK.out).mono ?_
        rintro e w6 ⟨rfl, hb6⟩
        have HB6 := Lib.hid (HB5.out.trans (hb6.mono HB5.out.size))
        clear hb6
        go_wp2_with fail
        go_ret
        exact ⟨by first | rfl | (simp; done) | (simp [*]; done), HB6.out⟩
      · have g2 : (na.toList == nb.toList) = false := by rw [HN.out]; simpa using hab
        have g3 : (a == b) = false := by simpa using hab
        go_wp2_with fail
        refine (term_Check.calls na 0 w5 HCK.out).mono ?_
        rintro e w6 ⟨rfl, hb6⟩
        have HB6 := Lib.hid (HB5.out.trans (hb6.mono HB5.out.size))
        clear hb6
        go_wp2_with fail
        go_ret
        exact ⟨by first | rfl | (simp; done) | (simp [*]; done), HB6.out⟩
  · have l0 : ¬ (s0.size : Int) ≤ 40 := by
      intro h
      have h2 := HK0.out
      rw [decide_eq_true h] at h2
      exact f0 (by simpa using h2)
    have f2 : (e0 == 0) = false := by simpa using f0
    go_wp2_with fail
    refine (term_NewNonce.calls a na w3 HNA.out).mono ?_
    rintro e w4 ⟨rfl, hb4⟩
    have HB4 := Lib.hid (HB3.out.trans (hb4.mono HB3.out.size))
    clear hb4
    go_wp2_with fail
    refine (term_NewNonce.calls b nb w4 HNB.out).mono ?_
    rintro e w5 ⟨rfl, hb5⟩
    have HB5 := Lib.hid (HB4.out.trans (hb5.mono HB4.out.size))
    clear hb5
    have g0 := HA0.out
    have g1 := HA1.out
    by_cases hab : a = b
    · have g2 : (na.toList == nb.toList) = true := by rw [HN.out]; simpa using hab
      have g3 : (a == b) = true := by simpa using hab
      go_wp2_with fail
      refine (term_Check.calls na 0 w5 HCK.out).mono ?_
      rintro e w6 ⟨rfl, hb6⟩
      have HB6 := Lib.hid (HB5.out.trans (hb6.mono HB5.out.size))
      clear hb6
      go_wp2_with fail
      go_ret
      exact ⟨by first | rfl | (simp; done) | (simp [*]; done), HB6.out⟩
    · have g2 : (na.toList == nb.toList) = false := by rw [HN.out]; simpa using hab
      have g3 : (a == b) = false := by simpa using hab
      go_wp2_with fail
      refine (term_Check.calls na 0 w5 HCK.out).mono ?_
      rintro e w6 ⟨rfl, hb6⟩
      have HB6 := Lib.hid (HB5.out.trans (hb6.mono HB5.out.size))
      clear hb6
      go_wp2_with fail
      go_ret
      exact ⟨by first | rfl | (simp; done) | (simp [*]; done), HB6.out⟩
/-- The walk, whole. -/
theorem nonces_walk (a b : Int) (h0 : 0 ≤ a) (h1 : a < 65536) (h2 : 0 ≤ b) (h3 : b < 65536) (s0 s1 : ByteArray) (w : World) :
    Calls Try.prog 10 #[.int .u16 a, .int .u16 b, .agg #[.string s0, .string s1]] w fun e w' => e = .returned (.bool true) ∧ Below w.heap.size w w' := by
  refine nonces_core a b s0 s1 w (constOf s0).1 (constOf s1).1 (nonceOf a) (nonceOf b) (constOf s0).2 (constOf s1).2 (const_spec s0) (const_spec s1) (nonce_spec a h0 h1) (nonce_spec b h2 h3) ?_ ?_ (nonce_inj h0 h1 h2 h3) (nonce_const a s0) (nonce_const a s1) (congrArg some (nonce_check a))
  · by_cases h : (s0.size : Int) ≤ 40
    · rw [const_short h, decide_eq_true h]; rfl
    · rw [const_long h, decide_eq_false h]; rfl
  · intro e0 e1
    by_cases h : (s0.size : Int) ≤ 40
    · by_cases h' : (s1.size : Int) ≤ 40
      · rw [const_short h, const_short h']
        exact const_inj h h'
      · rw [const_long h'] at e1; exact absurd e1 (by decide)
    · rw [const_long h] at e0; exact absurd e0 (by decide)
end Go.Proofs.Ytlpimcjbhbdbhaa.Ev03
