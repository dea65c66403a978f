import Derived.Test.YtecimagjeelgbaaDoorCParts
import Derived.Test.YtecimagjeelgbaaDoorCPrxR
import Derived.Lib.Hide
import Derived.Test.YtecimagjeelgbaaDoorCPrxK
import Derived.Test.YtecimagjeelgbaaDoorCPrxT
/- What the printed functions of package term and of its reference come to, told by terms as trees. No program in sight but for the printed functions. -/
set_option linter.unusedVariables false
set_option linter.unusedSimpArgs false
namespace Go.Proofs.YtecimagjeelgbaaDoor.Ev03
open Go.RowKit Go.Proofs.YtecimagjeelgbaaDoor.Pr Go.Proofs.YtecimagjeelgbaaDoorW.PrintWords Go.Proofs.YtecimagjeelgbaaDoorW.PrintLast Go.Proofs.YtecimagjeelgbaaDoorW.PrintMore Go.Proofs.YtecimagjeelgbaaDoor.TT

theorem wr {x : Int} (h0 : -1000000 ≤ x) (h1 : x ≤ 1000000) : wrap64 x = x := by unfold wrap64; omega
theorem u8 (c : UInt8) (n : Nat) (hn : n < 256) : ((c.toNat : Int) = n) ↔ c = UInt8.ofNat n := by
  constructor
  · intro h
    have : c.toNat = n := by omega
    rw [← this, UInt8.ofNat_toNat]
  · rintro rfl
    simp only [UInt8.toNat_ofNat']
    omega

theorem u8i (c : UInt8) (n : Nat) (x : Int) (hx : x = n) (hn : n < 256) (h : (c.toNat : Int) = x) : c = UInt8.ofNat n := (u8 c n hn).1 (by omega)
theorem need_spec (k : Nat) (hk : 1 ≤ k) (c : UInt8) : chantryref03_need.f k (c.toNat : Int) = some (ar c) := by
  obtain ⟨k, rfl⟩ : ∃ m, k = m + 1 := ⟨k - 1, by omega⟩
  have e1 := u8 c 110 (by omega); have e2 := u8 c 99 (by omega); have e3 := u8 c 104 (by omega); have e4 := u8 c 100 (by omega)
  have e5 := u8 c 109 (by omega); have e6 := u8 c 115 (by omega); have e7 := u8 c 112 (by omega)
  simp only [chantryref03_need.f, chantryref03_need.j0]
  by_cases h1 : c = 110
  · subst h1; rfl
  by_cases h2 : c = 99
  · subst h2; rfl
  by_cases h3 : c = 104
  · subst h3; rfl
  by_cases h4 : c = 100
  · subst h4; rfl
  by_cases h5 : c = 109
  · subst h5; rfl
  by_cases h6 : c = 115
  · subst h6; rfl
  by_cases h7 : c = 112
  · subst h7; rfl
  have g1 : ¬ (c.toNat : Int) = 110 := fun h => h1 (e1.1 h)
  have g2 : ¬ (c.toNat : Int) = 99 := fun h => h2 (e2.1 h)
  have g3 : ¬ (c.toNat : Int) = 104 := fun h => h3 (e3.1 h)
  have g4 : ¬ (c.toNat : Int) = 100 := fun h => h4 (e4.1 h)
  have g5 : ¬ (c.toNat : Int) = 109 := fun h => h5 (e5.1 h)
  have g6 : ¬ (c.toNat : Int) = 115 := fun h => h6 (e6.1 h)
  have g7 : ¬ (c.toNat : Int) = 112 := fun h => h7 (e7.1 h)
  have ea : ar c = -1 := by unfold ar isTwo; simp [h1, h2, h3, h4, h5, h6, h7]
  rw [ea, if_neg g1, show ((c.toNat : Int) == 99) = false from beq_eq_false_iff_ne.2 g2, if_neg (by decide), if_neg g3, if_neg g4, if_neg g5, if_neg g6, if_neg g7]

/-! ### bytes at a place -/
theorem len_eq (s : ByteArray) : s.data.toList.length = s.size := by rw [Array.length_toList]; rfl
theorem drop_cons {s : ByteArray} {p : Nat} {c : UInt8} {r : List UInt8} (h : s.data.toList.drop p = c :: r) : p < s.size ∧ bt s (p : Int) = (c.toNat : Int) ∧ s.data.toList.drop (p + 1) = r := by
  have hl := congrArg List.length h
  rw [List.length_drop, len_eq, List.length_cons] at hl
  have hp : p < s.size := by omega
  have hp' : p < s.data.toList.length := by rw [len_eq]; exact hp
  have e : s.data.toList.drop p = s[p] :: s.data.toList.drop (p + 1) := by rw [List.drop_eq_getElem_cons hp']; rfl
  rw [h] at e
  injection e with e1 e2
  refine ⟨hp, ?_, e2.symm⟩
  unfold bt
  rw [dif_pos (by simpa using hp), e1]
  rfl
theorem drop_at {s : ByteArray} {p : Nat} (hp : p < s.size) : ∃ c, s.data.toList.drop p = c :: s.data.toList.drop (p + 1) := by
  have hp' : p < s.data.toList.length := by rw [len_eq]; exact hp
  exact ⟨_, List.drop_eq_getElem_cons hp'⟩
theorem drop_add {s : ByteArray} {p n : Nat} {l r : List UInt8} (h : s.data.toList.drop p = l ++ r) (hn : l.length = n) : s.data.toList.drop (p + n) = r := by
  rw [← List.drop_drop, h, ← hn, List.drop_left]
theorem drop_len {s : ByteArray} {p : Nat} {l : List UInt8} (hp : p ≤ s.size) (h : s.data.toList.drop p = l) : p + l.length = s.size := by
  have hl := congrArg List.length h
  rw [List.length_drop, len_eq] at hl
  omega

/-! ### own: how many bytes of its own a term has that begins there -/
def tokC : List UInt8 → Int
  | [] => 0
  | n :: l' => if 40 < n.toNat ∨ l'.length < n.toNat then 0 else 2 + (n.toNat : Int)
def tok : List UInt8 → Int
  | [] => 0
  | c :: l => if ar c < 0 then 0 else if c = 110 then (if l.length < 2 then 0 else 3) else if c = 99 then tokC l else 1

theorem ar_ne (c : UInt8) : ar c < 0 → c ≠ 110 ∧ c ≠ 99 := by
  intro h
  constructor <;> (rintro rfl; revert h; decide)

theorem own_spec (k : Nat) (hk : 4 ≤ k) (s : ByteArray) (hs : s.size ≤ 100000) (p : Nat) (hp : p ≤ s.size) : chantryref03_own.f k s (p : Int) = some (tok (s.data.toList.drop p)) := by
  obtain ⟨k, rfl⟩ : ∃ m, k = m + 3 := ⟨k - 3, by omega⟩
  have hw : wrap64 ((s.size : Int) - p) = (s.size : Int) - p := wr (by omega) (by omega)
  have hw1 : wrap64 ((p : Int) + 1) = ((p + 1 : Nat) : Int) := by rw [wr (by omega) (by omega)]; omega
  unfold chantryref03_own.f
  rw [hw]
  by_cases hlt : p < s.size
  · obtain ⟨c, hd⟩ := drop_at hlt
    obtain ⟨_, hb, _⟩ := drop_cons hd
    have hl := drop_len (by omega) hd
    simp only [List.length_cons] at hl
    rw [if_neg (by omega), if_pos (by omega), if_pos (by omega), hb, need_spec _ (by omega), Option.bind_some, hd]
    have hn := ar_ne c
    by_cases h1 : ar c < 0
    · rw [decide_eq_true h1]
      simp only [chantryref03_own.j0, if_true, tok]
      rw [if_pos h1]
    · rw [decide_eq_false h1]
      simp only [chantryref03_own.j0]
      rw [if_neg (by decide), if_pos (by omega), if_pos (by omega), hb]
      simp only [tok]
      rw [if_neg h1]
      clear hn h1
      by_cases h2 : c = 110
      · rw [if_pos (show (c.toNat : Int) = 110 by rw [h2]; rfl), if_pos h2]
        simp only [chantryref03_own.j1]
        rw [if_pos (by omega), if_pos (by omega), hb, if_neg (show ¬ (c.toNat : Int) = 99 by rw [h2]; decide)]
        by_cases h3 : (s.data.toList.drop (p + 1)).length < 2
        · rw [if_pos (by omega), if_pos h3]
        · rw [if_neg (by omega), if_neg h3]
      · rw [if_neg (fun h => h2 (u8i c 110 110 rfl (by decide) h)), if_neg h2]
        simp only [chantryref03_own.j1]
        rw [if_pos (by omega), if_pos (by omega), hb]
        by_cases h3 : c = 99
        · rw [if_pos (show (c.toNat : Int) = 99 by rw [h3]; rfl), if_pos h3]
          clear h3 h2 hb
          by_cases h4 : p + 1 < s.size
          · obtain ⟨n, hd2⟩ := drop_at h4
            obtain ⟨_, hb2, _⟩ := drop_cons hd2
            have hl2 := drop_len (by omega) hd2
            simp only [List.length_cons] at hl2
            have hnb := n.toNat_lt
            simp only [chantryref03_own.j2]
            rw [hw1, hb2, hd2]
            clear hd2 hb2 hd
            simp only [tokC]
            rw [if_neg (by omega), if_pos (by omega), if_pos (by omega)]
            by_cases h5 : 40 < n.toNat
            · rw [show decide ((n.toNat : Int) > 40) = true from decide_eq_true (by omega), if_pos rfl, if_pos (.inl h5)]
            · have e2 : wrap64 (n.toNat : Int) = n.toNat := wr (by omega) (by omega)
              have e3 : wrap64 (2 + (n.toNat : Int)) = 2 + n.toNat := wr (by omega) (by omega)
              rw [show decide ((n.toNat : Int) > 40) = false from decide_eq_false (by omega), if_neg (by decide), if_pos (by omega), if_pos (by omega), e2, e3]
              by_cases h6 : (s.data.toList.drop (p + 1 + 1)).length < n.toNat
              · rw [if_pos (by omega), if_pos (.inr h6)]
              · rw [if_neg (by omega), if_neg (by omega)]
          · have e : s.data.toList.drop (p + 1) = [] := List.drop_eq_nil_of_le (by rw [len_eq]; omega)
            rw [if_pos (by omega), e]
            simp only [chantryref03_own.j2, if_true, tokC]
        · rw [if_neg (fun h => h3 (u8i c 99 99 rfl (by decide) h)), if_neg h3, if_neg (by omega)]
  · have e : s.data.toList.drop p = [] := List.drop_eq_nil_of_le (by rw [len_eq]; omega)
    rw [if_pos (by omega), e]
    simp only [chantryref03_own.j0, if_true, tok]

def tokLen : Tm → Nat
  | .nonce _ _ => 3
  | .const l => 2 + l.length
  | .hash _ => 1
  | .two _ _ _ => 1
theorem tok_enc {t : Tm} (ho : t.ok) (r : List UInt8) : tok (t.enc ++ r) = tokLen t := by
  cases t with
  | nonce a b => simp [Tm.enc, tok, tokLen, ar]
  | const l =>
    have h1 : (UInt8.ofNat l.length).toNat = l.length := by
      simp only [Tm.ok] at ho
      simp only [UInt8.toNat_ofNat']
      omega
    simp only [Tm.ok] at ho
    simp only [Tm.enc, List.cons_append, tok, tokC, h1, tokLen]
    rw [if_neg (by decide), if_neg (by decide), if_pos trivial, if_neg (by simp; omega)]
    omega
  | hash t => simp [Tm.enc, tok, tokLen, ar]
  | two k a b =>
    have hn := isTwo_ne ho.1
    have ha : ar k = 2 := by unfold ar; rw [if_neg (by simp [hn.1, hn.2.1]), if_neg hn.2.2, if_pos ho.1]
    simp only [Tm.enc, List.cons_append, tok, tokLen]
    rw [if_neg (by omega), if_neg hn.1, if_neg hn.2.1]
    rfl
theorem ar_kind {t : Tm} (ho : t.ok) : ar t.kind = t.parts.length := by
  cases t with
  | nonce a b => rfl
  | const l => rfl
  | hash t => rfl
  | two k a b =>
    have hn := isTwo_ne ho.1
    show ar k = 2
    unfold ar; rw [if_neg (by simp [hn.1, hn.2.1]), if_neg hn.2.2, if_pos ho.1]

/-! ### End -/
theorem bt_kind {s : ByteArray} {p : Nat} {t : Tm} {r : List UInt8} (h : s.data.toList.drop p = t.enc ++ r) : p < s.size ∧ bt s (p : Int) = (t.kind.toNat : Int) := by
  obtain ⟨l, hl⟩ := enc_kind t
  rw [hl, List.cons_append] at h
  obtain ⟨h1, h2, _⟩ := drop_cons h
  exact ⟨h1, h2⟩
theorem tokLen_pos (t : Tm) : 1 ≤ tokLen t := by cases t <;> simp [tokLen] <;> omega
theorem enc_tok : ∀ t : Tm, t.enc.length = tokLen t + (t.parts.map fun u => u.enc.length).sum
  | .nonce _ _ => by simp [Tm.enc, tokLen, Tm.parts]
  | .const _ => by simp [Tm.enc, tokLen, Tm.parts]; omega
  | .hash _ => by simp [Tm.enc, tokLen, Tm.parts]; omega
  | .two _ _ _ => by simp [Tm.enc, tokLen, Tm.parts]; omega

/-- One round of End's loop at a term. -/
theorem end_round (k : Nat) (hk : 4 ≤ k) (s : ByteArray) (hs : s.size ≤ 100000) (p : Nat) (t : Tm) (ho : t.ok) (r : List UInt8) (hd : s.data.toList.drop p = t.enc ++ r) (m : Nat) (hm : m ≤ 200000) :
    chantryref03_End.l0 (k + 1) s (p : Int) ((m + 1 : Nat) : Int) = chantryref03_End.l0 k s ((p + tokLen t : Nat) : Int) ((m + t.parts.length : Nat) : Int) := by
  obtain ⟨hp, hb⟩ := bt_kind hd
  have HB := Lib.hid hb; clear hb
  have hown := own_spec k hk s hs p (by omega)
  rw [hd, tok_enc ho] at hown
  have htl : tokLen t ≤ t.enc.length := by rw [enc_tok t]; omega
  have hlen : p + (t.enc ++ r).length = s.size := drop_len (by omega) hd
  rw [List.length_append] at hlen
  have htp := tokLen_pos t
  have hpl : t.parts.length ≤ 2 := by cases t <;> simp [Tm.parts]
  have e1 : wrap64 ((p : Int) + (tokLen t : Int)) = ((p + tokLen t : Nat) : Int) := by rw [wr (by omega) (by omega)]; omega
  have E1 := Lib.hid e1; clear e1
  have e2 : wrap64 (wrap64 (((m + 1 : Nat) : Int) - 1) + (t.parts.length : Int)) = ((m + t.parts.length : Nat) : Int) := by
    rw [wr (x := ((m + 1 : Nat) : Int) - 1) (by omega) (by omega), wr (by omega) (by omega)]; omega
  have E2 := Lib.hid e2; clear e2
  have HO := Lib.hid hown; clear hown
  simp only [chantryref03_End.l0]
  rw [if_pos (by omega), HO.out, Option.bind_some, if_neg (by omega), if_pos (by omega), if_pos (by omega), HB.out, need_spec k (by omega), ar_kind ho, Option.bind_some, E1.out, E2.out]

theorem end_ok : ∀ (t : Tm) (s : ByteArray) (p : Nat) (r : List UInt8) (m : Nat), s.size ≤ 100000 → t.ok → s.data.toList.drop p = t.enc ++ r → m + t.enc.length ≤ 200000 →
    ∃ j, j ≤ t.enc.length ∧ ∀ k, 4 ≤ k → chantryref03_End.l0 (k + j) s (p : Int) ((m + 1 : Nat) : Int) = chantryref03_End.l0 k s ((p + t.enc.length : Nat) : Int) (m : Int)
  | .nonce a b, s, p, r, m, hs, ho, hd, hm => ⟨1, by simp [Tm.enc], fun k hk => end_round k hk s hs p _ ho r hd m (by omega)⟩
  | .const l, s, p, r, m, hs, ho, hd, hm => by
    refine ⟨1, by simp [Tm.enc], fun k hk => ?_⟩
    rw [end_round k hk s hs p _ ho r hd m (by omega), enc_tok]
    rfl
  | .hash t, s, p, r, m, hs, ho, hd, hm => by
    have hd1 : s.data.toList.drop (p + 1) = t.enc ++ r := (drop_cons (c := 104) hd).2.2
    simp only [Tm.enc, List.length_cons] at hm
    obtain ⟨j, hj, h⟩ := end_ok t s (p + 1) r m hs ho hd1 (by omega)
    refine ⟨j + 1, by simp [Tm.enc]; omega, fun k hk => ?_⟩
    rw [← Nat.add_assoc, end_round (k + j) (by omega) s hs p _ ho r hd m (by omega)]
    have := h k hk
    simp only [tokLen, Tm.parts, List.length_cons, List.length_nil]
    rw [this]
    simp only [Tm.enc, List.length_cons]
    rw [show p + 1 + t.enc.length = p + (t.enc.length + 1) by omega]
  | .two c a b, s, p, r, m, hs, ho, hd, hm => by
    have hd1 : s.data.toList.drop (p + 1) = a.enc ++ (b.enc ++ r) := by
      have := (drop_cons (c := c) hd).2.2
      exact this.trans (List.append_assoc _ _ _)
    have hd2 : s.data.toList.drop (p + 1 + a.enc.length) = b.enc ++ r := drop_add hd1 rfl
    simp only [Tm.enc, List.length_cons, List.length_append] at hm
    obtain ⟨j1, hj1, h1⟩ := end_ok a s (p + 1) _ (m + 1) hs ho.2.1 hd1 (by omega)
    obtain ⟨j2, hj2, h2⟩ := end_ok b s (p + 1 + a.enc.length) r m hs ho.2.2 hd2 (by omega)
    refine ⟨j2 + j1 + 1, by simp [Tm.enc]; omega, fun k hk => ?_⟩
    rw [show k + (j2 + j1 + 1) = k + j2 + j1 + 1 by omega, end_round (k + j2 + j1) (by omega) s hs p _ ho r hd m (by omega)]
    simp only [tokLen, Tm.parts, List.length_cons, List.length_nil]
    have e1 := h1 (k + j2) (by omega)
    have e2 := h2 k hk
    rw [show m + (0 + 1 + 1) = m + 1 + 1 by omega, e1, e2]
    simp only [Tm.enc, List.length_cons, List.length_append]
    rw [show p + 1 + a.enc.length + b.enc.length = p + (a.enc.length + b.enc.length + 1) by omega]

/-- Where no term is read, the first token that is none ends it. -/
theorem end_bad : ∀ (n : Nat) (s : ByteArray) (p : Nat) (m : Nat), s.size ≤ 100000 → p ≤ s.size → parse n (s.data.toList.drop p) = none → s.size - p < n → m + (s.size - p) ≤ 200000 →
    ∃ j, j ≤ s.size - p + 1 ∧ ∀ k, 4 ≤ k → chantryref03_End.l0 (k + j) s (p : Int) ((m + 1 : Nat) : Int) = some (-1) := by
  intro n
  induction n with
  | zero => intro s p m _ _ _ h; omega
  | succ n ih =>
    intro s p m hs hp h hn hm
    have stop : tok (s.data.toList.drop p) = 0 → ∃ j, j ≤ s.size - p + 1 ∧ ∀ k, 4 ≤ k → chantryref03_End.l0 (k + j) s (p : Int) ((m + 1 : Nat) : Int) = some (-1) := by
      intro h0
      refine ⟨1, by omega, fun k hk => ?_⟩
      simp only [chantryref03_End.l0]
      rw [if_pos (by omega), own_spec k hk s hs p hp, h0, Option.bind_some, if_pos rfl]
    by_cases hlt : p < s.size
    · obtain ⟨c, hd⟩ := drop_at hlt
      obtain ⟨_, hb, _⟩ := drop_cons hd
      have hl := drop_len (by omega) hd
      simp only [List.length_cons] at hl
      rw [hd] at h stop
      simp only [parse] at h
      have HB := Lib.hid hb; clear hb
      by_cases h1 : c = 110
      · rw [if_pos h1] at h
        apply stop
        subst h1
        match hq : s.data.toList.drop (p + 1), h with
        | [], _ => rfl
        | [x], _ => rfl
        | x :: y :: l, h => simp at h
      rw [if_neg h1] at h
      by_cases h2 : c = 99
      · rw [if_pos h2] at h
        apply stop
        subst h2
        match hq : s.data.toList.drop (p + 1), h with
        | [], _ => rfl
        | x :: l, h =>
          by_cases h3 : x.toNat ≤ 40 ∧ x.toNat ≤ l.length
          · simp [if_pos h3] at h
          · simp only [tok, tokC]
            rw [if_neg (by decide), if_neg (by decide), if_pos trivial, if_pos (by omega)]
      rw [if_neg h2] at h
      have hgo : ∀ q : Int, ar c = q → 0 < q → ∀ k, 4 ≤ k → chantryref03_End.l0 (k + 1) s (p : Int) ((m + 1 : Nat) : Int) = chantryref03_End.l0 k s ((p + 1 : Nat) : Int) ((m : Int) + q) := by
        intro q hq hq0 k hk
        have hq2 : q ≤ 2 := by rw [← hq]; unfold ar; split <;> (try split) <;> (try split) <;> omega
        have e1 : Hid (wrap64 ((p : Int) + 1) = ((p + 1 : Nat) : Int)) := by apply Lib.hid; rw [wr (by omega) (by omega)]; omega
        have e2 : Hid (wrap64 (wrap64 (((m + 1 : Nat) : Int) - 1) + q) = (m : Int) + q) := by
          apply Lib.hid; rw [wr (x := ((m + 1 : Nat) : Int) - 1) (by omega) (by omega), wr (by omega) (by omega)]; omega
        have ht : tok (c :: s.data.toList.drop (p + 1)) = 1 := by
          simp only [tok]
          rw [hq, if_neg (by omega), if_neg h1, if_neg h2]
        simp only [chantryref03_End.l0]
        rw [if_pos (by omega), own_spec k hk s hs p hp, hd, ht, Option.bind_some, if_neg (by decide), if_pos (by omega), if_pos (by omega), HB.out, need_spec k (by omega), hq, Option.bind_some, e1.out, e2.out]
      by_cases h3 : c = 104
      · rw [if_pos h3] at h
        have hpn : parse n (s.data.toList.drop (p + 1)) = none := by
          cases hq : parse n (s.data.toList.drop (p + 1)) with
          | none => rfl
          | some x => rw [hq] at h; simp at h
        obtain ⟨j, hj, hh⟩ := ih s (p + 1) m hs (by omega) hpn (by omega) (by omega)
        refine ⟨j + 1, by omega, fun k hk => ?_⟩
        rw [← Nat.add_assoc, hgo 1 (by rw [h3]; rfl) (by omega) (k + j) (by omega)]
        exact hh k hk
      rw [if_neg h3] at h
      by_cases h4 : isTwo c = true
      · rw [if_pos h4] at h
        have ha : ar c = 2 := by unfold ar; rw [if_neg (by simp [h1, h2]), if_neg h3, if_pos h4]
        cases hq : parse n (s.data.toList.drop (p + 1)) with
        | none =>
          obtain ⟨j, hj, hh⟩ := ih s (p + 1) (m + 1) hs (by omega) hq (by omega) (by omega)
          refine ⟨j + 1, by omega, fun k hk => ?_⟩
          rw [← Nat.add_assoc, hgo 2 ha (by omega) (k + j) (by omega)]
          exact hh k hk
        | some x =>
          obtain ⟨a, r1⟩ := x
          rw [hq] at h
          simp only [Option.bind_some] at h
          obtain ⟨e, hoa⟩ := parse_sound _ _ _ _ hq
          have hl1 := drop_len (by omega) e
          rw [List.length_append] at hl1
          have hr1 : s.data.toList.drop (p + 1 + a.enc.length) = r1 := drop_add e rfl
          have hpn : parse n (s.data.toList.drop (p + 1 + a.enc.length)) = none := by
            rw [hr1]
            cases hq2 : parse n r1 with
            | none => rfl
            | some x => rw [hq2] at h; simp at h
          obtain ⟨j1, hj1, hh1⟩ := end_ok a s (p + 1) r1 (m + 1) hs hoa e (by omega)
          obtain ⟨j2, hj2, hh2⟩ := ih s (p + 1 + a.enc.length) m hs (by omega) hpn (by omega) (by omega)
          refine ⟨j2 + j1 + 1, by omega, fun k hk => ?_⟩
          rw [show k + (j2 + j1 + 1) = k + j2 + j1 + 1 by omega, hgo 2 ha (by omega) (k + j2 + j1) (by omega)]
          have e1 := hh1 (k + j2) (by omega)
          rw [show (m : Int) + 2 = ((m + 1 + 1 : Nat) : Int) by omega, e1]
          exact hh2 k hk
      · apply stop
        have ha : ar c = -1 := by unfold ar; rw [if_neg (by simp [h1, h2]), if_neg h3, if_neg h4]
        simp only [tok]
        rw [ha, if_pos (by decide)]
    · apply stop
      rw [List.drop_eq_nil_of_le (by rw [len_eq]; omega)]
      rfl

/-- End, at any place. -/
theorem end_spec (k : Nat) (s : ByteArray) (hs : s.size ≤ 100000) (hk : s.size + 10 ≤ k) (p : Nat) (hp : p ≤ s.size) :
    chantryref03_End.f k s (p : Int) = some (match parse (s.size + 1) (s.data.toList.drop p) with | some (t, _) => ((p + t.enc.length : Nat) : Int) | none => -1) := by
  unfold chantryref03_End.f
  cases h : parse (s.size + 1) (s.data.toList.drop p) with
  | none =>
    obtain ⟨j, hj, hh⟩ := end_bad (s.size + 1) s p 0 hs hp h (by omega) (by omega)
    have := hh (k - j) (by omega)
    rw [show k - j + j = k by omega] at this
    exact this
  | some x =>
    obtain ⟨t, r⟩ := x
    obtain ⟨e, ho⟩ := parse_sound _ _ _ _ h
    have hl := drop_len hp e
    rw [List.length_append] at hl
    obtain ⟨j, hj, hh⟩ := end_ok t s p r 0 hs ho e (by omega)
    have := hh (k - j) (by omega)
    rw [show k - j + j = k by omega] at this
    refine this.trans ?_
    obtain ⟨q, hq⟩ : ∃ q, k - j = q + 1 := ⟨k - j - 1, by omega⟩
    rw [hq]
    simp only [chantryref03_End.l0]
    rw [if_neg (by decide)]
theorem end_at (k : Nat) (s : ByteArray) (hs : s.size ≤ 100000) (hk : s.size + 10 ≤ k) (p : Nat) (t : Tm) (ho : t.ok) (r : List UInt8) (hd : s.data.toList.drop p = t.enc ++ r) :
    chantryref03_End.f k s (p : Int) = some ((p + t.enc.length : Nat) : Int) := by
  obtain ⟨hp, _⟩ := bt_kind hd
  rw [end_spec k s hs hk p (by omega), hd]
  have hl := drop_len (by omega) hd
  rw [List.length_append] at hl
  rw [parse_enc t (s.size + 1) r ho (by have := t.depth_le; omega)]

/-! ### Depth -/
theorem mx_eq (a b : Int) : mx a b = max a b := by unfold mx; omega
/-- What is done where a term ends: the next level, or the answer. -/
def pop (k : Nat) (s : ByteArray) (todo : List Int) (top : Int) (p : Int) : Option Int :=
  match todo.reverse with
  | [] => some top
  | lv :: r => chantryref03_Depth.l0 k s r.reverse top p lv
theorem pop_snoc (k : Nat) (s : ByteArray) (td : List Int) (lv top p : Int) : pop k s (td ++ [lv]) top p = chantryref03_Depth.l0 k s td top p lv := by simp [pop]

theorem depth_leaf (k : Nat) (hk : 4 ≤ k) (s : ByteArray) (hs : s.size ≤ 100000) (p : Nat) (t : Tm) (ho : t.ok) (r : List UInt8) (hd : s.data.toList.drop p = t.enc ++ r) (hp0 : t.parts = []) (todo : List Int) (htl : todo.length ≤ 200000) (top level : Int) :
    chantryref03_Depth.l0 (k + 1) s todo top (p : Int) level = pop k s todo (max top level) ((p + t.enc.length : Nat) : Int) := by
  obtain ⟨hp, hb⟩ := bt_kind hd
  have HB := Lib.hid hb; clear hb
  have hown := own_spec k hk s hs p (by omega)
  rw [hd, tok_enc ho] at hown
  have htk : tokLen t = t.enc.length := by rw [enc_tok t, hp0]; simp
  have HO := Lib.hid hown; clear hown
  have hlen : p + (t.enc ++ r).length = s.size := drop_len (by omega) hd
  rw [List.length_append] at hlen
  have E1 : Hid (wrap64 ((p : Int) + (tokLen t : Int)) = ((p + t.enc.length : Nat) : Int)) := by apply Lib.hid; rw [wr (by omega) (by omega), htk]; omega
  have ha : Hid (ar t.kind = 0) := by apply Lib.hid; rw [ar_kind ho, hp0]; rfl
  simp only [chantryref03_Depth.l0]
  rw [if_pos (by omega), if_pos (by omega), HB.out, need_spec k (by omega), ha.out, Option.bind_some, HO.out, Option.bind_some, if_neg (by decide), if_neg (by decide), E1.out, mx_eq]
  rcases List.eq_nil_or_concat todo with rfl | ⟨td, lv, rfl⟩
  · rw [if_pos (show ((([] : List Int).length : Nat) : Int) = 0 from rfl)]; rfl
  · rw [List.concat_eq_append] at *
    rw [pop_snoc]
    simp only [List.length_append, List.length_cons, List.length_nil] at htl
    have e2 : wrap64 (((td ++ [lv]).length : Int) - 1) = (td.length : Int) := by
      rw [List.length_append, List.length_cons, List.length_nil, wr (by omega) (by omega)]; omega
    have E2 := Lib.hid e2; clear e2
    rw [if_neg (by simp; omega), E2.out, if_pos (by omega), if_pos (by simp; omega), if_pos (by simp; omega)]
    have h3 : (td ++ [lv]).take ((td.length : Int)).toNat = td := by rw [Int.toNat_natCast, List.take_left]
    have h4 : rd (td ++ [lv]) (td.length : Int) = lv := by unfold rd; rw [Int.toNat_natCast]; simp [List.getD_eq_getElem?_getD]
    rw [h3, h4]

theorem depth_ok : ∀ (t : Tm) (s : ByteArray) (p : Nat) (r : List UInt8) (todo : List Int) (top level : Int), s.size ≤ 100000 → t.ok → s.data.toList.drop p = t.enc ++ r → todo.length + t.enc.length ≤ 200000 → 0 ≤ level → level + t.enc.length ≤ 200000 →
    ∃ j, j ≤ t.enc.length ∧ ∀ k, 4 ≤ k → chantryref03_Depth.l0 (k + j) s todo top (p : Int) level = pop k s todo (max top (level + t.depth - 1)) ((p + t.enc.length : Nat) : Int)
  | .nonce a b, s, p, r, todo, top, level, hs, ho, hd, htd, h0, h1 => by
    refine ⟨1, by simp [Tm.enc], fun k hk => ?_⟩
    rw [depth_leaf k hk s hs p _ ho r hd rfl todo (by omega) top level]
    simp only [Tm.depth]
    rw [show level + ((1 : Nat) : Int) - 1 = level by omega]
  | .const l, s, p, r, todo, top, level, hs, ho, hd, htd, h0, h1 => by
    refine ⟨1, by simp [Tm.enc], fun k hk => ?_⟩
    rw [depth_leaf k hk s hs p _ ho r hd rfl todo (by omega) top level]
    simp only [Tm.depth]
    rw [show level + ((1 : Nat) : Int) - 1 = level by omega]
  | .hash t, s, p, r, todo, top, level, hs, ho, hd, htd, h0, h1 => by
    have hd1 : s.data.toList.drop (p + 1) = t.enc ++ r := (drop_cons (c := 104) hd).2.2
    simp only [Tm.enc, List.length_cons] at htd h1
    obtain ⟨j, hj, h⟩ := depth_ok t s (p + 1) r todo (max top level) (level + 1) hs ho hd1 (by omega) (by omega) (by omega)
    refine ⟨j + 1, by simp [Tm.enc]; omega, fun k hk => ?_⟩
    obtain ⟨hp, hb⟩ := bt_kind hd
    have HB := Lib.hid hb; clear hb
    have hown := own_spec (k + j) (by omega) s hs p (by omega)
    rw [hd, tok_enc ho] at hown
    have HO := Lib.hid hown; clear hown
    have hdp := t.depth_pos
    have hlen : p + ((Tm.hash t).enc ++ r).length = s.size := drop_len (by omega) hd
    simp only [List.length_append, Tm.enc, List.length_cons] at hlen
    have E1 : Hid (wrap64 ((p : Int) + (tokLen (.hash t) : Int)) = ((p + 1 : Nat) : Int)) := by apply Lib.hid; simp only [tokLen]; rw [wr (by omega) (by omega)]; omega
    have E2 : Hid (wrap64 (level + 1) = level + 1) := by apply Lib.hid; exact wr (by omega) (by omega)
    rw [← Nat.add_assoc]
    simp only [chantryref03_Depth.l0]
    rw [if_pos (by omega), if_pos (by omega), HB.out, need_spec _ (by omega), show ar (Tm.hash t).kind = 1 from rfl, Option.bind_some, HO.out, Option.bind_some, if_pos rfl, E1.out, E2.out, mx_eq, h k hk]
    simp only [Tm.enc, List.length_cons, Tm.depth]
    rw [show p + 1 + t.enc.length = p + (t.enc.length + 1) by omega, show max (max top level) (level + 1 + (t.depth : Int) - 1) = max top (level + ((t.depth + 1 : Nat) : Int) - 1) by omega]
  | .two c a b, s, p, r, todo, top, level, hs, ho, hd, htd, h0, h1 => by
    have hd1 : s.data.toList.drop (p + 1) = a.enc ++ (b.enc ++ r) := by
      have := (drop_cons (c := c) hd).2.2
      exact this.trans (List.append_assoc _ _ _)
    have hd2 : s.data.toList.drop (p + 1 + a.enc.length) = b.enc ++ r := drop_add hd1 rfl
    simp only [Tm.enc, List.length_cons, List.length_append] at htd h1
    have hap := a.enc_pos
    have hbp := b.enc_pos
    obtain ⟨j1, hj1, hh1⟩ := depth_ok a s (p + 1) _ (todo ++ [level + 1]) (max top level) (level + 1) hs ho.2.1 hd1 (by simp; omega) (by omega) (by omega)
    obtain ⟨j2, hj2, hh2⟩ := depth_ok b s (p + 1 + a.enc.length) r todo (max (max top level) (level + 1 + a.depth - 1)) (level + 1) hs ho.2.2 hd2 (by omega) (by omega) (by omega)
    refine ⟨j2 + j1 + 1, by simp [Tm.enc]; omega, fun k hk => ?_⟩
    obtain ⟨hp, hb⟩ := bt_kind hd
    have HB := Lib.hid hb; clear hb
    have hown := own_spec (k + j2 + j1) (by omega) s hs p (by omega)
    rw [hd, tok_enc ho] at hown
    have HO := Lib.hid hown; clear hown
    have ha : Hid (ar (Tm.two c a b).kind = 2) := by apply Lib.hid; rw [ar_kind ho]; rfl
    have hda := a.depth_pos
    have hdb := b.depth_pos
    have hlen : p + ((Tm.two c a b).enc ++ r).length = s.size := drop_len (by omega) hd
    simp only [List.length_append, Tm.enc, List.length_cons] at hlen
    have E1 : Hid (wrap64 ((p : Int) + (tokLen (.two c a b) : Int)) = ((p + 1 : Nat) : Int)) := by apply Lib.hid; simp only [tokLen]; rw [wr (by omega) (by omega)]; omega
    have E2 : Hid (wrap64 (level + 1) = level + 1) := by apply Lib.hid; exact wr (by omega) (by omega)
    rw [show k + (j2 + j1 + 1) = k + j2 + j1 + 1 by omega]
    simp only [chantryref03_Depth.l0]
    rw [if_pos (by omega), if_pos (by omega), HB.out, need_spec _ (by omega), ha.out, Option.bind_some, HO.out, Option.bind_some, if_neg (by decide), if_pos rfl, if_pos (by omega), E1.out, E2.out, mx_eq, hh1 (k + j2) (by omega), pop_snoc, hh2 k hk]
    simp only [Tm.enc, List.length_cons, List.length_append, Tm.depth]
    rw [show p + 1 + a.enc.length + b.enc.length = p + (a.enc.length + b.enc.length + 1) by omega, show max (max (max top level) (level + 1 + (a.depth : Int) - 1)) (level + 1 + (b.depth : Int) - 1) = max top (level + ((max a.depth b.depth + 1 : Nat) : Int) - 1) by omega]

theorem depth_spec (k : Nat) (t : Tm) (ho : t.ok) (hs : t.enc.length ≤ 100000) (hk : t.enc.length + 10 ≤ k) : chantryref03_Depth.f k t.str = some (t.depth : Int) := by
  have hsz : t.str.size = t.enc.length := by rw [Tm.str, strOf_size]
  have hd : t.str.data.toList.drop 0 = t.enc ++ [] := by rw [Tm.str, strOf_data]; simp
  obtain ⟨j, hj, h⟩ := depth_ok t t.str 0 [] [] 0 1 (by omega) ho hd (by simp; omega) (by omega) (by omega)
  have := h (k - j) (by omega)
  rw [show k - j + j = k by omega] at this
  unfold chantryref03_Depth.f
  refine Eq.trans this ?_
  simp only [pop, List.reverse_nil]
  have := t.depth_pos
  congr 1
  omega

/-! ### Check -/
theorem check_spec (k : Nat) (hk : 3000 ≤ k) (s : ByteArray) : chantryref03_Check.f k s = some (check s) := by
  unfold chantryref03_Check.f check
  by_cases hb : s.size > 2000
  · rw [if_pos (by omega), if_pos hb]
  · rw [if_neg (by omega), if_neg hb]
    have he := end_spec k s (by omega) (by omega) 0 (by omega)
    rw [List.drop_zero] at he
    rw [show ((0 : Nat) : Int) = 0 from rfl] at he
    rw [he, Option.bind_some]
    unfold TT.read
    cases hp : parse (s.size + 1) s.data.toList with
    | none =>
      simp only
      rw [if_neg (by omega)]
    | some x =>
      obtain ⟨t, r⟩ := x
      obtain ⟨e, ho⟩ := parse_sound _ _ _ _ hp
      have hl : s.data.toList.length = t.enc.length + r.length := by rw [e, List.length_append]
      rw [len_eq] at hl
      cases r with
      | nil =>
        simp only
        rw [List.length_nil] at hl
        have hstr : s = t.str := by rw [List.append_nil] at e; rw [Tm.str, ← e, strOf_of]
        rw [if_pos (by omega), hstr, depth_spec k t ho (by omega) (by omega), Option.bind_some]
        by_cases hd : t.depth > 60
        · rw [if_pos (by omega), if_pos hd]
        · rw [if_neg (by omega), if_neg hd]
      | cons x r =>
        simp only
        rw [List.length_cons] at hl
        rw [if_neg (by omega)]
end Go.Proofs.YtecimagjeelgbaaDoor.Ev03

/- The reference's Make: what it comes to (XEv03b without Parts and Open). -/
set_option linter.unusedVariables false
set_option linter.unusedSimpArgs false
namespace Go.Proofs.YtecimagjeelgbaaDoor.Ev03
open Go.RowKit Go.Proofs.YtecimagjeelgbaaDoor.Pr Go.Proofs.YtecimagjeelgbaaDoorW.PrintWords Go.Proofs.YtecimagjeelgbaaDoorW.PrintLast Go.Proofs.YtecimagjeelgbaaDoorW.PrintMore Go.Proofs.YtecimagjeelgbaaDoor.TT

theorem str_size (t : Tm) : t.str.size = t.enc.length := by rw [Tm.str, strOf_size]
theorem str_data (t : Tm) : t.str.data.toList = t.enc := by rw [Tm.str, strOf_data]
theorem cut_str {s : ByteArray} {p : Nat} {t : Tm} {r : List UInt8} (hd : s.data.toList.drop p = t.enc ++ r) : s.extract p (p + t.enc.length) = t.str := by
  have h3 : (s.extract p (p + t.enc.length)).data.toList = t.enc := by
    rw [ByteArray.data_extract, Array.toList_extract, List.extract_eq_take_drop, hd, Nat.add_sub_cancel_left, List.take_left]
  refine Eq.trans (strOf_of _).symm ?_
  rw [h3]; rfl
theorem bt_zero (t : Tm) : 0 < t.str.size ∧ bt t.str 0 = (t.kind.toNat : Int) := by
  have hd : t.str.data.toList.drop 0 = t.enc ++ [] := by rw [str_data]; simp
  exact bt_kind hd

/-! ### Make -/
theorem rdOf_0 (s : ByteArray) (l : List ByteArray) : rdOf ByteArray.empty (s :: l) 0 = s := rfl
theorem rdOf_1 (s u : ByteArray) (l : List ByteArray) : rdOf ByteArray.empty (s :: u :: l) 1 = u := rfl
theorem nums_one (c : UInt8) : strOfNums [(c.toNat : Int)] = strOf [c] := by
  unfold strOfNums strOf
  first | done | (rw [List.map_cons, List.map_nil, Int.toNat_natCast, UInt8.ofNat_toNat])
theorem strOf_app (l : List UInt8) (s : ByteArray) : strOf l ++ s = strOf (l ++ s.data.toList) := by
  apply ByteArray.ext
  apply Array.ext'
  rw [ByteArray.data_append, Array.toList_append, strOf_data, strOf_data]
theorem check_small {s : ByteArray} (h : check s = 0) : s.size ≤ 2000 := by
  unfold check at h
  split at h
  · omega
  · omega

theorem ref_make_spec (k : Nat) (hk : 4000 ≤ k) (c : UInt8) (l : List ByteArray) (hl : l.length ≤ 1000) : chantryref03_Make.f k (c.toNat : Int) l = some (makeOf c l) := by
  obtain ⟨k, rfl⟩ : ∃ m, k = m + 4 := ⟨k - 4, by omega⟩
  have ha : ar c ≤ 2 := by unfold ar; split <;> (try split) <;> (try split) <;> omega
  unfold chantryref03_Make.f
  rw [need_spec _ (by omega), Option.bind_some]
  by_cases h1 : ar c < 1
  · rw [if_pos h1]
    simp only [chantryref03_Make.j0]
    rw [if_pos trivial]
    unfold makeOf
    rw [if_pos (.inl h1)]
  rw [if_neg h1, Option.bind_some]
  by_cases h2 : ar c = (l.length : Int)
  · have hb : (ar c != (l.length : Int)) = false := by rw [h2]; exact bne_self_eq_false _
    rw [hb]
    simp only [chantryref03_Make.j0]
    rw [if_neg (by decide), nums_one]
    have hm : makeOf c l = match l.find? (fun s => decide (check s ≠ 0)) with
      | some s => (⟨#[]⟩, check s)
      | none => if check (strOf (c :: (l.map fun s => s.data.toList).flatten)) = 0 then (strOf (c :: (l.map fun s => s.data.toList).flatten), 0) else (⟨#[]⟩, 3) := by
      unfold makeOf; rw [if_neg (by omega)]; rfl
    rw [hm]
    match l, h2, hl with
    | [], h2, _ => simp at h2; omega
    | [s], h2, _ =>
      simp only [chantryref03_Make.l0, List.length_cons, List.length_nil]
      rw [if_pos (by decide), if_pos (by decide), rdOf_0, check_spec _ (by omega), Option.bind_some]
      by_cases hc : check s = 0
      · have hsz := check_small hc
        rw [if_pos hc, if_pos (by rw [strOf_size]; simp; omega), show wrap64 (0 + 1) = 1 from wr (by omega) (by omega), if_neg (by decide), strOf_app, check_spec _ (by omega), Option.bind_some]
        have hf : [s].find? (fun s => decide (check s ≠ 0)) = none := by simp [hc]
        rw [hf]
        have e : ([s].map fun s => s.data.toList).flatten = s.data.toList := by simp
        rw [e]
        simp only [List.singleton_append]
        by_cases h5 : check (strOf (c :: s.data.toList)) = 0
        · rw [if_pos h5]; (try simp only); rw [if_pos h5]
        · rw [if_neg h5]; (try simp only); rw [if_neg h5]
      · rw [if_neg hc]
        have hf : [s].find? (fun s => decide (check s ≠ 0)) = some s := by simp [hc]
        rw [hf]
    | [s, u], h2, _ =>
      simp only [chantryref03_Make.l0, List.length_cons, List.length_nil]
      rw [if_pos (by decide), if_pos (by decide), rdOf_0, check_spec _ (by omega), Option.bind_some]
      by_cases hc : check s = 0
      · have hsz := check_small hc
        rw [if_pos hc, if_pos (by rw [strOf_size]; simp; omega), show wrap64 (0 + 1) = 1 from wr (by omega) (by omega), if_pos (by decide), if_pos (by decide), rdOf_1, strOf_app, check_spec _ (by omega), Option.bind_some]
        by_cases hd : check u = 0
        · have hsu := check_small hd
          have hq : s.data.toList.length = s.size := len_eq s
          rw [if_pos hd, if_pos (by rw [strOf_size]; simp; omega), show wrap64 (1 + 1) = 2 from wr (by omega) (by omega), if_neg (by decide), strOf_app, check_spec _ (by omega), Option.bind_some]
          have hf : [s, u].find? (fun s => decide (check s ≠ 0)) = none := by simp [hc, hd]
          rw [hf]
          have e : ([s, u].map fun s => s.data.toList).flatten = s.data.toList ++ u.data.toList := by simp
          rw [e]
          simp only [List.singleton_append, List.cons_append, List.nil_append]
          by_cases h5 : check (strOf (c :: (s.data.toList ++ u.data.toList))) = 0
          · rw [if_pos h5]; (try simp only); rw [if_pos h5]
          · rw [if_neg h5]; (try simp only); rw [if_neg h5]
        · rw [if_neg hd]
          have hf : [s, u].find? (fun s => decide (check s ≠ 0)) = some u := by simp [hc, hd]
          rw [hf]
      · rw [if_neg hc]
        have hf : [s, u].find? (fun s => decide (check s ≠ 0)) = some s := by simp [hc]
        rw [hf]
    | s :: u :: v :: r, h2, _ => simp only [List.length_cons] at h2; omega
  · have hb : (ar c != (l.length : Int)) = true := by simpa using h2
    rw [hb]
    simp only [chantryref03_Make.j0]
    rw [if_pos trivial]
    unfold makeOf
    rw [if_pos (.inr h2)]

theorem toList_iff (a b : ByteArray) : a.toList = b.toList ↔ a = b := by
  rw [Go.ByteArray.toList_eq, Go.ByteArray.toList_eq]
  constructor
  · intro h
    apply ByteArray.ext
    exact Array.ext' h
  · rintro rfl; rfl

end Go.Proofs.YtecimagjeelgbaaDoor.Ev03

/- What a Make that is fine tells, and what the parts of a good term are. Plain law. -/
set_option linter.unusedVariables false
set_option linter.unusedSimpArgs false
namespace Go.Proofs.YtecimagjeelgbaaDoor.Ev03
open Go.RowKit Go.Proofs.YtecimagjeelgbaaDoor.Pr Go.Proofs.YtecimagjeelgbaaDoorW.PrintWords Go.Proofs.YtecimagjeelgbaaDoorW.PrintLast Go.Proofs.YtecimagjeelgbaaDoorW.PrintMore Go.Proofs.YtecimagjeelgbaaDoor.TT

/-- A Make that is not fine makes the empty text. -/
theorem made_bad {c : UInt8} {l : List ByteArray} (h : ¬ (makeOf c l).2 = 0) : (makeOf c l).1 = ⟨#[]⟩ := by
  unfold makeOf at h ⊢
  split
  · rfl
  · rename_i h1
    rw [if_neg h1] at h
    split
    · rfl
    · rename_i h2
      rw [h2] at h
      simp only at h
      split
      · rename_i h3; rw [if_pos h3] at h; exact absurd rfl h
      · rfl
/-- A Make that is fine: all its parts are fine, and what it makes. -/
theorem made_ok {c : UInt8} {l : List ByteArray} (h : (makeOf c l).2 = 0) : ar c = (l.length : Int) ∧ (∀ s ∈ l, check s = 0) ∧ check (strOf (c :: (l.map fun s => s.data.toList).flatten)) = 0 ∧ (makeOf c l).1 = strOf (c :: (l.map fun s => s.data.toList).flatten) := by
  unfold makeOf at h ⊢
  split at h
  · simp at h
  · rename_i h1
    rw [if_neg h1]
    split at h
    · rename_i s hs
      have h2 := List.find?_some hs
      simp only [decide_eq_true_eq] at h2
      exact absurd h h2
    · rename_i h2
      split at h
      · rename_i h3
        rw [if_pos h3]
        refine ⟨by omega, ?_, h3, rfl⟩
        intro s hs
        have := List.find?_eq_none.1 h2 s hs
        simpa using this
      · simp at h
theorem made_two {c : UInt8} {s u : ByteArray} (h : (makeOf c [s, u]).2 = 0) : ar c = 2 ∧ check s = 0 ∧ check u = 0 ∧ check (strOf (c :: (s.data.toList ++ u.data.toList))) = 0 ∧ (makeOf c [s, u]).1 = strOf (c :: (s.data.toList ++ u.data.toList)) := by
  obtain ⟨h1, h2, h3, h4⟩ := made_ok h
  have e : ([s, u].map fun s => s.data.toList).flatten = s.data.toList ++ u.data.toList := by simp
  rw [e] at h3 h4
  exact ⟨h1, h2 s (by simp), h2 u (by simp), h3, h4⟩
theorem made_one {c : UInt8} {s : ByteArray} (h : (makeOf c [s]).2 = 0) : ar c = 1 ∧ check s = 0 ∧ check (strOf (c :: s.data.toList)) = 0 ∧ (makeOf c [s]).1 = strOf (c :: s.data.toList) := by
  obtain ⟨h1, h2, h3, h4⟩ := made_ok h
  have e : ([s].map fun s => s.data.toList).flatten = s.data.toList := by simp
  rw [e] at h3 h4
  exact ⟨h1, h2 s (by simp), h3, h4⟩
/-- Two good texts: one is not the beginning of the other. -/
theorem whole {s u : ByteArray} (hs : check s = 0) (hu : check u = 0) (h : s.size ≤ u.size) (e : (u.extract 0 s.size) = s) : u = s := by
  obtain ⟨t, _, ho, rfl, _⟩ := check_ok hs
  obtain ⟨v, _, hv, rfl, _⟩ := check_ok hu
  have e1 : v.enc = t.enc ++ v.enc.drop t.enc.length := by
    have h2 : (v.str.extract 0 t.str.size).data.toList = t.enc := by rw [e]; exact str_data t
    rw [ByteArray.data_extract, Array.toList_extract, List.extract_eq_take_drop, str_data, str_size] at h2
    simp only [Nat.sub_zero, List.drop_zero] at h2
    conv => lhs; rw [← List.take_append_drop t.enc.length v.enc, h2]
  have e2 := (enc_prefix (r := []) (q := v.enc.drop t.enc.length) hv ho (by simpa using e1)).1
  rw [e2]
theorem parts_ok {t : Tm} (ho : t.ok) : ∀ u ∈ t.parts, u.ok ∧ u.depth < t.depth ∧ u.enc.length < t.enc.length := by
  intro u hu
  cases t with
  | nonce a b => simp [Tm.parts] at hu
  | const l => simp [Tm.parts] at hu
  | hash t =>
    simp only [Tm.parts, List.mem_singleton] at hu
    subst hu
    exact ⟨ho, by simp [Tm.depth], by simp [Tm.enc]⟩
  | two k a b =>
    simp only [Tm.parts, List.mem_cons, List.not_mem_nil, or_false] at hu
    have ha := a.enc_pos
    have hb := b.enc_pos
    rcases hu with rfl | rfl
    · exact ⟨ho.2.1, by simp [Tm.depth]; omega, by simp [Tm.enc]; omega⟩
    · exact ⟨ho.2.2, by simp [Tm.depth]; omega, by simp only [Tm.enc, List.length_cons, List.length_append]; omega⟩
theorem check_part {t u : Tm} (ho : t.ok) (hd : t.depth ≤ 60) (hl : t.enc.length ≤ 2000) (hu : u ∈ t.parts) : check u.str = 0 ∧ u.ok ∧ u.str.size < t.str.size := by
  obtain ⟨h1, h2, h3⟩ := parts_ok ho u hu
  exact ⟨check_str h1 (by omega) (by omega), h1, by rw [str_size, str_size]; exact h3⟩
theorem append_str (c : UInt8) (a b : ByteArray) : (strOf (c :: (a.data.toList ++ b.data.toList))).size = 1 + a.size + b.size := by
  rw [strOf_size, List.length_cons, List.length_append, len_eq, len_eq]; omega
theorem two_str (k : UInt8) (a b : Tm) : strOf (k :: (a.str.data.toList ++ b.str.data.toList)) = (Tm.two k a b).str := by
  rw [str_data, str_data]; rfl
theorem hash_str (a : Tm) : strOf (104 :: a.str.data.toList) = (Tm.hash a).str := by
  rw [str_data]; rfl
end Go.Proofs.YtecimagjeelgbaaDoor.Ev03

/- Nonces and constants, the program's and the reference's: the same. Plain law. -/
set_option linter.unusedVariables false
set_option linter.unusedSimpArgs false
namespace Go.Proofs.YtecimagjeelgbaaDoor.Ev03
open Go.RowKit Go.Proofs.YtecimagjeelgbaaDoor.Pr Go.Proofs.YtecimagjeelgbaaDoorW.PrintWords Go.Proofs.YtecimagjeelgbaaDoorW.PrintLast Go.Proofs.YtecimagjeelgbaaDoorW.PrintMore Go.Proofs.YtecimagjeelgbaaDoor.TT

def constOf (s : ByteArray) : ByteArray × Int := if 40 < s.size then (⟨#[]⟩, 3) else ((Tm.const s.data.toList).str, 0)
def nonceOf (a : Int) : ByteArray := (Tm.nonce (UInt8.ofNat (a / 256).toNat) (UInt8.ofNat (a % 256).toNat)).str
theorem const_spec (s : ByteArray) : term_NewConst.f s = some (constOf s) := by
  unfold term_NewConst.f constOf
  by_cases h : (s.size : Int) > 40
  · rw [if_pos h, if_pos (by omega)]
  · rw [if_neg h, if_neg (by omega), Option.bind_some]
    have e : strOfNums [99, (s.size : Int) % 256] = strOf [99, UInt8.ofNat s.size] := by
      unfold strOfNums strOf
      rw [List.map_cons, List.map_cons, List.map_nil]
      have : ((s.size : Int) % 256).toNat = s.size := by omega
      rw [this]; rfl
    have q : s.data.toList.length = s.size := len_eq s
    rw [e, if_pos (by rw [strOf_size]; simp; omega), strOf_app]
    simp only [Tm.str, Tm.enc, q, List.cons_append, List.nil_append]
theorem ref_const_spec (s : ByteArray) : chantryref03_Const.f s = some (constOf s) := const_spec s
theorem nonce_spec (a : Int) (h0 : 0 ≤ a) (h1 : a < 65536) : term_NewNonce.f a = some (nonceOf a) := by
  unfold term_NewNonce.f nonceOf strOfNums Tm.str Tm.enc strOf
  have : a / 256 % 256 = a / 256 := by omega
  rw [this]
  rfl
end Go.Proofs.YtecimagjeelgbaaDoor.Ev03

/- label, told, Open: what they come to. -/
set_option linter.unusedVariables false
set_option linter.unusedSimpArgs false
namespace Go.Proofs.YtecimagjeelgbaaDoor.Ev03
open Go.RowKit Go.Proofs.YtecimagjeelgbaaDoor.Pr Go.Proofs.YtecimagjeelgbaaDoorW.PrintWords Go.Proofs.YtecimagjeelgbaaDoorW.PrintLast Go.Proofs.YtecimagjeelgbaaDoorW.PrintMore Go.Proofs.YtecimagjeelgbaaDoor.TT

def labelOf (n : Int) : ByteArray := (constOf (strOfNums [107, n % 256])).1
def tellOf (c : ByteArray) (n : Int) (x : ByteArray) : ByteArray × Int :=
  if (makeOf 112 [labelOf n, x]).2 = 0 then makeOf 115 [c, (makeOf 112 [labelOf n, x]).1] else (⟨#[]⟩, (makeOf 112 [labelOf n, x]).2)
theorem label_spec (n : Int) : path_label.f n = some (labelOf n) := by
  unfold path_label.f; rw [const_spec]; rfl
theorem make112 (l : List ByteArray) : term_Make.f 112 l = some (makeOf 112 l) := rfl
theorem make115 (l : List ByteArray) : term_Make.f 115 l = some (makeOf 115 l) := rfl
theorem tell_spec (c : ByteArray) (n : Int) (x : ByteArray) : path_told.f c n x = some (tellOf c n x) := by
  unfold path_told.f tellOf
  rw [label_spec, Option.bind_some, make112, Option.bind_some]
  split
  · rw [make115, Option.bind_some]
  · rfl
theorem rtell_spec (k : Nat) (hk : 4000 ≤ k) (c : ByteArray) (n : Int) (x : ByteArray) : chantryref15_Told.f k c n x = some (tellOf c n x).1 := by
  unfold chantryref15_Told.f chantryref03_Two.f tellOf
  have e1 := ref_make_spec k hk 112 [labelOf n, x] (by simp)
  have e2 := fun p => ref_make_spec k hk 115 [c, p] (by simp)
  rw [ref_const_spec, Option.bind_some]
  rw [show (constOf (strOfNums [107, n % 256])).1 = labelOf n from rfl, show chantryref03_Make.f k 112 [labelOf n, x] = some (makeOf 112 [labelOf n, x]) from e1]
  simp only [Option.bind_some]
  rw [show chantryref03_Make.f k 115 [c, (makeOf 112 [labelOf n, x]).1] = some (makeOf 115 [c, (makeOf 112 [labelOf n, x]).1]) from e2 _]
  simp only [Option.bind_some]
  split
  · rfl
  · rename_i h
    rw [made_bad h]
    have h2 : ¬ (makeOf 115 [c, (⟨#[]⟩ : ByteArray)]).2 = 0 := by
      intro h3
      have := (made_two h3).2.2.1
      exact absurd this (by decide)
    rw [made_bad h2]
/-- What is told is told just where there is no error. -/
theorem tell_empty (c : ByteArray) (n : Int) (x : ByteArray) : (tellOf c n x).1 = ⟨#[]⟩ ↔ (tellOf c n x).2 ≠ 0 := by
  have H : ∀ l : List ByteArray, (makeOf 115 l).2 = 0 → (makeOf 115 l).1 ≠ ⟨#[]⟩ := by
    intro l h e
    have h2 := (made_ok h).2.2.2
    rw [e] at h2
    have := congrArg ByteArray.size h2
    rw [strOf_size, List.length_cons] at this
    change 0 = _ at this
    omega
  unfold tellOf
  split
  · constructor
    · intro h h2; exact H _ h2 h
    · intro h; exact made_bad h
  · rename_i h; exact ⟨fun _ => h, fun _ => rfl⟩
def openOf (key s : ByteArray) : ByteArray × Int :=
  if check key = 0 then
    (if check s = 0 then
      (match read s with
        | some (.two k a b) => if k = 115 then (if a.str = key then (b.str, 0) else (⟨#[]⟩, 12)) else (⟨#[]⟩, 4)
        | _ => (⟨#[]⟩, 4))
     else (⟨#[]⟩, check s))
  else (⟨#[]⟩, check key)
/-- What both functions do with the parts. -/
theorem open_parts (key s : ByteArray) (hk : check key = 0) : (if (partsOf s).2.2 = 0 then (if (partsOf s).1 = 115 then (if 0 < ((partsOf s).2.1.length : Int) then (if (rdOf ByteArray.empty (partsOf s).2.1 0).toList = key.toList then (if 1 < ((partsOf s).2.1.length : Int) then (some (rdOf ByteArray.empty (partsOf s).2.1 1, (0 : Int))) else (none)) else (some ((⟨#[]⟩ : ByteArray), 12))) else (none)) else (some ((⟨#[]⟩ : ByteArray), 4))) else (some ((⟨#[]⟩ : ByteArray), (partsOf s).2.2))) = some (openOf key s) := by
  unfold openOf
  rw [if_pos hk]
  by_cases hc : check s = 0
  · obtain ⟨t, hr, ho, _⟩ := check_ok hc
    rw [if_pos hc, partsOf_ok hc hr, hr]
    simp only
    rw [if_pos trivial]
    cases t with
    | nonce a b => rw [if_neg (show ¬ ((Tm.nonce a b).kind.toNat : Int) = 115 by show ¬ ((110 : UInt8).toNat : Int) = 115; decide)]
    | const l => rw [if_neg (show ¬ ((Tm.const l).kind.toNat : Int) = 115 by show ¬ ((99 : UInt8).toNat : Int) = 115; decide)]
    | hash t => rw [if_neg (show ¬ ((Tm.hash t).kind.toNat : Int) = 115 by show ¬ ((104 : UInt8).toNat : Int) = 115; decide)]
    | two k a b =>
      simp only
      by_cases h5 : k = 115
      · rw [if_pos (show ((Tm.two k a b).kind.toNat : Int) = 115 by show (k.toNat : Int) = 115; rw [h5]; rfl), if_pos h5, if_pos (by simp [Tm.parts])]
        simp only [Tm.parts, List.map_cons, List.map_nil, rdOf_0, rdOf_1, toList_iff]
        by_cases h6 : a.str = key
        · rw [if_pos h6, if_pos h6, if_pos (by simp)]
        · rw [if_neg h6, if_neg h6]
      · rw [if_neg (show ¬ ((Tm.two k a b).kind.toNat : Int) = 115 from fun h => h5 (u8i k 115 115 rfl (by decide) h)), if_neg h5]
  · rw [if_neg hc, partsOf_bad hc]
    simp only
    rw [if_neg hc]
theorem open_spec (key s : ByteArray) : term_Open.f key s = some (openOf key s) := by
  unfold term_Open.f
  simp only [term_Check.f, term_Parts.f, Option.bind_some]
  by_cases hk : check key = 0
  · rw [if_pos hk]
    exact open_parts key s hk
  · rw [if_neg hk]
    unfold openOf
    rw [if_neg hk]
theorem parts_small (s : ByteArray) : (partsOf s).2.1.length ≤ 2 := by
  by_cases h : check s = 0
  · obtain ⟨t, hr, _⟩ := check_ok h
    rw [partsOf_ok h hr]
    cases t <;> simp [Tm.parts]
  · rw [partsOf_bad h]; simp
end Go.Proofs.YtecimagjeelgbaaDoor.Ev03
