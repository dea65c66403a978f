/- What the printed functions of package term and of its reference come to, told by terms as trees. No program in sight but for the printed functions. -/
import Derived.Test.YtinkkiglkjihmaaTm
import Derived.Test.YtinkkiglkjihmaaPrxB
import Derived.Lib.Hide
set_option linter.unusedVariables false
set_option linter.unusedSimpArgs false
namespace Go.Proofs.Ytinkkiglkjihmaa.Ev03
open Go.RowKit Go.Proofs.Ytinkkiglkjihmaa.Pr Go.Proofs.YtinkkiglkjihmaaW.PrintWords Go.Proofs.YtinkkiglkjihmaaW.PrintLast Go.Proofs.YtinkkiglkjihmaaW.PrintMore Go.Proofs.Ytinkkiglkjihmaa.TT

theorem wr {x : Int} (h0 : -1000000 ≤ x) (h1 : x ≤ 1000000) : wrap64 x = x := by unfold wrap64; omega
theorem u8 (c : UInt8) (n : Nat) (hn : n < 256) : ((c.toNat : Int) = n) ↔ c = UInt8.ofNat n := by
  constructor
  · intro h
    have : c.toNat = n := by omega
    rw [← this, UInt8.ofNat_toNat]
  · rintro rfl
    simp only [UInt8.toNat_ofNat']
    omega

theorem u8i (c : UInt8) (n : Nat) (x : Int) (hx : x = n) (hn : n < 256) (h : (c.toNat : Int) = x) : c = UInt8.ofNat n := (u8 c n hn).1 (by omega)
theorem need_spec (k : Nat) (hk : 1 ≤ k) (c : UInt8) : chantryref03_need.f k (c.toNat : Int) = some (ar c) := by
  obtain ⟨k, rfl⟩ : ∃ m, k = m + 1 := ⟨k - 1, by omega⟩
  have e1 := u8 c 110 (by omega); have e2 := u8 c 99 (by omega); have e3 := u8 c 104 (by omega); have e4 := u8 c 100 (by omega)
  have e5 := u8 c 109 (by omega); have e6 := u8 c 115 (by omega); have e7 := u8 c 112 (by omega)
  simp only [chantryref03_need.f, chantryref03_need.j0]
  by_cases h1 : c = 110
  · subst h1; rfl
  by_cases h2 : c = 99
  · subst h2; rfl
  by_cases h3 : c = 104
  · subst h3; rfl
  by_cases h4 : c = 100
  · subst h4; rfl
  by_cases h5 : c = 109
  · subst h5; rfl
  by_cases h6 : c = 115
  · subst h6; rfl
  by_cases h7 : c = 112
  · subst h7; rfl
  have g1 : ¬ (c.toNat : Int) = 110 := fun h => h1 (e1.1 h)
  have g2 : ¬ (c.toNat : Int) = 99 := fun h => h2 (e2.1 h)
  have g3 : ¬ (c.toNat : Int) = 104 := fun h => h3 (e3.1 h)
  have g4 : ¬ (c.toNat : Int) = 100 := fun h => h4 (e4.1 h)
  have g5 : ¬ (c.toNat : Int) = 109 := fun h => h5 (e5.1 h)
  have g6 : ¬ (c.toNat : Int) = 115 := fun h => h6 (e6.1 h)
  have g7 : ¬ (c.toNat : Int) = 112 := fun h => h7 (e7.1 h)
  have ea : ar c = -1 := by unfold ar isTwo; simp [h1, h2, h3, h4, h5, h6, h7]
  rw [ea, if_neg g1, show ((c.toNat : Int) == 99) = false from beq_eq_false_iff_ne.2 g2, if_neg (by decide), if_neg g3, if_neg g4, if_neg g5, if_neg g6, if_neg g7]

/-! ### bytes at a place -/
theorem len_eq (s : ByteArray) : s.data.toList.length = s.size := by rw [Array.length_toList]; rfl
theorem drop_cons {s : ByteArray} {p : Nat} {c : UInt8} {r : List UInt8} (h : s.data.toList.drop p = c :: r) : p < s.size ∧ bt s (p : Int) = (c.toNat : Int) ∧ s.data.toList.drop (p + 1) = r := by
  have hl := congrArg List.length h
  rw [List.length_drop, len_eq, List.length_cons] at hl
  have hp : p < s.size := by omega
  have hp' : p < s.data.toList.length := by rw [len_eq]; exact hp
  have e : s.data.toList.drop p = s[p] :: s.data.toList.drop (p + 1) := by rw [List.drop_eq_getElem_cons hp']; rfl
  rw [h] at e
  injection e with e1 e2
  refine ⟨hp, ?_, e2.symm⟩
  unfold bt
  rw [dif_pos (by simpa using hp), e1]
  rfl
theorem drop_at {s : ByteArray} {p : Nat} (hp : p < s.size) : ∃ c, s.data.toList.drop p = c :: s.data.toList.drop (p + 1) := by
  have hp' : p < s.data.toList.length := by rw [len_eq]; exact hp
  exact ⟨_, List.drop_eq_getElem_cons hp'⟩
theorem drop_add {s : ByteArray} {p n : Nat} {l r : List UInt8} (h : s.data.toList.drop p = l ++ r) (hn : l.length = n) : s.data.toList.drop (p + n) = r := by
  rw [← List.drop_drop, h, ← hn, List.drop_left]
theorem drop_len {s : ByteArray} {p : Nat} {l : List UInt8} (hp : p ≤ s.size) (h : s.data.toList.drop p = l) : p + l.length = s.size := by
  have hl := congrArg List.length h
  rw [List.length_drop, len_eq] at hl
  omega

/-! ### own: how many bytes of its own a term has that begins there -/
def tokC : List UInt8 → Int
  | [] => 0
  | n :: l' => if 40 < n.toNat ∨ l'.length < n.toNat then 0 else 2 + (n.toNat : Int)
def tok : List UInt8 → Int
  | [] => 0
  | c :: l => if ar c < 0 then 0 else if c = 110 then (if l.length < 2 then 0 else 3) else if c = 99 then tokC l else 1

theorem ar_ne (c : UInt8) : ar c < 0 → c ≠ 110 ∧ c ≠ 99 := by
  intro h
  constructor <;> (rintro rfl; revert h; decide)

theorem own_spec (k : Nat) (hk : 4 ≤ k) (s : ByteArray) (hs : s.size ≤ 100000) (p : Nat) (hp : p ≤ s.size) : chantryref03_own.f k s (p : Int) = some (tok (s.data.toList.drop p)) := by
  obtain ⟨k, rfl⟩ : ∃ m, k = m + 3 := ⟨k - 3, by omega⟩
  have hw : wrap64 ((s.size : Int) - p) = (s.size : Int) - p := wr (by omega) (by omega)
  have hw1 : wrap64 ((p : Int) + 1) = ((p + 1 : Nat) : Int) := by rw [wr (by omega) (by omega)]; omega
  unfold chantryref03_own.f
  rw [hw]
  by_cases hlt : p < s.size
  · obtain ⟨c, hd⟩ := drop_at hlt
    obtain ⟨_, hb, _⟩ := drop_cons hd
    have hl := drop_len (by omega) hd
    simp only [List.length_cons] at hl
    rw [if_neg (by omega), if_pos (by omega), if_pos (by omega), hb, need_spec _ (by omega), Option.bind_some, hd]
    have hn := ar_ne c
    by_cases h1 : ar c < 0
    · rw [decide_eq_true h1]
      simp only [chantryref03_own.j0, if_true, tok]
      rw [if_pos h1]
    · rw [decide_eq_false h1]
      simp only [chantryref03_own.j0]
      rw [if_neg (by decide), if_pos (by omega), if_pos (by omega), hb]
      simp only [tok]
      rw [if_neg h1]
      clear hn h1
      by_cases h2 : c = 110
      · rw [if_pos (show (c.toNat : Int) = 110 by rw [h2]; rfl), if_pos h2]
        simp only [chantryref03_own.j1]
        rw [if_pos (by omega), if_pos (by omega), hb, if_neg (show ¬ (c.toNat : Int) = 99 by rw [h2]; decide)]
        by_cases h3 : (s.data.toList.drop (p + 1)).length < 2
        · rw [if_pos (by omega), if_pos h3]
        · rw [if_neg (by omega), if_neg h3]
      · rw [if_neg (fun h => h2 (u8i c 110 110 rfl (by decide) h)), if_neg h2]
        simp only [chantryref03_own.j1]
        rw [if_pos (by omega), if_pos (by omega), hb]
        by_cases h3 : c = 99
        · rw [if_pos (show (c.toNat : Int) = 99 by rw [h3]; rfl), if_pos h3]
          clear h3 h2 hb
          by_cases h4 : p + 1 < s.size
          · obtain ⟨n, hd2⟩ := drop_at h4
            obtain ⟨_, hb2, _⟩ := drop_cons hd2
            have hl2 := drop_len (by omega) hd2
            simp only [List.length_cons] at hl2
            have hnb := n.toNat_lt
            simp only [chantryref03_own.j2]
            rw [hw1, hb2, hd2]
            clear hd2 hb2 hd
            simp only [tokC]
            rw [if_neg (by omega), if_pos (by omega), if_pos (by omega)]
            by_cases h5 : 40 < n.toNat
            · rw [show decide ((n.toNat : Int) > 40) = true from decide_eq_true (by omega), if_pos rfl, if_pos (.inl h5)]
            · have e2 : wrap64 (n.toNat : Int) = n.toNat := wr (by omega) (by omega)
              have e3 : wrap64 (2 + (n.toNat : Int)) = 2 + n.toNat := wr (by omega) (by omega)
              rw [show decide ((n.toNat : Int) > 40) = false from decide_eq_false (by omega), if_neg (by decide), if_pos (by omega), if_pos (by omega), e2, e3]
              by_cases h6 : (s.data.toList.drop (p + 1 + 1)).length < n.toNat
              · rw [if_pos (by omega), if_pos (.inr h6)]
              · rw [if_neg (by omega), if_neg (by omega)]
          · have e : s.data.toList.drop (p + 1) = [] := List.drop_eq_nil_of_le (by rw [len_eq]; omega)
            rw [if_pos (by omega), e]
            simp only [chantryref03_own.j2, if_true, tokC]
        · rw [if_neg (fun h => h3 (u8i c 99 99 rfl (by decide) h)), if_neg h3, if_neg (by omega)]
  · have e : s.data.toList.drop p = [] := List.drop_eq_nil_of_le (by rw [len_eq]; omega)
    rw [if_pos (by omega), e]
    simp only [chantryref03_own.j0, if_true, tok]

def tokLen : Tm → Nat
  | .nonce _ _ => 3
  | .const l => 2 + l.length
  | .hash _ => 1
  | .two _ _ _ => 1
theorem tok_enc {t : Tm} (ho : t.ok) (r : List UInt8) : tok (t.enc ++ r) = tokLen t := by
  cases t with
  | nonce a b => simp [Tm.enc, tok, tokLen, ar]
  | const l =>
    have h1 : (UInt8.ofNat l.length).toNat = l.length := by
      simp only [Tm.ok] at ho
      simp only [UInt8.toNat_ofNat']
      omega
    simp only [Tm.ok] at ho
    simp only [Tm.enc, List.cons_append, tok, tokC, h1, tokLen]
    rw [if_neg (by decide), if_neg (by decide), if_pos trivial, if_neg (by simp; omega)]
    omega
  | hash t => simp [Tm.enc, tok, tokLen, ar]
  | two k a b =>
    have hn := isTwo_ne ho.1
    have ha : ar k = 2 := by unfold ar; rw [if_neg (by simp [hn.1, hn.2.1]), if_neg hn.2.2, if_pos ho.1]
    simp only [Tm.enc, List.cons_append, tok, tokLen]
    rw [if_neg (by omega), if_neg hn.1, if_neg hn.2.1]
    rfl
theorem ar_kind {t : Tm} (ho : t.ok) : ar t.kind = t.parts.length := by
  cases t with
  | nonce a b => rfl
  | const l => rfl
  | hash t => rfl
  | two k a b =>
    have hn := isTwo_ne ho.1
    show ar k = 2
    unfold ar; rw [if_neg (by simp [hn.1, hn.2.1]), if_neg hn.2.2, if_pos ho.1]

/-! ### End -/
theorem bt_kind {s : ByteArray} {p : Nat} {t : Tm} {r : List UInt8} (h : s.data.toList.drop p = t.enc ++ r) : p < s.size ∧ bt s (p : Int) = (t.kind.toNat : Int) := by
  obtain ⟨l, hl⟩ := enc_kind t
  rw [hl, List.cons_append] at h
  obtain ⟨h1, h2, _⟩ := drop_cons h
  exact ⟨h1, h2⟩
theorem tokLen_pos (t : Tm) : 1 ≤ tokLen t := by cases t <;> simp [tokLen] <;> omega
theorem enc_tok : ∀ t : Tm, t.enc.length = tokLen t + (t.parts.map fun u => u.enc.length).sum
  | .nonce _ _ => by simp [Tm.enc, tokLen, Tm.parts]
  | .const _ => by simp [Tm.enc, tokLen, Tm.parts]; omega
  | .hash _ => by simp [Tm.enc, tokLen, Tm.parts]; omega
  | .two _ _ _ => by simp [Tm.enc, tokLen, Tm.parts]; omega

/-- One round of End's loop at a term. -/
theorem end_round (k : Nat) (hk : 4 ≤ k) (s : ByteArray) (hs : s.size ≤ 100000) (p : Nat) (t : Tm) (ho : t.ok) (r : List UInt8) (hd : s.data.toList.drop p = t.enc ++ r) (m : Nat) (hm : m ≤ 200000) :
    chantryref03_End.l0 (k + 1) s (p : Int) ((m + 1 : Nat) : Int) = chantryref03_End.l0 k s ((p + tokLen t : Nat) : Int) ((m + t.parts.length : Nat) : Int) := by
  obtain ⟨hp, hb⟩ := bt_kind hd
  have HB := Lib.hid hb; clear hb
  have hown := own_spec k hk s hs p (by omega)
  rw [hd, tok_enc ho] at hown
  have htl : tokLen t ≤ t.enc.length := by rw [enc_tok t]; omega
  have hlen : p + (t.enc ++ r).length = s.size := drop_len (by omega) hd
  rw [List.length_append] at hlen
  have htp := tokLen_pos t
  have hpl : t.parts.length ≤ 2 := by cases t <;> simp [Tm.parts]
  have e1 : wrap64 ((p : Int) + (tokLen t : Int)) = ((p + tokLen t : Nat) : Int) := by rw [wr (by omega) (by omega)]; omega
  have E1 := Lib.hid e1; clear e1
  have e2 : wrap64 (wrap64 (((m + 1 : Nat) : Int) - 1) + (t.parts.length : Int)) = ((m + t.parts.length : Nat) : Int) := by
    rw [wr (x := ((m + 1 : Nat) : Int) - 1) (by omega) (by omega), wr (by omega) (by omega)]; omega
  have E2 := Lib.hid e2; clear e2
  have HO := Lib.hid hown; clear hown
  simp only [chantryref03_End.l0]
  rw [if_pos (by omega), HO.out, Option.bind_some, if_neg (by omega), if_pos (by omega), if_pos (by omega), HB.out, need_spec k (by omega), ar_kind ho, Option.bind_some, E1.out, E2.out]

theorem end_ok : ∀ (t : Tm) (s : ByteArray) (p : Nat) (r : List UInt8) (m : Nat), s.size ≤ 100000 → t.ok → s.data.toList.drop p = t.enc ++ r → m + t.enc.length ≤ 200000 →
    ∃ j, j ≤ t.enc.length ∧ ∀ k, 4 ≤ k → chantryref03_End.l0 (k + j) s (p : Int) ((m + 1 : Nat) : Int) = chantryref03_End.l0 k s ((p + t.enc.length : Nat) : Int) (m : Int)
  | .nonce a b, s, p, r, m, hs, ho, hd, hm => ⟨1, by simp [Tm.enc], fun k hk => end_round k hk s hs p _ ho r hd m (by omega)⟩
  | .const l, s, p, r, m, hs, ho, hd, hm => by
    refine ⟨1, by simp [Tm.enc], fun k hk => ?_⟩
    rw [end_round k hk s hs p _ ho r hd m (by omega), enc_tok]
    rfl
  | .hash t, s, p, r, m, hs, ho, hd, hm => by
    have hd1 : s.data.toList.drop (p + 1) = t.enc ++ r := (drop_cons (c := 104) hd).2.2
    simp only [Tm.enc, List.length_cons] at hm
    obtain ⟨j, hj, h⟩ := end_ok t s (p + 1) r m hs ho hd1 (by omega)
    refine ⟨j + 1, by simp [Tm.enc]; omega, fun k hk => ?_⟩
    rw [← Nat.add_assoc, end_round (k + j) (by omega) s hs p _ ho r hd m (by omega)]
    have := h k hk
    simp only [tokLen, Tm.parts, List.length_cons, List.length_nil]
    rw [this]
    simp only [Tm.enc, List.length_cons]
    rw [show p + 1 + t.enc.length = p + (t.enc.length + 1) by omega]
  | .two c a b, s, p, r, m, hs, ho, hd, hm => by
    have hd1 : s.data.toList.drop (p + 1) = a.enc ++ (b.enc ++ r) := by
      have := (drop_cons (c := c) hd).2.2
      exact this.trans (List.append_assoc _ _ _)
    have hd2 : s.data.toList.drop (p + 1 + a.enc.length) = b.enc ++ r := drop_add hd1 rfl
    simp only [Tm.enc, List.length_cons, List.length_append] at hm
    obtain ⟨j1, hj1, h1⟩ := end_ok a s (p + 1) _ (m + 1) hs ho.2.1 hd1 (by omega)
    obtain ⟨j2, hj2, h2⟩ := end_ok b s (p + 1 + a.enc.length) r m hs ho.2.2 hd2 (by omega)
    refine ⟨j2 + j1 + 1, by simp [Tm.enc]; omega, fun k hk => ?_⟩
    rw [show k + (j2 + j1 + 1) = k + j2 + j1 + 1 by omega, end_round (k + j2 + j1) (by omega) s hs p _ ho r hd m (by omega)]
    simp only [tokLen, Tm.parts, List.length_cons, List.length_nil]
    have e1 := h1 (k + j2) (by omega)
    have e2 := h2 k hk
    rw [show m + (0 + 1 + 1) = m + 1 + 1 by omega, e1, e2]
    simp only [Tm.enc, List.length_cons, List.length_append]
    rw [show p + 1 + a.enc.length + b.enc.length = p + (a.enc.length + b.enc.length + 1) by omega]

/-- Where no term is read, the first token that is none ends it. -/
theorem end_bad : ∀ (n : Nat) (s : ByteArray) (p : Nat) (m : Nat), s.size ≤ 100000 → p ≤ s.size → parse n (s.data.toList.drop p) = none → s.size - p < n → m + (s.size - p) ≤ 200000 →
    ∃ j, j ≤ s.size - p + 1 ∧ ∀ k, 4 ≤ k → chantryref03_End.l0 (k + j) s (p : Int) ((m + 1 : Nat) : Int) = some (-1) := by
  intro n
  induction n with
  | zero => intro s p m _ _ _ h; omega
  | succ n ih =>
    intro s p m hs hp h hn hm
    have stop : tok (s.data.toList.drop p) = 0 → ∃ j, j ≤ s.size - p + 1 ∧ ∀ k, 4 ≤ k → chantryref03_End.l0 (k + j) s (p : Int) ((m + 1 : Nat) : Int) = some (-1) := by
      intro h0
      refine ⟨1, by omega, fun k hk => ?_⟩
      simp only [chantryref03_End.l0]
      rw [if_pos (by omega), own_spec k hk s hs p hp, h0, Option.bind_some, if_pos rfl]
    by_cases hlt : p < s.size
    · obtain ⟨c, hd⟩ := drop_at hlt
      obtain ⟨_, hb, _⟩ := drop_cons hd
      have hl := drop_len (by omega) hd
      simp only [List.length_cons] at hl
      rw [hd] at h stop
      simp only [parse] at h
      have HB := Lib.hid hb; clear hb
      by_cases h1 : c = 110
      · rw [if_pos h1] at h
        apply stop
        subst h1
        match hq : s.data.toList.drop (p + 1), h with
        | [], _ => rfl
        | [x], _ => rfl
        | x :: y :: l, h => simp at h
      rw [if_neg h1] at h
      by_cases h2 : c = 99
      · rw [if_pos h2] at h
        apply stop
        subst h2
        match hq : s.data.toList.drop (p + 1), h with
        | [], _ => rfl
        | x :: l, h =>
          by_cases h3 : x.toNat ≤ 40 ∧ x.toNat ≤ l.length
          · simp [if_pos h3] at h
          · simp only [tok, tokC]
            rw [if_neg (by decide), if_neg (by decide), if_pos trivial, if_pos (by omega)]
      rw [if_neg h2] at h
      have hgo : ∀ q : Int, ar c = q → 0 < q → ∀ k, 4 ≤ k → chantryref03_End.l0 (k + 1) s (p : Int) ((m + 1 : Nat) : Int) = chantryref03_End.l0 k s ((p + 1 : Nat) : Int) ((m : Int) + q) := by
        intro q hq hq0 k hk
        have hq2 : q ≤ 2 := by rw [← hq]; unfold ar; split <;> (try split) <;> (try split) <;> omega
        have e1 : Hid (wrap64 ((p : Int) + 1) = ((p + 1 : Nat) : Int)) := by apply Lib.hid; rw [wr (by omega) (by omega)]; omega
        have e2 : Hid (wrap64 (wrap64 (((m + 1 : Nat) : Int) - 1) + q) = (m : Int) + q) := by
          apply Lib.hid; rw [wr (x := ((m + 1 : Nat) : Int) - 1) (by omega) (by omega), wr (by omega) (by omega)]; omega
        have ht : tok (c :: s.data.toList.drop (p + 1)) = 1 := by
          simp only [tok]
          rw [hq, if_neg (by omega), if_neg h1, if_neg h2]
        simp only [chantryref03_End.l0]
        rw [if_pos (by omega), own_spec k hk s hs p hp, hd, ht, Option.bind_some, if_neg (by decide), if_pos (by omega), if_pos (by omega), HB.out, need_spec k (by omega), hq, Option.bind_some, e1.out, e2.out]
      by_cases h3 : c = 104
      · rw [if_pos h3] at h
        have hpn : parse n (s.data.toList.drop (p + 1)) = none := by
          cases hq : parse n (s.data.toList.drop (p + 1)) with
          | none => rfl
          | some x => rw [hq] at h; simp at h
        obtain ⟨j, hj, hh⟩ := ih s (p + 1) m hs (by omega) hpn (by omega) (by omega)
        refine ⟨j + 1, by omega, fun k hk => ?_⟩
        rw [← Nat.add_assoc, hgo 1 (by rw [h3]; rfl) (by omega) (k + j) (by omega)]
        exact hh k hk
      rw [if_neg h3] at h
      by_cases h4 : isTwo c = true
      · rw [if_pos h4] at h
        have ha : ar c = 2 := by unfold ar; rw [if_neg (by simp [h1, h2]), if_neg h3, if_pos h4]
        cases hq : parse n (s.data.toList.drop (p + 1)) with
        | none =>
          obtain ⟨j, hj, hh⟩ := ih s (p + 1) (m + 1) hs (by omega) hq (by omega) (by omega)
          refine ⟨j + 1, by omega, fun k hk => ?_⟩
          rw [← Nat.add_assoc, hgo 2 ha (by omega) (k + j) (by omega)]
          exact hh k hk
        | some x =>
          obtain ⟨a, r1⟩ := x
          rw [hq] at h
          simp only [Option.bind_some] at h
          obtain ⟨e, hoa⟩ := parse_sound _ _ _ _ hq
          have hl1 := drop_len (by omega) e
          rw [List.length_append] at hl1
          have hr1 : s.data.toList.drop (p + 1 + a.enc.length) = r1 := drop_add e rfl
          have hpn : parse n (s.data.toList.drop (p + 1 + a.enc.length)) = none := by
            rw [hr1]
            cases hq2 : parse n r1 with
            | none => rfl
            | some x => rw [hq2] at h; simp at h
          obtain ⟨j1, hj1, hh1⟩ := end_ok a s (p + 1) r1 (m + 1) hs hoa e (by omega)
          obtain ⟨j2, hj2, hh2⟩ := ih s (p + 1 + a.enc.length) m hs (by omega) hpn (by omega) (by omega)
          refine ⟨j2 + j1 + 1, by omega, fun k hk => ?_⟩
          rw [show k + (j2 + j1 + 1) = k + j2 + j1 + 1 by omega, hgo 2 ha (by omega) (k + j2 + j1) (by omega)]
          have e1 := hh1 (k + j2) (by omega)
          rw [show (m : Int) + 2 = ((m + 1 + 1 : Nat) : Int) by omega, e1]
          exact hh2 k hk
      · apply stop
        have ha : ar c = -1 := by unfold ar; rw [if_neg (by simp [h1, h2]), if_neg h3, if_neg h4]
        simp only [tok]
        rw [ha, if_pos (by decide)]
    · apply stop
      rw [List.drop_eq_nil_of_le (by rw [len_eq]; omega)]
      rfl

/-- End, at any place. -/
theorem end_spec (k : Nat) (s : ByteArray) (hs : s.size ≤ 100000) (hk : s.size + 10 ≤ k) (p : Nat) (hp : p ≤ s.size) :
    chantryref03_End.f k s (p : Int) = some (match parse (s.size + 1) (s.data.toList.drop p) with | some (t, _) => ((p + t.enc.length : Nat) : Int) | none => -1) := by
  unfold chantryref03_End.f
  cases h : parse (s.size + 1) (s.data.toList.drop p) with
  | none =>
    obtain ⟨j, hj, hh⟩ := end_bad (s.size + 1) s p 0 hs hp h (by omega) (by omega)
    have := hh (k - j) (by omega)
    rw [show k - j + j = k by omega] at this
    exact this
  | some x =>
    obtain ⟨t, r⟩ := x
    obtain ⟨e, ho⟩ := parse_sound _ _ _ _ h
    have hl := drop_len hp e
    rw [List.length_append] at hl
    obtain ⟨j, hj, hh⟩ := end_ok t s p r 0 hs ho e (by omega)
    have := hh (k - j) (by omega)
    rw [show k - j + j = k by omega] at this
    refine this.trans ?_
    obtain ⟨q, hq⟩ : ∃ q, k - j = q + 1 := ⟨k - j - 1, by omega⟩
    rw [hq]
    simp only [chantryref03_End.l0]
    rw [if_neg (by decide)]
theorem end_at (k : Nat) (s : ByteArray) (hs : s.size ≤ 100000) (hk : s.size + 10 ≤ k) (p : Nat) (t : Tm) (ho : t.ok) (r : List UInt8) (hd : s.data.toList.drop p = t.enc ++ r) :
    chantryref03_End.f k s (p : Int) = some ((p + t.enc.length : Nat) : Int) := by
  obtain ⟨hp, _⟩ := bt_kind hd
  rw [end_spec k s hs hk p (by omega), hd]
  have hl := drop_len (by omega) hd
  rw [List.length_append] at hl
  rw [parse_enc t (s.size + 1) r ho (by have := t.depth_le; omega)]

/-! ### Depth -/
theorem mx_eq (a b : Int) : mx a b = max a b := by unfold mx; omega
/-- What is done where a term ends: the next level, or the answer. -/
def pop (k : Nat) (s : ByteArray) (todo : List Int) (top : Int) (p : Int) : Option Int :=
  match todo.reverse with
  | [] => some top
  | lv :: r => chantryref03_Depth.l0 k s r.reverse top p lv
theorem pop_snoc (k : Nat) (s : ByteArray) (td : List Int) (lv top p : Int) : pop k s (td ++ [lv]) top p = chantryref03_Depth.l0 k s td top p lv := by simp [pop]

theorem depth_leaf (k : Nat) (hk : 4 ≤ k) (s : ByteArray) (hs : s.size ≤ 100000) (p : Nat) (t : Tm) (ho : t.ok) (r : List UInt8) (hd : s.data.toList.drop p = t.enc ++ r) (hp0 : t.parts = []) (todo : List Int) (htl : todo.length ≤ 200000) (top level : Int) :
    chantryref03_Depth.l0 (k + 1) s todo top (p : Int) level = pop k s todo (max top level) ((p + t.enc.length : Nat) : Int) := by
  obtain ⟨hp, hb⟩ := bt_kind hd
  have HB := Lib.hid hb; clear hb
  have hown := own_spec k hk s hs p (by omega)
  rw [hd, tok_enc ho] at hown
  have htk : tokLen t = t.enc.length := by rw [enc_tok t, hp0]; simp
  have HO := Lib.hid hown; clear hown
  have hlen : p + (t.enc ++ r).length = s.size := drop_len (by omega) hd
  rw [List.length_append] at hlen
  have E1 : Hid (wrap64 ((p : Int) + (tokLen t : Int)) = ((p + t.enc.length : Nat) : Int)) := by apply Lib.hid; rw [wr (by omega) (by omega), htk]; omega
  have ha : Hid (ar t.kind = 0) := by apply Lib.hid; rw [ar_kind ho, hp0]; rfl
  simp only [chantryref03_Depth.l0]
  rw [if_pos (by omega), if_pos (by omega), HB.out, need_spec k (by omega), ha.out, Option.bind_some, HO.out, Option.bind_some, if_neg (by decide), if_neg (by decide), E1.out, mx_eq]
  rcases List.eq_nil_or_concat todo with rfl | ⟨td, lv, rfl⟩
  · rw [if_pos (show ((([] : List Int).length : Nat) : Int) = 0 from rfl)]; rfl
  · rw [List.concat_eq_append] at *
    rw [pop_snoc]
    simp only [List.length_append, List.length_cons, List.length_nil] at htl
    have e2 : wrap64 (((td ++ [lv]).length : Int) - 1) = (td.length : Int) := by
      rw [List.length_append, List.length_cons, List.length_nil, wr (by omega) (by omega)]; omega
    have E2 := Lib.hid e2; clear e2
    rw [if_neg (by simp; omega), E2.out, if_pos (by omega), if_pos (by simp; omega), if_pos (by simp; omega)]
    have h3 : (td ++ [lv]).take ((td.length : Int)).toNat = td := by rw [Int.toNat_natCast, List.take_left]
    have h4 : rd (td ++ [lv]) (td.length : Int) = lv := by unfold rd; rw [Int.toNat_natCast]; simp [List.getD_eq_getElem?_getD]
    rw [h3, h4]

theorem depth_ok : ∀ (t : Tm) (s : ByteArray) (p : Nat) (r : List UInt8) (todo : List Int) (top level : Int), s.size ≤ 100000 → t.ok → s.data.toList.drop p = t.enc ++ r → todo.length + t.enc.length ≤ 200000 → 0 ≤ level → level + t.enc.length ≤ 200000 →
    ∃ j, j ≤ t.enc.length ∧ ∀ k, 4 ≤ k → chantryref03_Depth.l0 (k + j) s todo top (p : Int) level = pop k s todo (max top (level + t.depth - 1)) ((p + t.enc.length : Nat) : Int)
  | .nonce a b, s, p, r, todo, top, level, hs, ho, hd, htd, h0, h1 => by
    refine ⟨1, by simp [Tm.enc], fun k hk => ?_⟩
    rw [depth_leaf k hk s hs p _ ho r hd rfl todo (by omega) top level]
    simp only [Tm.depth]
    rw [show level + ((1 : Nat) : Int) - 1 = level by omega]
  | .const l, s, p, r, todo, top, level, hs, ho, hd, htd, h0, h1 => by
    refine ⟨1, by simp [Tm.enc], fun k hk => ?_⟩
    rw [depth_leaf k hk s hs p _ ho r hd rfl todo (by omega) top level]
    simp only [Tm.depth]
    rw [show level + ((1 : Nat) : Int) - 1 = level by omega]
  | .hash t, s, p, r, todo, top, level, hs, ho, hd, htd, h0, h1 => by
    have hd1 : s.data.toList.drop (p + 1) = t.enc ++ r := (drop_cons (c := 104) hd).2.2
    simp only [Tm.enc, List.length_cons] at htd h1
    obtain ⟨j, hj, h⟩ := depth_ok t s (p + 1) r todo (max top level) (level + 1) hs ho hd1 (by omega) (by omega) (by omega)
    refine ⟨j + 1, by simp [Tm.enc]; omega, fun k hk => ?_⟩
    obtain ⟨hp, hb⟩ := bt_kind hd
    have HB := Lib.hid hb; clear hb
    have hown := own_spec (k + j) (by omega) s hs p (by omega)
    rw [hd, tok_enc ho] at hown
    have HO := Lib.hid hown; clear hown
    have hdp := t.depth_pos
    have hlen : p + ((Tm.hash t).enc ++ r).length = s.size := drop_len (by omega) hd
    simp only [List.length_append, Tm.enc, List.length_cons] at hlen
    have E1 : Hid (wrap64 ((p : Int) + (tokLen (.hash t) : Int)) = ((p + 1 : Nat) : Int)) := by apply Lib.hid; simp only [tokLen]; rw [wr (by omega) (by omega)]; omega
    have E2 : Hid (wrap64 (level + 1) = level + 1) := by apply Lib.hid; exact wr (by omega) (by omega)
    rw [← Nat.add_assoc]
    simp only [chantryref03_Depth.l0]
    rw [if_pos (by omega), if_pos (by omega), HB.out, need_spec _ (by omega), show ar (Tm.hash t).kind = 1 from rfl, Option.bind_some, HO.out, Option.bind_some, if_pos rfl, E1.out, E2.out, mx_eq, h k hk]
    simp only [Tm.enc, List.length_cons, Tm.depth]
    rw [show p + 1 + t.enc.length = p + (t.enc.length + 1) by omega, show max (max top level) (level + 1 + (t.depth : Int) - 1) = max top (level + ((t.depth + 1 : Nat) : Int) - 1) by omega]
  | .two c a b, s, p, r, todo, top, level, hs, ho, hd, htd, h0, h1 => by
    have hd1 : s.data.toList.drop (p + 1) = a.enc ++ (b.enc ++ r) := by
      have := (drop_cons (c := c) hd).2.2
      exact this.trans (List.append_assoc _ _ _)
    have hd2 : s.data.toList.drop (p + 1 + a.enc.length) = b.enc ++ r := drop_add hd1 rfl
    simp only [Tm.enc, List.length_cons, List.length_append] at htd h1
    have hap := a.enc_pos
    have hbp := b.enc_pos
    obtain ⟨j1, hj1, hh1⟩ := depth_ok a s (p + 1) _ (todo ++ [level + 1]) (max top level) (level + 1) hs ho.2.1 hd1 (by simp; omega) (by omega) (by omega)
    obtain ⟨j2, hj2, hh2⟩ := depth_ok b s (p + 1 + a.enc.length) r todo (max (max top level) (level + 1 + a.depth - 1)) (level + 1) hs ho.2.2 hd2 (by omega) (by omega) (by omega)
    refine ⟨j2 + j1 + 1, by simp [Tm.enc]; omega, fun k hk => ?_⟩
    obtain ⟨hp, hb⟩ := bt_kind hd
    have HB := Lib.hid hb; clear hb
    have hown := own_spec (k + j2 + j1) (by omega) s hs p (by omega)
    rw [hd, tok_enc ho] at hown
    have HO := Lib.hid hown; clear hown
    have ha : Hid (ar (Tm.two c a b).kind = 2) := by apply Lib.hid; rw [ar_kind ho]; rfl
    have hda := a.depth_pos
    have hdb := b.depth_pos
    have hlen : p + ((Tm.two c a b).enc ++ r).length = s.size := drop_len (by omega) hd
    simp only [List.length_append, Tm.enc, List.length_cons] at hlen
    have E1 : Hid (wrap64 ((p : Int) + (tokLen (.two c a b) : Int)) = ((p + 1 : Nat) : Int)) := by apply Lib.hid; simp only [tokLen]; rw [wr (by omega) (by omega)]; omega
    have E2 : Hid (wrap64 (level + 1) = level + 1) := by apply Lib.hid; exact wr (by omega) (by omega)
    rw [show k + (j2 + j1 + 1) = k + j2 + j1 + 1 by omega]
    simp only [chantryref03_Depth.l0]
    rw [if_pos (by omega), if_pos (by omega), HB.out, need_spec _ (by omega), ha.out, Option.bind_some, HO.out, Option.bind_some, if_neg (by decide), if_pos rfl, if_pos (by omega), E1.out, E2.out, mx_eq, hh1 (k + j2) (by omega), pop_snoc, hh2 k hk]
    simp only [Tm.enc, List.length_cons, List.length_append, Tm.depth]
    rw [show p + 1 + a.enc.length + b.enc.length = p + (a.enc.length + b.enc.length + 1) by omega, show max (max (max top level) (level + 1 + (a.depth : Int) - 1)) (level + 1 + (b.depth : Int) - 1) = max top (level + ((max a.depth b.depth + 1 : Nat) : Int) - 1) by omega]

theorem depth_spec (k : Nat) (t : Tm) (ho : t.ok) (hs : t.enc.length ≤ 100000) (hk : t.enc.length + 10 ≤ k) : chantryref03_Depth.f k t.str = some (t.depth : Int) := by
  have hsz : t.str.size = t.enc.length := by rw [Tm.str, strOf_size]
  have hd : t.str.data.toList.drop 0 = t.enc ++ [] := by rw [Tm.str, strOf_data]; simp
  obtain ⟨j, hj, h⟩ := depth_ok t t.str 0 [] [] 0 1 (by omega) ho hd (by simp; omega) (by omega) (by omega)
  have := h (k - j) (by omega)
  rw [show k - j + j = k by omega] at this
  unfold chantryref03_Depth.f
  refine Eq.trans this ?_
  simp only [pop, List.reverse_nil]
  have := t.depth_pos
  congr 1
  omega

/-! ### Check -/
theorem check_spec (k : Nat) (hk : 3000 ≤ k) (s : ByteArray) : chantryref03_Check.f k s = some (check s) := by
  unfold chantryref03_Check.f check
  by_cases hb : s.size > 2000
  · rw [if_pos (by omega), if_pos hb]
  · rw [if_neg (by omega), if_neg hb]
    have he := end_spec k s (by omega) (by omega) 0 (by omega)
    rw [List.drop_zero] at he
    rw [show ((0 : Nat) : Int) = 0 from rfl] at he
    rw [he, Option.bind_some]
    unfold TT.read
    cases hp : parse (s.size + 1) s.data.toList with
    | none =>
      simp only
      rw [if_neg (by omega)]
    | some x =>
      obtain ⟨t, r⟩ := x
      obtain ⟨e, ho⟩ := parse_sound _ _ _ _ hp
      have hl : s.data.toList.length = t.enc.length + r.length := by rw [e, List.length_append]
      rw [len_eq] at hl
      cases r with
      | nil =>
        simp only
        rw [List.length_nil] at hl
        have hstr : s = t.str := by rw [List.append_nil] at e; rw [Tm.str, ← e, strOf_of]
        rw [if_pos (by omega), hstr, depth_spec k t ho (by omega) (by omega), Option.bind_some]
        by_cases hd : t.depth > 60
        · rw [if_pos (by omega), if_pos hd]
        · rw [if_neg (by omega), if_neg hd]
      | cons x r =>
        simp only
        rw [List.length_cons] at hl
        rw [if_neg (by omega)]
end Go.Proofs.Ytinkkiglkjihmaa.Ev03
