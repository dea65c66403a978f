/- The reader of terms (package term): skip and read, what they do to the reader's block and to the row of terms. -/
import Derived.Test.YtinkkiglkjihmaaTm
import Derived.Test.YtinkkiglkjihmaaWWords
import Derived.Test.YtinkkiglkjihmaaWLast
import Derived.Test.YtinkkiglkjihmaaProg
import Derived.OneCell
import Derived.RegionTactic
import Derived.ChangeAlike
import Derived.Lib.Hide
import Derived.Outline
import Derived.Defers
import Derived.Recover
import Derived.WalkSmall
set_option linter.unusedVariables false
set_option linter.unusedSimpArgs false
namespace Go.Proofs.Ytinkkiglkjihmaa
open Go.RowKit Go.Proofs.YtinkkiglkjihmaaW.PrintWords Go.Proofs.YtinkkiglkjihmaaW.PrintLast
namespace Rdr

/-- The reader: its block g, the text, the place, the terms so far in a row of its own. -/
def Rd (g : Nat) (s : ByteArray) (w : World) (p : Nat) (l : List ByteArray) : Prop :=
  ∃ v, w.heap[g]? = some (.cells #[.string s, .int .i64 p, v] 101 (0, 0)) ∧ w.ownsRow (g + 1) 23 1 v l.length (l.map Value.string)

def broken : List PanicEntry := [{ v := .iface 97 (.agg #[.int .i64 4]), recovered := false }]

theorem Rd.drewN {g : Nat} {s : ByteArray} {w : World} {p : Nat} {l : List ByteArray} (h : Rd g s w p l) (n : Nat) : Rd g s (w.drewN n) p l := h
theorem Rd.at_ {g : Nat} {s : ByteArray} {w : World} {p : Nat} {l : List ByteArray} (h : Rd g s w p l) (q : Nat) {x : Int} (hx : x = q) : Rd g s (w.setCell ⟨g, 1, none⟩ (.int .i64 x)) q l := by
  obtain ⟨v, hb, hown⟩ := h
  refine ⟨v, blk_put hb 1 _ (by rw [hx]; rfl), ownsRow_setCell_below hown (by show g < g + 1; omega) _⟩
theorem below_of_drewN {g : Nat} {w w' : World} (h : Below g w w') (n : Nat) : Below g w (w'.drewN n) := ⟨h.os, h.tape, h.output, h.size, h.block⟩

set_option maxHeartbeats 400000 in
theorem skip_ok (g : Nat) (s : ByteArray) (p n : Nat) (x : Int) (hx : x = n) (l : List ByteArray) (w : World) (hs : s.size ≤ 2000) (h : Rd g s w p l) (hp : p + n ≤ s.size) :
    Calls Try.prog 76 #[.pointer (some ⟨g, 0, none⟩), .int .i64 x] w fun e w' => e = .returned (.tuple #[]) ∧ Rd g s w' (p + n) l ∧ Below g w w' := by
  have HR := Lib.hid h
  obtain ⟨v, hb, hown⟩ := h
  have h2 : 0 ≤ x ∧ x ≤ 2000 ∧ p + x ≤ s.size := by omega
  have HX := Lib.hid hx; clear hx
  have h0 : w.cell? ⟨g, 0, none⟩ = some (.string s) := by simp [World.cell?, hb]
  have h1 : w.cell? ⟨g, 1, none⟩ = some (.int .i64 p) := by simp [World.cell?, hb]
  have f1 : w.frozen? ⟨g, 1, none⟩ = false := by simp [World.frozen?, hb]
  go_enter Try.func76, Try.ntmps76
  go_wp2
  go_quiet (fail)
  go_wp2
  go_end0
  exact ⟨rfl, (HR.out.drewN _).at_ _ (by have := HX.out; omega), (below_of_drewN (Below.refl _ _) _).setCell (p := ⟨g, 1, none⟩) (Nat.le_refl _) _⟩

set_option maxHeartbeats 400000 in
theorem skip_bad (g : Nat) (s : ByteArray) (p n : Nat) (x : Int) (hx : x = n) (l : List ByteArray) (w : World) (hs : s.size ≤ 2000) (h : Rd g s w p l) (hn : n ≤ 2000) (hp0 : p ≤ s.size) (hp : s.size < p + n) :
    Calls Try.prog 76 #[.pointer (some ⟨g, 0, none⟩), .int .i64 x] w fun e w' => e = .panicked broken ∧ Below g w w' := by
  obtain ⟨v, hb, hown⟩ := h
  have h2 : 0 ≤ x ∧ x ≤ 2000 ∧ s.size < p + x := by omega
  clear hx
  have h0 : w.cell? ⟨g, 0, none⟩ = some (.string s) := by simp [World.cell?, hb]
  have h1 : w.cell? ⟨g, 1, none⟩ = some (.int .i64 p) := by simp [World.cell?, hb]
  go_enter Try.func76, Try.ntmps76
  go_wp2
  go_quiet (fail)
  go_wp2
  exact ⟨rfl, rfl, below_of_drewN (Below.refl _ _) _⟩

open TT (ar)
theorem u8_eq (c : UInt8) (n : Nat) (hn : n < 256) : ((c.toNat : Int) = n) ↔ c = UInt8.ofNat n := by
  constructor
  · intro h
    have : c.toNat = n := by omega
    rw [← this, UInt8.ofNat_toNat]
  · rintro rfl
    simp only [UInt8.toNat_ofNat']
    omega
theorem ar_parts {c : UInt8} {p : Nat} (h : c = 104 ∨ TT.isTwo c = true) : (ar c = 1 ∧ p + 1 = p + 1 ∧ c = 104) ∨ (ar c = 2 ∧ p + 1 = p + 1 ∧ TT.isTwo c = true) := by
  rcases h with rfl | h
  · exact .inl ⟨rfl, rfl, rfl⟩
  · have := TT.isTwo_ne h
    refine .inr ⟨?_, rfl, h⟩
    unfold ar
    rw [if_neg (by simp [this.1, this.2.1]), if_neg this.2.2, if_pos h]
theorem ar_lo (c : UInt8) : -1 ≤ ar c ∧ ar c ≤ 2 := by unfold ar; split <;> (try split) <;> (try split) <;> omega

set_option maxHeartbeats 400000 in
theorem arity_any (c : UInt8) (w : World) : Calls Try.prog 38 #[.int .u8 c.toNat] w fun e w' => e = .returned (.int .i64 (ar c)) ∧ w' = w := by
  by_cases h1 : c = 110
  · subst h1
    go_enter Try.func38, Try.ntmps38
    go_wp2
    go_ret
    exact ⟨rfl, rfl⟩
  by_cases h2 : c = 99
  · subst h2
    go_enter Try.func38, Try.ntmps38
    go_wp2
    go_ret
    exact ⟨rfl, rfl⟩
  by_cases h3 : c = 104
  · subst h3
    go_enter Try.func38, Try.ntmps38
    go_wp2
    go_ret
    exact ⟨rfl, rfl⟩
  by_cases h4 : TT.isTwo c = true
  · unfold TT.isTwo at h4
    simp only [Bool.or_eq_true, beq_iff_eq] at h4
    rcases h4 with ((rfl | rfl) | rfl) | rfl
    all_goals
      go_enter Try.func38, Try.ntmps38
      go_wp2
      go_ret
      exact ⟨rfl, rfl⟩
  · have e : ar c = -1 := by unfold ar; rw [if_neg (by simp [h1, h2]), if_neg h3, if_neg h4]
    have g1 : ((c.toNat : Int) == 110) = false := by rw [beq_eq_false_iff_ne]; intro h; exact h1 ((u8_eq c 110 (by omega)).1 h)
    have g2 : ((c.toNat : Int) == 99) = false := by rw [beq_eq_false_iff_ne]; intro h; exact h2 ((u8_eq c 99 (by omega)).1 h)
    have g3 : ((c.toNat : Int) == 104) = false := by rw [beq_eq_false_iff_ne]; intro h; exact h3 ((u8_eq c 104 (by omega)).1 h)
    have g4 : ((c.toNat : Int) == 100) = false := by rw [beq_eq_false_iff_ne]; intro h; rw [(u8_eq c 100 (by omega)).1 h] at h4; exact h4 rfl
    have g5 : ((c.toNat : Int) == 109) = false := by rw [beq_eq_false_iff_ne]; intro h; rw [(u8_eq c 109 (by omega)).1 h] at h4; exact h4 rfl
    have g6 : ((c.toNat : Int) == 115) = false := by rw [beq_eq_false_iff_ne]; intro h; rw [(u8_eq c 115 (by omega)).1 h] at h4; exact h4 rfl
    have g7 : ((c.toNat : Int) == 112) = false := by rw [beq_eq_false_iff_ne]; intro h; rw [(u8_eq c 112 (by omega)).1 h] at h4; exact h4 rfl
    rw [e]
    clear e h1 h2 h3 h4
    go_enter Try.func38, Try.ntmps38
    go_wp2
    go_ret
    exact ⟨rfl, rfl⟩

theorem infoT : (Try.prog.info? 23).map (fun i => (i.zero, i.size, i.bytes)) = some (some (.string ⟨#[]⟩), 1, 16) := by kernel_rfl

/-- What a call of read comes to, where the text is read as o from place p on. -/
def Post (g : Nat) (s : ByteArray) (l : List ByteArray) (deep : Nat) (w : World) (o : Option (TT.Tm × List UInt8)) (e : Ending) (w' : World) : Prop :=
  Below g w w' ∧ match o with
    | none => e = .panicked broken
    | some (t, r) => e = .returned (.bool (decide (deep + t.depth ≤ 61))) ∧ Rd g s w' (s.size - r.length) (l ++ t.subs.map TT.Tm.str)

theorem parse_at_end {s : ByteArray} {p n : Nat} (h : s.size ≤ p) : TT.parse n (s.data.toList.drop p) = none := by
  rw [List.drop_eq_nil_of_le (by rw [Array.length_toList]; exact h)]
  cases n <;> rfl
theorem drop_at {s : ByteArray} {p : Nat} (h : p < s.size) : s.data.toList.drop p = s[p] :: s.data.toList.drop (p + 1) := by
  rw [List.drop_eq_getElem_cons (by rw [Array.length_toList]; exact h)]
  rfl
theorem nonce_ok {s : ByteArray} {p : Nat} (hd : s.data.toList.drop p = 110 :: s.data.toList.drop (p + 1)) (h : p + 3 ≤ s.size) (n : Nat) :
    ∃ t : TT.Tm, TT.parse (n + 1) (s.data.toList.drop p) = some (t, s.data.toList.drop (p + 3)) ∧ t.subs = [t] ∧ t.depth = 1 := by
  rw [hd, drop_at (show p + 1 < s.size by omega), drop_at (show p + 1 + 1 < s.size by omega)]
  exact ⟨_, rfl, rfl, rfl⟩
theorem drop_none {s : ByteArray} {p : Nat} (h : s.size ≤ p) : s.data.toList.drop p = [] := List.drop_eq_nil_of_le (by rw [Array.length_toList]; exact h)
theorem nonce_bad {s : ByteArray} {p : Nat} (hd : s.data.toList.drop p = 110 :: s.data.toList.drop (p + 1)) (h : s.size < p + 3) {n : Nat} : TT.parse (n + 1) (s.data.toList.drop p) = none := by
  rw [hd]
  by_cases h1 : p + 1 < s.size
  · rw [drop_at h1, drop_none (by omega)]; rfl
  · rw [drop_none (by omega)]; rfl
theorem const_bad1 {s : ByteArray} {p : Nat} (hd : s.data.toList.drop p = 99 :: s.data.toList.drop (p + 1)) (h : s.size < p + 2) {n : Nat} : TT.parse (n + 1) (s.data.toList.drop p) = none := by
  rw [hd, drop_none (by omega)]; rfl
theorem const_eq {s : ByteArray} {p : Nat} (hd : s.data.toList.drop p = 99 :: s.data.toList.drop (p + 1)) (h : p + 1 < s.size) (n : Nat) : TT.parse (n + 1) (s.data.toList.drop p) =
    if s[p + 1].toNat ≤ 40 ∧ s[p + 1].toNat ≤ (s.data.toList.drop (p + 2)).length then some (.const ((s.data.toList.drop (p + 2)).take s[p + 1].toNat), (s.data.toList.drop (p + 2)).drop s[p + 1].toNat) else none := by
  rw [hd, drop_at h]; rfl
theorem const_ok {s : ByteArray} {p : Nat} (hd : s.data.toList.drop p = 99 :: s.data.toList.drop (p + 1)) (h : p + 1 < s.size) (h1 : s[p + 1].toNat ≤ 40) (h2 : p + 2 + s[p + 1].toNat ≤ s.size) (n : Nat) :
    ∃ t : TT.Tm, TT.parse (n + 1) (s.data.toList.drop p) = some (t, s.data.toList.drop (p + 2 + s[p + 1].toNat)) ∧ t.subs = [t] ∧ t.depth = 1 := by
  have hl : s.data.toList.length = s.size := by rw [Array.length_toList]; rfl
  rw [const_eq hd h, if_pos ⟨h1, by rw [List.length_drop, hl]; omega⟩, List.drop_drop]
  exact ⟨_, rfl, rfl, rfl⟩
theorem const_bad2 {s : ByteArray} {p : Nat} (hd : s.data.toList.drop p = 99 :: s.data.toList.drop (p + 1)) (h : p + 1 < s.size) (h1 : 40 < s[p + 1].toNat ∨ s.size < p + 2 + s[p + 1].toNat) {n : Nat} :
    TT.parse (n + 1) (s.data.toList.drop p) = none := by
  have hl : s.data.toList.length = s.size := by rw [Array.length_toList]; rfl
  rw [const_eq hd h, if_neg (by rw [List.length_drop, hl]; omega)]
theorem other_bad {s : ByteArray} {p : Nat} {c : UInt8} (hd : s.data.toList.drop p = c :: s.data.toList.drop (p + 1)) (h : ar c = -1) {n : Nat} : TT.parse (n + 1) (s.data.toList.drop p) = none := by
  unfold ar at h
  rw [hd]
  by_cases h1 : c = 110 ∨ c = 99
  · rw [if_pos h1] at h; omega
  · rw [if_neg h1] at h
    by_cases h2 : c = 104
    · rw [if_pos h2] at h; omega
    · rw [if_neg h2] at h
      by_cases h3 : TT.isTwo c = true
      · rw [if_pos h3] at h; omega
      · simp only [not_or] at h1
        simp only [TT.parse]
        rw [if_neg h1.1, if_neg h1.2, if_neg h2, if_neg h3]
/-- What stands behind the switch: the kind is c, the reader stands behind the bytes of the term's own. -/
def Mid (g : Nat) (s : ByteArray) (p : Nat) (l : List ByteArray) (w : World) (c : UInt8) (n : Nat) (wc : World) (q : Nat) (m : Int) : Prop :=
  Rd g s wc q (l ++ [⟨#[]⟩]) ∧ Below g w wc ∧ q ≤ s.size ∧ p + 1 ≤ q ∧
    (m = 0 ∧ (∃ t : TT.Tm, TT.parse (n + 1) (s.data.toList.drop p) = some (t, s.data.toList.drop q) ∧ t.subs = [t] ∧ t.depth = 1) ∨ m = 1 ∧ q = p + 1 ∧ c = 104 ∨ m = 2 ∧ q = p + 1 ∧ TT.isTwo c = true)
/-- What stands behind the loop over the parts. -/
def Fin (g : Nat) (s : ByteArray) (p : Nat) (l : List ByteArray) (w : World) (t : TT.Tm) (n : Nat) (wc : World) (q : Nat) : Prop :=
  Rd g s wc q (l ++ [⟨#[]⟩] ++ t.subs.tail.map TT.Tm.str) ∧ Below g w wc ∧ q ≤ s.size ∧ p ≤ q ∧ TT.parse (n + 1) (s.data.toList.drop p) = some (t, s.data.toList.drop q)
theorem fits_one {deep d : Nat} (h : deep + d = deep + 1) : Value.bool (decide ((deep : Int) ≤ 60)) = Value.bool (decide (deep + d ≤ 61)) := by
  congr 1
  rw [decide_eq_decide]
  omega
theorem fits_and0 {deep d : Nat} (h : decide (deep + 1 + d ≤ 61) = false) : Value.bool false = Value.bool (decide (deep + (d + 1) ≤ 61)) := by
  congr 1
  rw [decide_eq_false_iff_not] at h
  exact (decide_eq_false (by omega)).symm
theorem fits_and1 {deep d : Nat} (h : decide (deep + 1 + d ≤ 61) = true) : Value.bool (decide ((deep : Int) ≤ 60)) = Value.bool (decide (deep + (d + 1) ≤ 61)) := by
  congr 1
  rw [decide_eq_true_eq] at h
  rw [decide_eq_decide]
  omega
theorem hash_bad {s : ByteArray} {p n : Nat} (hd : s.data.toList.drop p = 104 :: s.data.toList.drop (p + 1)) (h : TT.parse n (s.data.toList.drop (p + 1)) = none) : TT.parse (n + 1) (s.data.toList.drop p) = none := by
  rw [hd]
  simp only [TT.parse]
  rw [if_neg (by decide), if_neg (by decide), if_pos trivial, h]
  rfl
/-- What is left behind a reading: the text's end from there on. -/
theorem parse_rest {s : ByteArray} {p n : Nat} {t : TT.Tm} {r : List UInt8} (hp : p ≤ s.size) (h : TT.parse n (s.data.toList.drop p) = some (t, r)) :
    r = s.data.toList.drop (s.size - r.length) ∧ r.length ≤ s.size ∧ s.size - r.length = p + t.enc.length := by
  obtain ⟨e, ho⟩ := TT.parse_sound _ _ _ _ h
  have hl : s.data.toList.length = s.size := by rw [Array.length_toList]; rfl
  have hl2 : s.size - p = t.enc.length + r.length := by
    have := congrArg List.length e
    rw [List.length_drop, List.length_append, hl] at this
    exact this
  refine ⟨?_, by omega, by omega⟩
  have h1 : s.size - r.length = p + t.enc.length := by omega
  rw [h1, ← List.drop_drop, e, List.drop_left]
theorem hash_ok {s : ByteArray} {p n : Nat} {t : TT.Tm} {r : List UInt8} (hd : s.data.toList.drop p = 104 :: s.data.toList.drop (p + 1)) (hp : p + 1 ≤ s.size) (h : TT.parse n (s.data.toList.drop (p + 1)) = some (t, r)) :
    TT.parse (n + 1) (s.data.toList.drop p) = some (.hash t, s.data.toList.drop (s.size - r.length)) := by
  rw [← (parse_rest hp h).1, hd]
  simp only [TT.parse]
  rw [if_neg (by decide), if_neg (by decide), if_pos trivial, h]
  rfl
theorem fin_hash {g : Nat} {s : ByteArray} {p n : Nat} {l : List ByteArray} {w w3 : World} {t : TT.Tm} {r : List UInt8} (hd : s.data.toList.drop p = 104 :: s.data.toList.drop (p + 1)) (hp : p + 1 ≤ s.size)
    (h : TT.parse n (s.data.toList.drop (p + 1)) = some (t, r)) (hR : Rd g s w3 (s.size - r.length) (l ++ [⟨#[]⟩] ++ t.subs.map TT.Tm.str)) (hb : Below g w w3) : Fin g s p l w (.hash t) n w3 (s.size - r.length) :=
  ⟨hR, hb, by omega, by have := (parse_rest hp h).2.2; omega, hash_ok hd hp h⟩
theorem two_bad1 {s : ByteArray} {p n : Nat} {c : UInt8} (hc : TT.isTwo c = true) (hd : s.data.toList.drop p = c :: s.data.toList.drop (p + 1)) (h : TT.parse n (s.data.toList.drop (p + 1)) = none) : TT.parse (n + 1) (s.data.toList.drop p) = none := by
  obtain ⟨h1, h2, h3⟩ := TT.isTwo_ne hc
  rw [hd]
  simp only [TT.parse]
  rw [if_neg h1, if_neg h2, if_neg h3, if_pos hc, h]
  rfl
theorem two_bad2 {s : ByteArray} {p n : Nat} {c : UInt8} {t : TT.Tm} {r : List UInt8} (hc : TT.isTwo c = true) (hd : s.data.toList.drop p = c :: s.data.toList.drop (p + 1)) (h : TT.parse n (s.data.toList.drop (p + 1)) = some (t, r)) (h' : TT.parse n r = none) : TT.parse (n + 1) (s.data.toList.drop p) = none := by
  obtain ⟨h1, h2, h3⟩ := TT.isTwo_ne hc
  rw [hd]
  simp only [TT.parse]
  rw [if_neg h1, if_neg h2, if_neg h3, if_pos hc, h]
  simp only [Option.bind_some, h']
  rfl
theorem parse_place {s : ByteArray} {p n : Nat} {t : TT.Tm} {r : List UInt8} (hp : p ≤ s.size) (h : TT.parse n (s.data.toList.drop p) = some (t, r)) :
    ∃ q, s.size - r.length = q ∧ r = s.data.toList.drop q ∧ q ≤ s.size ∧ q = p + t.enc.length ∧ p < q := by
  have := parse_rest hp h
  have h1 := t.enc_pos
  exact ⟨_, rfl, this.1, by omega, this.2.2, by omega⟩
theorem len_after {p q : Nat} {l : List ByteArray} {t : TT.Tm} (hl : l.length ≤ p) (hq : q = p + 1 + t.enc.length) : (l ++ [(⟨#[]⟩ : ByteArray)] ++ t.subs.map TT.Tm.str).length ≤ q := by
  have := t.subs_len
  simp
  omega
theorem fin_two {g : Nat} {s : ByteArray} {p n q1 : Nat} {c : UInt8} {l : List ByteArray} {w w4 : World} {t u : TT.Tm} {r r2 : List UInt8} (hc : TT.isTwo c = true) (hd : s.data.toList.drop p = c :: s.data.toList.drop (p + 1)) (hp : p + 1 ≤ s.size)
    (h : TT.parse n (s.data.toList.drop (p + 1)) = some (t, r)) (hr : r = s.data.toList.drop q1) (hq : q1 ≤ s.size) (hpq : p + 1 < q1) (h' : TT.parse n (s.data.toList.drop q1) = some (u, r2))
    (hR : Rd g s w4 (s.size - r2.length) (l ++ [⟨#[]⟩] ++ t.subs.map TT.Tm.str ++ u.subs.map TT.Tm.str)) (hb : Below g w w4) : Fin g s p l w (.two c t u) n w4 (s.size - r2.length) := by
  refine ⟨by simpa [TT.Tm.subs] using hR, hb, by omega, by have := (parse_rest hq h').2.2; omega, ?_⟩
  obtain ⟨h1, h2, h3⟩ := TT.isTwo_ne hc
  rw [← (parse_rest hq h').1, hd]
  simp only [TT.parse]
  rw [if_neg h1, if_neg h2, if_neg h3, if_pos hc, h]
  simp only [Option.bind_some, hr, h']
theorem fits_two0 {deep d d2 : Nat} (h : decide (deep + 1 + d ≤ 61) = false) : Value.bool false = Value.bool (decide (deep + (max d d2 + 1) ≤ 61)) := by
  congr 1
  rw [decide_eq_false_iff_not] at h
  exact (decide_eq_false (by omega)).symm
theorem fits_two1 {deep d d2 : Nat} (h : decide (deep + 1 + d2 ≤ 61) = false) : Value.bool false = Value.bool (decide (deep + (max d d2 + 1) ≤ 61)) := by
  congr 1
  rw [decide_eq_false_iff_not] at h
  exact (decide_eq_false (by omega)).symm
theorem fits_two {deep d d2 : Nat} (h : decide (deep + 1 + d ≤ 61) = true) (h2 : decide (deep + 1 + d2 ≤ 61) = true) : Value.bool (decide ((deep : Int) ≤ 60)) = Value.bool (decide (deep + (max d d2 + 1) ≤ 61)) := by
  congr 1
  rw [decide_eq_true_eq] at h h2
  rw [decide_eq_decide]
  omega
theorem own_some {w : World} {base n e : Nat} {v : Value} {xs : List Value} (h : w.ownsRow base e 1 v n xs) (hn : 0 < n) : ∃ g c, v = .slice (some ⟨g, 0, none⟩) n c := by
  rcases h.2 with ⟨rfl, h0⟩ | ⟨g, cap, cur, rfl, _⟩
  · omega
  · exact ⟨g, cap, rfl⟩
/-- What stands behind 'r.seen = append(r.seen, "")'. -/
theorem Rd.pushed {g : Nat} {s : ByteArray} {w w1 : World} {p : Nat} {l : List ByteArray} {v v' : Value} (hb : w.heap[g]? = some (.cells #[.string s, .int .i64 p, v] 101 (0, 0))) (hown : w.ownsRow (g + 1) 23 1 v l.length (l.map Value.string)) (o : Obj) (hgt : g < w.heap.size) (m : Nat)
    (hown' : w1.ownsRow (g + 1) 23 1 v' (l.length + 1) (l.map Value.string ++ [.string ⟨#[]⟩])) (hgrow : ((w.drewN m).alloc o).grownBy w1 v.ownBlock) :
    Rd g s (w1.setCell ⟨g, 2, none⟩ v') p (l ++ [⟨#[]⟩]) ∧ Below g w (w1.setCell ⟨g, 2, none⟩ v') := by
  have hne : some g ≠ v.ownBlock := fun h => by have := own_base hown g h.symm; omega
  have hb1 : w1.heap[g]? = some (.cells #[.string s, .int .i64 p, v] 101 (0, 0)) := blk_grown (blk_alloc (blk_drewN hb m) o) hgrow hne
  refine ⟨⟨v', blk_put hb1 2 _ rfl, ?_⟩, ?_⟩
  · have := ownsRow_setCell_below hown' (a := ⟨g, 2, none⟩) (by show g < g + 1; omega) v'
    simpa using this
  · exact (((below_of_drewN (Below.refl g w) m).alloc (Nat.le_of_lt hgt) o).grown hgrow (by simp [World.drewN]; omega) (fun k hk => by have := own_base hown k hk; omega)).setCell (p := ⟨g, 2, none⟩) (Nat.le_refl _) _

theorem cell_new (w : World) (u : Value) (T : Nat) : (w.alloc (.cells #[u] T (0, 0))).cell? ((⟨w.heap.size, 0, none⟩ : Addr).add 0) = some u := blk_cell (blk_new w _) 0
theorem extract_str {s : ByteArray} {p q n : Nat} {t : TT.Tm} (hps : p ≤ s.size) (hpq : p ≤ q) (hq : q ≤ s.size) (h : TT.parse n (s.data.toList.drop p) = some (t, s.data.toList.drop q)) : s.extract p q = t.str := by
  obtain ⟨e, ho⟩ := TT.parse_sound _ _ _ _ h
  have hl : s.data.toList.length = s.size := by rw [Array.length_toList]; rfl
  have h1 := (parse_rest hps h).2.2
  rw [List.length_drop, hl] at h1
  have h2 : q - p = t.enc.length := by omega
  have h3 : (s.extract p q).data.toList = t.enc := by
    rw [ByteArray.data_extract, Array.toList_extract, List.extract_eq_take_drop, e, h2, List.take_left]
  rw [TT.Tm.str, ← h3, TT.strOf_of]
theorem fin_end {g : Nat} {s : ByteArray} {p q n deep gr cr : Nat} {l L : List ByteArray} {w wc : World} {t : TT.Tm} (hps : p ≤ s.size) (hpq : p ≤ q) (hq : q ≤ s.size) (hM : TT.parse (n + 1) (s.data.toList.drop p) = some (t, s.data.toList.drop q)) (hB : Below g w wc)
    (hb : wc.heap[g]? = some (.cells #[.string s, .int .i64 q, .slice (some ⟨gr, 0, none⟩) L.length cr] 101 (0, 0))) (hown : wc.ownsRow (g + 1) 23 1 (.slice (some ⟨gr, 0, none⟩) L.length cr) L.length (L.map Value.string))
    (hL : l ++ [(⟨#[]⟩ : ByteArray)] ++ t.subs.tail.map TT.Tm.str = L) :
    Post g s l deep w (TT.parse (n + 1) (s.data.toList.drop p)) (.returned (.bool (decide (deep + t.depth ≤ 61)))) (wc.setCell ⟨gr, l.length, none⟩ (.string (s.extract p q))).drew := by
  have hge : g + 1 ≤ gr := own_base hown gr rfl
  have hl : s.data.toList.length = s.size := by rw [Array.length_toList]; rfl
  have hst := hown.stored l.length (.string (s.extract p q))
  refine ⟨(hB.setCell (p := ⟨gr, l.length, none⟩) (by show g ≤ gr; omega) _).drew, ?_⟩
  rw [hM]
  refine ⟨rfl, ?_⟩
  have e1 : s.size - (s.data.toList.drop q).length = q := by rw [List.length_drop, hl]; omega
  have e2 : L.set l.length (s.extract p q) = l ++ t.subs.map TT.Tm.str := by
    rw [extract_str hps hpq hq hM, ← hL]
    obtain ⟨r, hr, _⟩ := t.subs_eq
    rw [hr]
    simp
  have e3 : (l ++ t.subs.map TT.Tm.str).length = L.length := by rw [← e2, List.length_set]
  rw [e1]
  refine ⟨.slice (some ⟨gr, 0, none⟩) L.length cr, ?_, ?_⟩
  · exact blk_drew (blk_far hb (by show g ≠ gr; omega) _)
  · rw [e3, ← e2, List.map_set]
    exact hst.1
theorem Rd.lt {g : Nat} {s : ByteArray} {w : World} {p : Nat} {l : List ByteArray} (h : Rd g s w p l) : g < w.heap.size := by
  obtain ⟨v, hb, _⟩ := h
  exact blk_lt hb

set_option maxHeartbeats 1600000 in
set_option maxRecDepth 100000 in
theorem read_any (n : Nat) : ∀ (g : Nat) (s : ByteArray) (p : Nat) (deep : Nat) (l : List ByteArray) (w : World), s.size ≤ 2000 → Rd g s w p l → p ≤ s.size → l.length ≤ p → deep + (s.size - p) ≤ 3000 → s.size - p < n →
    Calls Try.prog 63 #[.pointer (some ⟨g, 0, none⟩), .int .i64 deep] w (Post g s l deep w (TT.parse n (s.data.toList.drop p))) := by
  induction n with
  | zero => intro g s p deep l w _ _ _ _ _ h; omega
  | succ n ih =>
  intro g s p deep l w hs h hps hlp hdeep hn
  have IH := Lib.hid ih; clear ih
  have hgt := h.lt
  obtain ⟨v, hb, hown⟩ := h
  obtain ⟨A0, c0, rfl⟩ := own_slice hown
  have h0 : w.cell? ⟨g, 0, none⟩ = some (.string s) := by simp [World.cell?, hb]
  have h1 : w.cell? ⟨g, 1, none⟩ = some (.int .i64 p) := by simp [World.cell?, hb]
  have h2 : w.cell? ⟨g, 2, none⟩ = some (.slice A0 l.length c0) := by simp [World.cell?, hb]
  obtain ⟨i, hi, hz0, hz1, hz2⟩ := info_parts infoT
  have HOWN := Lib.hid hown; clear hown
  have HB := Lib.hid hb; clear hb
  have HI := Lib.hid (And.intro hi (And.intro hz0 (And.intro hz1 hz2))); clear hi hz0 hz1 hz2
  go_enter Try.func63, Try.ntmps63
  go_wp2
  go_quiet (fail)
  go_wp2_with (at_builtin; refine wpList_append_own _ rfl (.tmp 23) (.tmp 24) 22 rfl (g + 1) 23 i (.string ⟨#[]⟩) 1 16 Try.underlying22 HI.out.1 HI.out.2.1 HI.out.2.2.1 HI.out.2.2.2 rfl (by decide) (.slice A0 l.length c0) l.length _ rfl ((show (w.drewN nq).ownsRow _ _ _ _ _ _ from HOWN.out).alloc _) ⟨w.heap.size, 0, none⟩ 1 1 [.string ⟨#[]⟩] rfl rfl ?c1 ?c2 (by unfold maxLen; omega) (by omega) (by simp [World.drewN]; omega) ?_)
  case c1 =>
    intro j u hj
    match j, hj with
    | 0, hj => simp at hj; subst hj; exact cell_new (w.drewN nq) _ _
  case c2 => intro u hu; simp at hu; subst hu; rfl
  intro v' w1 hown' hgrow _
  obtain ⟨A1, c1, rfl⟩ := own_slice hown'
  have hb1 : w1.heap[g]? = some (.cells #[.string s, .int .i64 p, .slice A0 l.length c0] 101 (0, 0)) := blk_grown (blk_alloc (blk_drewN HB.out nq) _) hgrow (fun h => by have := own_base HOWN.out g h.symm; omega)
  have h3 : w1.cell? ⟨g, 2, none⟩ = some (.slice A0 l.length c0) := by simp [World.cell?, hb1]
  have f3 : w1.frozen? ⟨g, 2, none⟩ = false := by simp [World.frozen?, hb1]
  have HP := Lib.hid (Rd.pushed HB.out HOWN.out _ hgt nq hown' hgrow)
  clear hown' hgrow hb1
  go_wp2_with fail
  by_cases hp : p < s.size
  · refine (skip_ok g s p 1 1 rfl _ _ hs HP.out.1 (by omega)).mono ?_
    rintro e w2 ⟨rfl, hR2, hb2⟩
    have HW2 := Lib.hid (HP.out.2.trans hb2)
    clear hb2 HP h3 f3 h0 h1 h2 HB HOWN HI
    have HR2 := Lib.hid hR2
    obtain ⟨v2, hblk2, hown2⟩ := hR2
    have h0 : w2.cell? ⟨g, 0, none⟩ = some (.string s) := by simp [World.cell?, hblk2]
    clear hblk2 hown2
    go_wp2_with fail
    have hdr := drop_at hp
    obtain ⟨c, hc⟩ : ∃ c, c = s[p] := ⟨_, rfl⟩
    rw [← hc] at hdr ⊢
    have HC := Lib.hid hc; clear hc
    have HDR := Lib.hid hdr; clear hdr
    refine (arity_any c w2).mono ?_
    rintro e w' ⟨rfl, rfl⟩
    have har := ar_lo c
    go_upto_block 0 with (fail)
    go_cut [8] (fun v8 wc => ∃ (q : Nat) (m : Int), v8 = .int .i64 m ∧ Mid g s p l w c n wc q m)
    case first =>
      by_cases k1 : c = 110
      · subst k1
        have ha : ar 110 = 0 := rfl
        rw [ha]
        clear ha
        go_wp2_with fail
        by_cases hq : p + 3 ≤ s.size
        · refine (skip_ok g s (p + 1) 2 2 rfl _ _ hs HR2.out (by omega)).mono ?_
          rintro e w3 ⟨rfl, hR3, hb3⟩
          have HM := Lib.hid (show Mid g s p l w 110 n w3 (p + 3) 0 from ⟨hR3, HW2.out.trans hb3, hq, by omega, .inl ⟨rfl, nonce_ok HDR.out hq n⟩⟩)
          clear hR3 hb3
          go_wp2
          go_meet
          case rel => exact ⟨p + 3, 0, rfl, HM.out⟩
        · refine (skip_bad g s (p + 1) 2 2 rfl _ _ hs HR2.out (by omega) (by omega) (by omega)).mono ?_
          rintro e w3 ⟨rfl, hb3⟩
          exact ⟨rfl, HW2.out.trans hb3, by rw [nonce_bad HDR.out (by omega)]⟩
      · by_cases k2 : c = 99
        · subst k2
          have ha : ar 99 = 0 := rfl
          rw [ha]
          clear ha
          go_wp2_with fail
          by_cases hq : p + 2 ≤ s.size
          · refine (skip_ok g s (p + 1) 1 1 rfl _ _ hs HR2.out (by omega)).mono ?_
            rintro e w3 ⟨rfl, hR3, hb3⟩
            have HW3 := Lib.hid (HW2.out.trans hb3)
            clear hb3 h0
            have HR3 := Lib.hid hR3
            obtain ⟨v3, hblk3, hown3⟩ := hR3
            have h0 : w3.cell? ⟨g, 0, none⟩ = some (.string s) := by simp [World.cell?, hblk3]
            clear hblk3 hown3
            have hp1 : p + 1 < s.size := by omega
            go_wp2_with fail
            · exact ⟨rfl, HW3.out, by rw [const_bad2 HDR.out hp1 (.inl (by omega))]; rfl⟩
            · by_cases hq2 : p + 2 + s[p + 1].toNat ≤ s.size
              · refine (skip_ok g s (p + 1 + 1) s[p + 1].toNat _ rfl _ _ hs HR3.out (by omega)).mono ?_
                rintro e w4 ⟨rfl, hR4, hb4⟩
                have HM := Lib.hid (show Mid g s p l w 99 n w4 (p + 2 + s[p + 1].toNat) 0 from ⟨by rw [show p + 2 + s[p + 1].toNat = p + 1 + 1 + s[p + 1].toNat from rfl]; exact hR4, HW3.out.trans hb4, hq2, by omega, .inl ⟨rfl, const_ok HDR.out hp1 (by omega) hq2 n⟩⟩)
                clear hR4 hb4
                go_wp2
                go_meet
                case rel => exact ⟨_, _, rfl, HM.out⟩
              · refine (skip_bad g s (p + 1 + 1) s[p + 1].toNat _ rfl _ _ hs HR3.out (by omega) (by omega) (by omega)).mono ?_
                rintro e w4 ⟨rfl, hb4⟩
                exact ⟨rfl, HW3.out.trans hb4, by rw [const_bad2 HDR.out hp1 (.inr (by omega))]⟩
          · refine (skip_bad g s (p + 1) 1 1 rfl _ _ hs HR2.out (by omega) (by omega) (by omega)).mono ?_
            rintro e w3 ⟨rfl, hb3⟩
            exact ⟨rfl, HW2.out.trans hb3, by rw [const_bad1 HDR.out (by omega)]⟩
        · have g1 : ((c.toNat : Int) == 110) = false := by rw [beq_eq_false_iff_ne]; intro h; exact k1 ((u8_eq c 110 (by omega)).1 h)
          have g2 : ((c.toNat : Int) == 99) = false := by rw [beq_eq_false_iff_ne]; intro h; exact k2 ((u8_eq c 99 (by omega)).1 h)
          by_cases k3 : c = 104 ∨ TT.isTwo c = true
          · have ha : 0 ≤ ar c := by
              rcases k3 with rfl | h
              · decide
              · have := TT.isTwo_ne h
                unfold ar
                rw [if_neg (by simp [k1, k2]), if_neg this.2.2, if_pos h]
                omega
            have HM := Lib.hid (show Mid g s p l w c n w' (p + 1) (ar c) from ⟨HR2.out, HW2.out, hp, by omega, .inr (ar_parts k3)⟩)
            clear k1 k2 k3
            go_wp2
            go_meet
            case rel => exact ⟨_, _, rfl, HM.out⟩
          · have ha : ar c = -1 := by
              simp only [not_or] at k3
              unfold ar
              rw [if_neg (by simp [k1, k2]), if_neg k3.1, if_neg k3.2]
            have HA := Lib.hid ha
            rw [ha]
            clear ha har k1 k2 k3
            go_wp2
            exact ⟨rfl, HW2.out, by rw [other_bad HDR.out HA.out]; rfl⟩
    case rest =>
      obtain ⟨q, m, rfl, hM⟩ := hcut
      have HM := Lib.hid hM; clear hM HW2 HR2 h0
      go_upto_block 1 with (fail)
      go_cut [9] (fun v9 wc => ∃ (t : TT.Tm) (q : Nat), v9 = .bool (decide (deep + t.depth ≤ 61)) ∧ Fin g s p l w t n wc q)
      case first =>
        obtain ⟨hR, hB, hq, hpq, hM⟩ := HM.out
        have HR := Lib.hid hR; have HBW := Lib.hid hB; clear hR hB HM
        rcases hM with ⟨rfl, t, ht, ht1, ht2⟩ | ⟨rfl, rfl, rfl⟩ | ⟨rfl, rfl, hc⟩
        · have HF := Lib.hid (show Fin g s p l w t n wc q from ⟨by rw [ht1]; simpa using HR.out, HBW.out, hq, by omega, ht⟩)
          have HD := Lib.hid (show deep + t.depth = deep + 1 by rw [ht2])
          clear ht ht1 ht2
          go_wp2_with fail
          refine wp_loop_rounds 1 ?_
          rw [rounds_succ]
          go_wp2_with fail
          go_meet
          case rel => exact ⟨t, q, fits_one HD.out, HF.out⟩
        · go_wp2_with fail
          refine wp_loop_rounds 2 ?_
          rw [rounds_succ]
          go_wp2_with fail
          rw [show ((deep : Int) + 1) = ((deep + 1 : Nat) : Int) from by omega]
          refine (IH.out g s (p + 1) (deep + 1) _ _ hs HR.out hq (by simp; omega) (by omega) (by omega)).mono ?_
          rintro e w3 ⟨hb3, hm3⟩
          cases hpa : TT.parse n (s.data.toList.drop (p + 1)) with
          | none =>
            rw [hpa] at hm3
            obtain rfl := hm3
            exact ⟨rfl, HBW.out.trans hb3, by rw [hash_bad HDR.out hpa]⟩
          | some tr =>
            obtain ⟨t1, r1⟩ := tr
            rw [hpa] at hm3
            obtain ⟨rfl, hR3⟩ := hm3
            have HF := Lib.hid (fin_hash HDR.out hq hpa hR3 (HBW.out.trans hb3))
            clear hpa hR3 hb3
            cases hb : decide (deep + 1 + t1.depth ≤ 61)
            all_goals
              have HD := Lib.hid hb
              clear hb
              go_wp2_with fail
              rw [rounds_succ]
              go_wp2_with fail
              go_meet
              case rel => exact ⟨_, _, by first | exact fits_and1 HD.out | exact fits_and0 HD.out, HF.out⟩
        · go_wp2_with fail
          refine wp_loop_rounds 3 ?_
          rw [rounds_succ]
          go_wp2_with fail
          rw [show ((deep : Int) + 1) = ((deep + 1 : Nat) : Int) from by omega]
          refine (IH.out g s (p + 1) (deep + 1) _ _ hs HR.out hq (by simp; omega) (by omega) (by omega)).mono ?_
          rintro e w3 ⟨hb3, hm3⟩
          cases hpa : TT.parse n (s.data.toList.drop (p + 1)) with
          | none =>
            rw [hpa] at hm3
            obtain rfl := hm3
            exact ⟨rfl, HBW.out.trans hb3, by rw [two_bad1 hc HDR.out hpa]⟩
          | some tr =>
            obtain ⟨t1, r1⟩ := tr
            rw [hpa] at hm3
            obtain ⟨rfl, hR3⟩ := hm3
            obtain ⟨q1, hq1, hr1, hqs, hql, hqd⟩ := parse_place hq hpa
            rw [hq1] at hR3
            have HPA := Lib.hid hpa; have HR3 := Lib.hid hR3; have HB3 := Lib.hid (HBW.out.trans hb3); have HR1 := Lib.hid hr1; have HQ1 := Lib.hid hq1
            have hlq := len_after hlp hql
            clear hpa hR3 hb3 hr1 hq1 hql
            cases hb : decide (deep + 1 + t1.depth ≤ 61)
            all_goals
              have HD := Lib.hid hb
              clear hb
              go_wp2_with fail
              rw [rounds_succ]
              go_wp2_with fail
              rw [show ((deep : Int) + 1) = ((deep + 1 : Nat) : Int) from by omega]
              refine (IH.out g s q1 (deep + 1) _ _ hs HR3.out hqs hlq (by omega) (by omega)).mono ?_
              rintro e w4 ⟨hb4, hm4⟩
              cases hpb : TT.parse n (s.data.toList.drop q1) with
              | none =>
                rw [hpb] at hm4
                obtain rfl := hm4
                exact ⟨rfl, HB3.out.trans hb4, by rw [two_bad2 hc HDR.out HPA.out (by rw [HR1.out]; exact hpb)]⟩
              | some tr2 =>
                obtain ⟨t2, r2⟩ := tr2
                rw [hpb] at hm4
                obtain ⟨rfl, hR4⟩ := hm4
                have HF := Lib.hid (fin_two hc HDR.out hq HPA.out HR1.out hqs hqd hpb hR4 (HB3.out.trans hb4))
                clear hpb hR4 hb4
                cases hb : decide (deep + 1 + t2.depth ≤ 61)
                all_goals
                  have HD2 := Lib.hid hb
                  clear hb
                  go_wp2_with fail
                  rw [rounds_succ]
                  go_wp2_with fail
                  go_meet
                  case rel => exact ⟨_, _, by first | exact fits_two HD.out HD2.out | exact fits_two0 HD.out | exact fits_two1 HD2.out, HF.out⟩
      case rest =>
        obtain ⟨t, q, rfl, hF⟩ := hcut
        obtain ⟨hR, hB, hq, hpq, hM⟩ := hF
        have HR := Lib.hid hR; have HBW := Lib.hid hB; have HPM := Lib.hid hM; clear HM hB hM
        obtain ⟨v, hblk, hown⟩ := hR
        obtain ⟨gr, cr, hvr⟩ := own_some hown (by simp; omega)
        subst hvr
        have h0 : wc.cell? ⟨g, 0, none⟩ = some (.string s) := by simp [World.cell?, hblk]
        have h1 : wc.cell? ⟨g, 1, none⟩ = some (.int .i64 q) := by simp [World.cell?, hblk]
        have h2 : wc.cell? ⟨g, 2, none⟩ = some (.slice (some ⟨gr, 0, none⟩) (l ++ [(⟨#[]⟩ : ByteArray)] ++ t.subs.tail.map TT.Tm.str).length cr) := by simp [World.cell?, hblk]
        have hcl : wc.cell? ⟨gr, l.length, none⟩ = some (.string ⟨#[]⟩) := by
          rw [hown.cellAt l.length (by simp)]
          simp
        have hfz : wc.frozen? ⟨gr, l.length, none⟩ = false := hown.frozenAt _
        have hlen : l.length < (l ++ [(⟨#[]⟩ : ByteArray)] ++ t.subs.tail.map TT.Tm.str).length := by simp
        generalize hL : l ++ [(⟨#[]⟩ : ByteArray)] ++ t.subs.tail.map TT.Tm.str = L at *
        have HL := Lib.hid hL
        have HBL := Lib.hid hblk; have HOW := Lib.hid hown; clear hL hblk hown
        have e1 : (p : Int) ≤ q := by omega
        have e2 : (q : Int) ≤ s.size := by omega
        have e3 : (l.length : Int) < L.length := by omega
        go_wp2_with fail
        go_region
        all_goals go_wp2
        all_goals go_ret
        all_goals exact fin_end hps hpq hq HPM.out HBW.out HBL.out HOW.out HL.out
  · refine (skip_bad g s p 1 1 rfl _ _ hs HP.out.1 (by omega) hps (by omega)).mono ?_
    rintro e w' ⟨rfl, hb'⟩
    refine ⟨rfl, HP.out.2.trans hb', ?_⟩
    rw [parse_at_end (by omega)]

end Rdr
end Go.Proofs.Ytinkkiglkjihmaa
