import Derived.Test.YtkmpfmhbkflgpaaGreatDoorWWords
import Derived.Test.YtkmpfmhbkflgpaaGreatDoorWLast
import Derived.Test.YtkmpfmhbkflgpaaGreatDoorProg
import Derived.OneCell
import Derived.RegionTactic
import Derived.ChangeAlike
import Derived.Lib.Hide
import Derived.Outline
import Derived.Defers
import Derived.Recover
import Derived.WalkSmall
import Derived.Lib.Builder
import Derived.Lib.UnsafeStr
import Derived.Lib.AppendStr
import Derived.Laws.Externs
import Derived.WalkKit
import Derived.KernelRfl
/- Terms as trees: their text, how a text is read, and that a text has one reading at the most. Plain Lean: no program in sight. -/
namespace Go.Proofs.YtkmpfmhbkflgpaaGreatDoor.TT

inductive Tm where
  | nonce (a b : UInt8)
  | const (l : List UInt8)
  | hash (t : Tm)
  | two (k : UInt8) (a b : Tm)
deriving DecidableEq

def isTwo (k : UInt8) : Bool := k == 100 || k == 109 || k == 115 || k == 112

namespace Tm
/-- A term's text. -/
def enc : Tm → List UInt8
  | nonce a b => [110, a, b]
  | const l => 99 :: UInt8.ofNat l.length :: l
  | hash t => 104 :: t.enc
  | two k a b => k :: (a.enc ++ b.enc)
def ok : Tm → Prop
  | nonce _ _ => True
  | const l => l.length ≤ 40
  | hash t => t.ok
  | two k a b => isTwo k = true ∧ a.ok ∧ b.ok
def depth : Tm → Nat
  | nonce _ _ => 1
  | const _ => 1
  | hash t => t.depth + 1
  | two _ a b => max a.depth b.depth + 1
/-- All that is in a term, each ahead of what it is made of. -/
def subs : Tm → List Tm
  | nonce a b => [nonce a b]
  | const l => [const l]
  | hash t => hash t :: t.subs
  | two k a b => two k a b :: (a.subs ++ b.subs)
def kind : Tm → UInt8
  | nonce _ _ => 110
  | const _ => 99
  | hash _ => 104
  | two k _ _ => k
def parts : Tm → List Tm
  | nonce _ _ => []
  | const _ => []
  | hash t => [t]
  | two _ a b => [a, b]
end Tm

/-- A text read from its beginning on: the term, and what is left. -/
def parse : Nat → List UInt8 → Option (Tm × List UInt8)
  | 0, _ => none
  | _ + 1, [] => none
  | k + 1, c :: r =>
    if c = 110 then
      match r with
      | a :: b :: r' => some (.nonce a b, r')
      | _ => none
    else if c = 99 then
      match r with
      | n :: r' => if n.toNat ≤ 40 ∧ n.toNat ≤ r'.length then some (.const (r'.take n.toNat), r'.drop n.toNat) else none
      | _ => none
    else if c = 104 then (parse k r).bind fun p => some (.hash p.1, p.2)
    else if isTwo c = true then (parse k r).bind fun p => (parse k p.2).bind fun q => some (.two c p.1 q.1, q.2)
    else none

theorem Tm.enc_ne : ∀ t : Tm, t.enc ≠ []
  | .nonce _ _ => by simp [Tm.enc]
  | .const _ => by simp [Tm.enc]
  | .hash _ => by simp [Tm.enc]
  | .two _ _ _ => by simp [Tm.enc]
theorem Tm.enc_pos (t : Tm) : 0 < t.enc.length := List.length_pos_iff.2 t.enc_ne
theorem Tm.depth_pos : ∀ t : Tm, 1 ≤ t.depth
  | .nonce _ _ => by simp [Tm.depth]
  | .const _ => by simp [Tm.depth]
  | .hash _ => by simp [Tm.depth]
  | .two _ _ _ => by simp [Tm.depth]
theorem Tm.depth_le : ∀ t : Tm, t.depth ≤ t.enc.length
  | .nonce _ _ => by simp [Tm.depth, Tm.enc]
  | .const _ => by simp [Tm.depth, Tm.enc]
  | .hash t => by have := Tm.depth_le t; simp [Tm.depth, Tm.enc]; omega
  | .two _ a b => by have := Tm.depth_le a; have := Tm.depth_le b; simp [Tm.depth, Tm.enc]; omega
theorem Tm.subs_len : ∀ t : Tm, t.subs.length ≤ t.enc.length
  | .nonce _ _ => by simp [Tm.subs, Tm.enc]
  | .const _ => by simp [Tm.subs, Tm.enc]
  | .hash t => by have := Tm.subs_len t; simp [Tm.subs, Tm.enc]; omega
  | .two _ a b => by have := Tm.subs_len a; have := Tm.subs_len b; simp [Tm.subs, Tm.enc]; omega
theorem Tm.subs_eq : ∀ t : Tm, ∃ r, t.subs = t :: r ∧ r = (t.parts.map Tm.subs).flatten
  | .nonce _ _ => ⟨_, rfl, rfl⟩
  | .const _ => ⟨_, rfl, rfl⟩
  | .hash _ => ⟨_, rfl, by simp [Tm.parts]⟩
  | .two _ _ _ => ⟨_, rfl, by simp [Tm.parts]⟩

theorem isTwo_ne {c : UInt8} (h : isTwo c = true) : c ≠ 110 ∧ c ≠ 99 ∧ c ≠ 104 := by
  refine ⟨?_, ?_, ?_⟩ <;> (rintro rfl; revert h; decide)

/-- What is read is what was written, and what is left. -/
theorem parse_sound : ∀ (k : Nat) (l : List UInt8) (t : Tm) (r : List UInt8), parse k l = some (t, r) → l = t.enc ++ r ∧ t.ok := by
  intro k
  induction k with
  | zero => intro l t r h; simp [parse] at h
  | succ k ih =>
    intro l t r h
    cases l with
    | nil => simp [parse] at h
    | cons c l =>
      simp only [parse] at h
      by_cases h1 : c = 110
      · rw [if_pos h1] at h
        match l, h with
        | a :: b :: l', h =>
          simp only [Option.some.injEq, Prod.mk.injEq] at h
          obtain ⟨rfl, rfl⟩ := h
          subst h1
          exact ⟨rfl, trivial⟩
      · rw [if_neg h1] at h
        by_cases h2 : c = 99
        · rw [if_pos h2] at h
          match l, h with
          | n :: l', h =>
            by_cases h3 : n.toNat ≤ 40 ∧ n.toNat ≤ l'.length
            · simp only [if_pos h3, Option.some.injEq, Prod.mk.injEq] at h
              obtain ⟨rfl, rfl⟩ := h
              subst h2
              have hl : (l'.take n.toNat).length = n.toNat := by simp; omega
              refine ⟨?_, ?_⟩
              · simp only [Tm.enc, hl, UInt8.ofNat_toNat, List.cons_append, List.take_append_drop]
              · simp only [Tm.ok, hl]; exact h3.1
            · simp [if_neg h3] at h
        · rw [if_neg h2] at h
          by_cases h3 : c = 104
          · rw [if_pos h3] at h
            obtain ⟨p, hp, h⟩ := Option.bind_eq_some_iff.1 h
            simp only [Option.some.injEq, Prod.mk.injEq] at h
            obtain ⟨rfl, rfl⟩ := h
            obtain ⟨e, o⟩ := ih _ _ _ hp
            subst h3
            refine ⟨?_, o⟩
            rw [e]; rfl
          · rw [if_neg h3] at h
            by_cases h4 : isTwo c = true
            · rw [if_pos h4] at h
              obtain ⟨p, hp, h⟩ := Option.bind_eq_some_iff.1 h
              obtain ⟨q, hq, h⟩ := Option.bind_eq_some_iff.1 h
              simp only [Option.some.injEq, Prod.mk.injEq] at h
              obtain ⟨rfl, rfl⟩ := h
              obtain ⟨e1, o1⟩ := ih _ _ _ hp
              obtain ⟨e2, o2⟩ := ih _ _ _ hq
              refine ⟨?_, h4, o1, o2⟩
              rw [e1, e2]; simp [Tm.enc]
            · rw [if_neg h4] at h
              cases h

theorem parse_enc : ∀ (t : Tm) (k : Nat) (r : List UInt8), t.ok → t.depth ≤ k → parse k (t.enc ++ r) = some (t, r)
  | .nonce a b, k, r, _, hk => by
    obtain ⟨k, rfl⟩ : ∃ m, k = m + 1 := ⟨k - 1, by simp [Tm.depth] at hk; omega⟩
    simp [Tm.enc, parse]
  | .const l, k, r, ho, hk => by
    obtain ⟨k, rfl⟩ : ∃ m, k = m + 1 := ⟨k - 1, by simp [Tm.depth] at hk; omega⟩
    have h1 : (UInt8.ofNat l.length).toNat = l.length := by
      simp only [Tm.ok] at ho
      simp only [UInt8.toNat_ofNat']
      omega
    simp only [Tm.enc, List.cons_append, parse, h1]
    rw [if_neg (by decide), if_pos trivial, if_pos ⟨ho, by simp⟩]
    simp
  | .hash t, k, r, ho, hk => by
    obtain ⟨k, rfl⟩ : ∃ m, k = m + 1 := ⟨k - 1, by simp [Tm.depth] at hk; omega⟩
    have := parse_enc t k r ho (by simp [Tm.depth] at hk; omega)
    simp only [Tm.enc, List.cons_append, parse]
    rw [if_neg (by decide), if_neg (by decide), if_pos trivial, this]
    rfl
  | .two c a b, k, r, ho, hk => by
    obtain ⟨k, rfl⟩ : ∃ m, k = m + 1 := ⟨k - 1, by simp [Tm.depth] at hk; omega⟩
    simp only [Tm.ok] at ho
    have h1 := parse_enc a k (b.enc ++ r) ho.2.1 (by simp [Tm.depth] at hk; omega)
    have h2 := parse_enc b k r ho.2.2 (by simp [Tm.depth] at hk; omega)
    have hc := isTwo_ne ho.1
    simp only [Tm.enc, List.cons_append, List.append_assoc, parse]
    rw [if_neg hc.1, if_neg hc.2.1, if_neg hc.2.2, if_pos ho.1, h1]
    simp only [Option.bind_some, h2]

/-- With rounds enough, what is read hangs on the text alone. -/
theorem parse_more : ∀ (k : Nat) (l : List UInt8) (n : Nat), l.length < k → l.length < n → parse k l = parse n l := by
  intro k l n hk hn
  cases h1 : parse k l with
  | some p =>
    obtain ⟨t, r⟩ := p
    obtain ⟨rfl, ho⟩ := parse_sound _ _ _ _ h1
    rw [parse_enc t n r ho (by have := t.depth_le; simp at hn; omega)]
  | none =>
    cases h2 : parse n l with
    | none => rfl
    | some p =>
      obtain ⟨t, r⟩ := p
      obtain ⟨rfl, ho⟩ := parse_sound _ _ _ _ h2
      rw [parse_enc t k r ho (by have := t.depth_le; simp at hk; omega)] at h1
      cases h1

/-- No term's text is the beginning of another one's. -/
theorem enc_prefix {t u : Tm} {r q : List UInt8} (ht : t.ok) (hu : u.ok) (h : t.enc ++ r = u.enc ++ q) : t = u ∧ r = q := by
  have h1 := parse_enc t (t.depth + u.depth) r ht (by omega)
  have h2 := parse_enc u (t.depth + u.depth) q hu (by omega)
  rw [h, h2] at h1
  simp only [Option.some.injEq, Prod.mk.injEq] at h1
  exact ⟨h1.1.symm, h1.2.symm⟩
theorem enc_inj {t u : Tm} (ht : t.ok) (hu : u.ok) (h : t.enc = u.enc) : t = u :=
  (enc_prefix (r := []) (q := []) ht hu (by simpa using h)).1

/-- The text of a term as a string. -/
def strOf (l : List UInt8) : ByteArray := ⟨l.toArray⟩
theorem strOf_data (l : List UInt8) : (strOf l).data.toList = l := by simp [strOf]
theorem strOf_size (l : List UInt8) : (strOf l).size = l.length := by simp [strOf, ByteArray.size]
theorem strOf_of (s : ByteArray) : strOf s.data.toList = s := by simp [strOf]
theorem strOf_inj {a b : List UInt8} (h : strOf a = strOf b) : a = b := by rw [← strOf_data a, h, strOf_data]
def Tm.str (t : Tm) : ByteArray := strOf t.enc

/-- The reading of a whole string: what term it is. -/
def read (s : ByteArray) : Option Tm :=
  match parse (s.size + 1) s.data.toList with
  | some (t, []) => some t
  | _ => none
theorem read_str (t : Tm) (ho : t.ok) : read t.str = some t := by
  unfold read Tm.str
  rw [strOf_data, strOf_size]
  have := parse_enc t (t.enc.length + 1) [] ho (by have := t.depth_le; omega)
  rw [List.append_nil] at this
  rw [this]
theorem read_some {s : ByteArray} {t : Tm} (h : read s = some t) : t.ok ∧ s = t.str := by
  unfold read at h
  cases h1 : parse (s.size + 1) s.data.toList with
  | none => rw [h1] at h; cases h
  | some p =>
    obtain ⟨u, r⟩ := p
    rw [h1] at h
    cases r with
    | cons x r => cases h
    | nil =>
      obtain rfl := Option.some.inj h
      obtain ⟨e, ho⟩ := parse_sound _ _ _ _ h1
      rw [List.append_nil] at e
      exact ⟨ho, by rw [Tm.str, ← e, strOf_of]⟩

/-- How many parts a kind has; -1: it is none. -/
def ar (c : UInt8) : Int := if c = 110 ∨ c = 99 then 0 else if c = 104 then 1 else if isTwo c = true then 2 else -1
/-- What 'Check' answers: 0, 3 (too big), 4 (no term's text). -/
def check (s : ByteArray) : Int :=
  if s.size > 2000 then 3
  else match read s with
    | none => 4
    | some t => if t.depth > 60 then 3 else 0
/-- What 'Subs' answers. -/
def subsOf (s : ByteArray) : List ByteArray × Int :=
  if check s = 0 then ((read s).elim [] fun t => t.subs.map Tm.str, 0) else ([], check s)
theorem check_ok {s : ByteArray} (h : check s = 0) : ∃ t : Tm, read s = some t ∧ t.ok ∧ s = t.str ∧ t.depth ≤ 60 ∧ t.enc.length ≤ 2000 := by
  unfold check at h
  split at h
  · omega
  · rename_i hs
    split at h
    · omega
    · rename_i t ht
      split at h
      · omega
      · obtain ⟨ho, rfl⟩ := read_some ht
        refine ⟨t, ht, ho, rfl, by omega, ?_⟩
        have := strOf_size t.enc
        simp only [Tm.str] at hs
        omega
theorem check_str {t : Tm} (ho : t.ok) (hd : t.depth ≤ 60) (hl : t.enc.length ≤ 2000) : check t.str = 0 := by
  unfold check
  rw [read_str t ho, if_neg (by simp only [Tm.str, strOf_size]; omega)]
  simp only
  rw [if_neg (by omega)]
theorem check_vals (s : ByteArray) : check s = 0 ∨ check s = 3 ∨ check s = 4 := by
  unfold check
  split
  · simp
  · split
    · simp
    · split <;> simp
/-- What 'Parts' answers. -/
def partsOf (s : ByteArray) : Int × List ByteArray × Int :=
  if check s = 0 then (read s).elim (0, [], 0) fun t => ((t.kind.toNat : Int), t.parts.map Tm.str, 0) else (0, [], check s)
theorem partsOf_bad {s : ByteArray} (h : ¬ check s = 0) : partsOf s = (0, [], check s) := by unfold partsOf; rw [if_neg h]
theorem partsOf_ok {s : ByteArray} {t : Tm} (h : check s = 0) (ht : read s = some t) : partsOf s = ((t.kind.toNat : Int), t.parts.map Tm.str, 0) := by unfold partsOf; rw [if_pos h, ht]; rfl
theorem subsOf_bad {s : ByteArray} (h : ¬ check s = 0) : subsOf s = ([], check s) := by unfold subsOf; rw [if_neg h]
theorem subsOf_ok {s : ByteArray} {t : Tm} (h : check s = 0) (ht : read s = some t) : subsOf s = (t.subs.map Tm.str, 0) := by unfold subsOf; rw [if_pos h, ht]; rfl
theorem enc_kind (t : Tm) : ∃ r, t.enc = t.kind :: r := by cases t <;> exact ⟨_, rfl⟩
/-- What 'Make' answers. -/
def makeOf (c : UInt8) (l : List ByteArray) : ByteArray × Int :=
  if ar c < 1 ∨ ar c ≠ (l.length : Int) then (⟨#[]⟩, 2)
  else match l.find? (fun s => decide (check s ≠ 0)) with
    | some s => (⟨#[]⟩, check s)
    | none => if check (strOf (c :: (l.map fun s => s.data.toList).flatten)) = 0 then (strOf (c :: (l.map fun s => s.data.toList).flatten), 0) else (⟨#[]⟩, 3)
end Go.Proofs.YtkmpfmhbkflgpaaGreatDoor.TT

/- The reader of terms (package term): skip and read, what they do to the reader's block and to the row of terms. -/
set_option linter.unusedVariables false
set_option linter.unusedSimpArgs false
namespace Go.Proofs.YtkmpfmhbkflgpaaGreatDoor
open Go.RowKit Go.Proofs.YtkmpfmhbkflgpaaGreatDoorW.PrintWords Go.Proofs.YtkmpfmhbkflgpaaGreatDoorW.PrintLast
namespace Rdr

/-- The reader: its block g, the text, the place, the terms so far in a row of its own. -/
def Rd (g : Nat) (s : ByteArray) (w : World) (p : Nat) (l : List ByteArray) : Prop :=
  ∃ v, w.heap[g]? = some (.cells #[.string s, .int .i64 p, v] 144 (0, 0)) ∧ w.ownsRow (g + 1) 26 1 v l.length (l.map Value.string)

def broken : List PanicEntry := [{ v := .iface 140 (.agg #[.int .i64 4]), recovered := false }]

theorem Rd.drewN {g : Nat} {s : ByteArray} {w : World} {p : Nat} {l : List ByteArray} (h : Rd g s w p l) (n : Nat) : Rd g s (w.drewN n) p l := h
theorem Rd.at_ {g : Nat} {s : ByteArray} {w : World} {p : Nat} {l : List ByteArray} (h : Rd g s w p l) (q : Nat) {x : Int} (hx : x = q) : Rd g s (w.setCell ⟨g, 1, none⟩ (.int .i64 x)) q l := by
  obtain ⟨v, hb, hown⟩ := h
  refine ⟨v, blk_put hb 1 _ (by rw [hx]; rfl), ownsRow_setCell_below hown (by show g < g + 1; omega) _⟩
theorem below_of_drewN {g : Nat} {w w' : World} (h : Below g w w') (n : Nat) : Below g w (w'.drewN n) := ⟨h.os, h.tape, h.output, h.size, h.block⟩

set_option maxHeartbeats 400000 in
theorem skip_ok (g : Nat) (s : ByteArray) (p n : Nat) (x : Int) (hx : x = n) (l : List ByteArray) (w : World) (hs : s.size ≤ 2000) (h : Rd g s w p l) (hp : p + n ≤ s.size) :
    Calls Tryz.prog 95 #[.pointer (some ⟨g, 0, none⟩), .int .i64 x] w fun e w' => e = .returned (.tuple #[]) ∧ Rd g s w' (p + n) l ∧ Below g w w' := by
  have HR := Lib.hid h
  obtain ⟨v, hb, hown⟩ := h
  have h2 : 0 ≤ x ∧ x ≤ 2000 ∧ p + x ≤ s.size := by omega
  have HX := Lib.hid hx; clear hx
  have h0 : w.cell? ⟨g, 0, none⟩ = some (.string s) := by simp [World.cell?, hb]
  have h1 : w.cell? ⟨g, 1, none⟩ = some (.int .i64 p) := by simp [World.cell?, hb]
  have f1 : w.frozen? ⟨g, 1, none⟩ = false := by simp [World.frozen?, hb]
  go_enter Tryz.func95, Tryz.ntmps95
  go_wp2
  go_quiet (fail)
  go_wp2
  go_end0
  exact ⟨rfl, (HR.out.drewN _).at_ _ (by have := HX.out; omega), (below_of_drewN (Below.refl _ _) _).setCell (p := ⟨g, 1, none⟩) (Nat.le_refl _) _⟩

set_option maxHeartbeats 400000 in
theorem skip_bad (g : Nat) (s : ByteArray) (p n : Nat) (x : Int) (hx : x = n) (l : List ByteArray) (w : World) (hs : s.size ≤ 2000) (h : Rd g s w p l) (hn : n ≤ 2000) (hp0 : p ≤ s.size) (hp : s.size < p + n) :
    Calls Tryz.prog 95 #[.pointer (some ⟨g, 0, none⟩), .int .i64 x] w fun e w' => e = .panicked broken ∧ Below g w w' := by
  obtain ⟨v, hb, hown⟩ := h
  have h2 : 0 ≤ x ∧ x ≤ 2000 ∧ s.size < p + x := by omega
  clear hx
  have h0 : w.cell? ⟨g, 0, none⟩ = some (.string s) := by simp [World.cell?, hb]
  have h1 : w.cell? ⟨g, 1, none⟩ = some (.int .i64 p) := by simp [World.cell?, hb]
  go_enter Tryz.func95, Tryz.ntmps95
  go_wp2
  go_quiet (fail)
  go_wp2
  exact ⟨rfl, rfl, below_of_drewN (Below.refl _ _) _⟩

open TT (ar)
theorem u8_eq (c : UInt8) (n : Nat) (hn : n < 256) : ((c.toNat : Int) = n) ↔ c = UInt8.ofNat n := by
  constructor
  · intro h
    have : c.toNat = n := by omega
    rw [← this, UInt8.ofNat_toNat]
  · rintro rfl
    simp only [UInt8.toNat_ofNat']
    omega
theorem ar_parts {c : UInt8} {p : Nat} (h : c = 104 ∨ TT.isTwo c = true) : (ar c = 1 ∧ p + 1 = p + 1 ∧ c = 104) ∨ (ar c = 2 ∧ p + 1 = p + 1 ∧ TT.isTwo c = true) := by
  rcases h with rfl | h
  · exact .inl ⟨rfl, rfl, rfl⟩
  · have := TT.isTwo_ne h
    refine .inr ⟨?_, rfl, h⟩
    unfold ar
    rw [if_neg (by simp [this.1, this.2.1]), if_neg this.2.2, if_pos h]
theorem ar_lo (c : UInt8) : -1 ≤ ar c ∧ ar c ≤ 2 := by unfold ar; split <;> (try split) <;> (try split) <;> omega

set_option maxHeartbeats 400000 in
theorem arity_any (c : UInt8) (w : World) : Calls Tryz.prog 38 #[.int .u8 c.toNat] w fun e w' => e = .returned (.int .i64 (ar c)) ∧ w' = w := by
  by_cases h1 : c = 110
  · subst h1
    go_enter Tryz.func38, Tryz.ntmps38
    go_wp2
    go_ret
    exact ⟨rfl, rfl⟩
  by_cases h2 : c = 99
  · subst h2
    go_enter Tryz.func38, Tryz.ntmps38
    go_wp2
    go_ret
    exact ⟨rfl, rfl⟩
  by_cases h3 : c = 104
  · subst h3
    go_enter Tryz.func38, Tryz.ntmps38
    go_wp2
    go_ret
    exact ⟨rfl, rfl⟩
  by_cases h4 : TT.isTwo c = true
  · unfold TT.isTwo at h4
    simp only [Bool.or_eq_true, beq_iff_eq] at h4
    rcases h4 with ((rfl | rfl) | rfl) | rfl
    all_goals
      go_enter Tryz.func38, Tryz.ntmps38
      go_wp2
      go_ret
      exact ⟨rfl, rfl⟩
  · have e : ar c = -1 := by unfold ar; rw [if_neg (by simp [h1, h2]), if_neg h3, if_neg h4]
    have g1 : ((c.toNat : Int) == 110) = false := by rw [beq_eq_false_iff_ne]; intro h; exact h1 ((u8_eq c 110 (by omega)).1 h)
    have g2 : ((c.toNat : Int) == 99) = false := by rw [beq_eq_false_iff_ne]; intro h; exact h2 ((u8_eq c 99 (by omega)).1 h)
    have g3 : ((c.toNat : Int) == 104) = false := by rw [beq_eq_false_iff_ne]; intro h; exact h3 ((u8_eq c 104 (by omega)).1 h)
    have g4 : ((c.toNat : Int) == 100) = false := by rw [beq_eq_false_iff_ne]; intro h; rw [(u8_eq c 100 (by omega)).1 h] at h4; exact h4 rfl
    have g5 : ((c.toNat : Int) == 109) = false := by rw [beq_eq_false_iff_ne]; intro h; rw [(u8_eq c 109 (by omega)).1 h] at h4; exact h4 rfl
    have g6 : ((c.toNat : Int) == 115) = false := by rw [beq_eq_false_iff_ne]; intro h; rw [(u8_eq c 115 (by omega)).1 h] at h4; exact h4 rfl
    have g7 : ((c.toNat : Int) == 112) = false := by rw [beq_eq_false_iff_ne]; intro h; rw [(u8_eq c 112 (by omega)).1 h] at h4; exact h4 rfl
    rw [e]
    clear e h1 h2 h3 h4
    go_enter Tryz.func38, Tryz.ntmps38
    go_wp2
    go_ret
    exact ⟨rfl, rfl⟩

theorem infoT : (Tryz.prog.info? 26).map (fun i => (i.zero, i.size, i.bytes)) = some (some (.string ⟨#[]⟩), 1, 16) := by kernel_rfl

/-- What a call of read comes to, where the text is read as o from place p on. -/
def Post (g : Nat) (s : ByteArray) (l : List ByteArray) (deep : Nat) (w : World) (o : Option (TT.Tm × List UInt8)) (e : Ending) (w' : World) : Prop :=
  Below g w w' ∧ match o with
    | none => e = .panicked broken
    | some (t, r) => e = .returned (.bool (decide (deep + t.depth ≤ 61))) ∧ Rd g s w' (s.size - r.length) (l ++ t.subs.map TT.Tm.str)

theorem parse_at_end {s : ByteArray} {p n : Nat} (h : s.size ≤ p) : TT.parse n (s.data.toList.drop p) = none := by
  rw [List.drop_eq_nil_of_le (by rw [Array.length_toList]; exact h)]
  cases n <;> rfl
theorem drop_at {s : ByteArray} {p : Nat} (h : p < s.size) : s.data.toList.drop p = s[p] :: s.data.toList.drop (p + 1) := by
  rw [List.drop_eq_getElem_cons (by rw [Array.length_toList]; exact h)]
  rfl
theorem nonce_ok {s : ByteArray} {p : Nat} (hd : s.data.toList.drop p = 110 :: s.data.toList.drop (p + 1)) (h : p + 3 ≤ s.size) (n : Nat) :
    ∃ t : TT.Tm, TT.parse (n + 1) (s.data.toList.drop p) = some (t, s.data.toList.drop (p + 3)) ∧ t.subs = [t] ∧ t.depth = 1 := by
  rw [hd, drop_at (show p + 1 < s.size by omega), drop_at (show p + 1 + 1 < s.size by omega)]
  exact ⟨_, rfl, rfl, rfl⟩
theorem drop_none {s : ByteArray} {p : Nat} (h : s.size ≤ p) : s.data.toList.drop p = [] := List.drop_eq_nil_of_le (by rw [Array.length_toList]; exact h)
theorem nonce_bad {s : ByteArray} {p : Nat} (hd : s.data.toList.drop p = 110 :: s.data.toList.drop (p + 1)) (h : s.size < p + 3) {n : Nat} : TT.parse (n + 1) (s.data.toList.drop p) = none := by
  rw [hd]
  by_cases h1 : p + 1 < s.size
  · rw [drop_at h1, drop_none (by omega)]; rfl
  · rw [drop_none (by omega)]; rfl
theorem const_bad1 {s : ByteArray} {p : Nat} (hd : s.data.toList.drop p = 99 :: s.data.toList.drop (p + 1)) (h : s.size < p + 2) {n : Nat} : TT.parse (n + 1) (s.data.toList.drop p) = none := by
  rw [hd, drop_none (by omega)]; rfl
theorem const_eq {s : ByteArray} {p : Nat} (hd : s.data.toList.drop p = 99 :: s.data.toList.drop (p + 1)) (h : p + 1 < s.size) (n : Nat) : TT.parse (n + 1) (s.data.toList.drop p) =
    if s[p + 1].toNat ≤ 40 ∧ s[p + 1].toNat ≤ (s.data.toList.drop (p + 2)).length then some (.const ((s.data.toList.drop (p + 2)).take s[p + 1].toNat), (s.data.toList.drop (p + 2)).drop s[p + 1].toNat) else none := by
  rw [hd, drop_at h]; rfl
theorem const_ok {s : ByteArray} {p : Nat} (hd : s.data.toList.drop p = 99 :: s.data.toList.drop (p + 1)) (h : p + 1 < s.size) (h1 : s[p + 1].toNat ≤ 40) (h2 : p + 2 + s[p + 1].toNat ≤ s.size) (n : Nat) :
    ∃ t : TT.Tm, TT.parse (n + 1) (s.data.toList.drop p) = some (t, s.data.toList.drop (p + 2 + s[p + 1].toNat)) ∧ t.subs = [t] ∧ t.depth = 1 := by
  have hl : s.data.toList.length = s.size := by rw [Array.length_toList]; rfl
  rw [const_eq hd h, if_pos ⟨h1, by rw [List.length_drop, hl]; omega⟩, List.drop_drop]
  exact ⟨_, rfl, rfl, rfl⟩
theorem const_bad2 {s : ByteArray} {p : Nat} (hd : s.data.toList.drop p = 99 :: s.data.toList.drop (p + 1)) (h : p + 1 < s.size) (h1 : 40 < s[p + 1].toNat ∨ s.size < p + 2 + s[p + 1].toNat) {n : Nat} :
    TT.parse (n + 1) (s.data.toList.drop p) = none := by
  have hl : s.data.toList.length = s.size := by rw [Array.length_toList]; rfl
  rw [const_eq hd h, if_neg (by rw [List.length_drop, hl]; omega)]
theorem other_bad {s : ByteArray} {p : Nat} {c : UInt8} (hd : s.data.toList.drop p = c :: s.data.toList.drop (p + 1)) (h : ar c = -1) {n : Nat} : TT.parse (n + 1) (s.data.toList.drop p) = none := by
  unfold ar at h
  rw [hd]
  by_cases h1 : c = 110 ∨ c = 99
  · rw [if_pos h1] at h; omega
  · rw [if_neg h1] at h
    by_cases h2 : c = 104
    · rw [if_pos h2] at h; omega
    · rw [if_neg h2] at h
      by_cases h3 : TT.isTwo c = true
      · rw [if_pos h3] at h; omega
      · simp only [not_or] at h1
        simp only [TT.parse]
        rw [if_neg h1.1, if_neg h1.2, if_neg h2, if_neg h3]
/-- What stands behind the switch: the kind is c, the reader stands behind the bytes of the term's own. -/
def Mid (g : Nat) (s : ByteArray) (p : Nat) (l : List ByteArray) (w : World) (c : UInt8) (n : Nat) (wc : World) (q : Nat) (m : Int) : Prop :=
  Rd g s wc q (l ++ [⟨#[]⟩]) ∧ Below g w wc ∧ q ≤ s.size ∧ p + 1 ≤ q ∧
    (m = 0 ∧ (∃ t : TT.Tm, TT.parse (n + 1) (s.data.toList.drop p) = some (t, s.data.toList.drop q) ∧ t.subs = [t] ∧ t.depth = 1) ∨ m = 1 ∧ q = p + 1 ∧ c = 104 ∨ m = 2 ∧ q = p + 1 ∧ TT.isTwo c = true)
/-- What stands behind the loop over the parts. -/
def Fin (g : Nat) (s : ByteArray) (p : Nat) (l : List ByteArray) (w : World) (t : TT.Tm) (n : Nat) (wc : World) (q : Nat) : Prop :=
  Rd g s wc q (l ++ [⟨#[]⟩] ++ t.subs.tail.map TT.Tm.str) ∧ Below g w wc ∧ q ≤ s.size ∧ p ≤ q ∧ TT.parse (n + 1) (s.data.toList.drop p) = some (t, s.data.toList.drop q)
theorem fits_one {deep d : Nat} (h : deep + d = deep + 1) : Value.bool (decide ((deep : Int) ≤ 60)) = Value.bool (decide (deep + d ≤ 61)) := by
  congr 1
  rw [decide_eq_decide]
  omega
theorem fits_and0 {deep d : Nat} (h : decide (deep + 1 + d ≤ 61) = false) : Value.bool false = Value.bool (decide (deep + (d + 1) ≤ 61)) := by
  congr 1
  rw [decide_eq_false_iff_not] at h
  exact (decide_eq_false (by omega)).symm
theorem fits_and1 {deep d : Nat} (h : decide (deep + 1 + d ≤ 61) = true) : Value.bool (decide ((deep : Int) ≤ 60)) = Value.bool (decide (deep + (d + 1) ≤ 61)) := by
  congr 1
  rw [decide_eq_true_eq] at h
  rw [decide_eq_decide]
  omega
theorem hash_bad {s : ByteArray} {p n : Nat} (hd : s.data.toList.drop p = 104 :: s.data.toList.drop (p + 1)) (h : TT.parse n (s.data.toList.drop (p + 1)) = none) : TT.parse (n + 1) (s.data.toList.drop p) = none := by
  rw [hd]
  simp only [TT.parse]
  rw [if_neg (by decide), if_neg (by decide), if_pos trivial, h]
  rfl
/-- What is left behind a reading: the text's end from there on. -/
theorem parse_rest {s : ByteArray} {p n : Nat} {t : TT.Tm} {r : List UInt8} (hp : p ≤ s.size) (h : TT.parse n (s.data.toList.drop p) = some (t, r)) :
    r = s.data.toList.drop (s.size - r.length) ∧ r.length ≤ s.size ∧ s.size - r.length = p + t.enc.length := by
  obtain ⟨e, ho⟩ := TT.parse_sound _ _ _ _ h
  have hl : s.data.toList.length = s.size := by rw [Array.length_toList]; rfl
  have hl2 : s.size - p = t.enc.length + r.length := by
    have := congrArg List.length e
    rw [List.length_drop, List.length_append, hl] at this
    exact this
  refine ⟨?_, by omega, by omega⟩
  have h1 : s.size - r.length = p + t.enc.length := by omega
  rw [h1, ← List.drop_drop, e, List.drop_left]
theorem hash_ok {s : ByteArray} {p n : Nat} {t : TT.Tm} {r : List UInt8} (hd : s.data.toList.drop p = 104 :: s.data.toList.drop (p + 1)) (hp : p + 1 ≤ s.size) (h : TT.parse n (s.data.toList.drop (p + 1)) = some (t, r)) :
    TT.parse (n + 1) (s.data.toList.drop p) = some (.hash t, s.data.toList.drop (s.size - r.length)) := by
  rw [← (parse_rest hp h).1, hd]
  simp only [TT.parse]
  rw [if_neg (by decide), if_neg (by decide), if_pos trivial, h]
  rfl
theorem fin_hash {g : Nat} {s : ByteArray} {p n : Nat} {l : List ByteArray} {w w3 : World} {t : TT.Tm} {r : List UInt8} (hd : s.data.toList.drop p = 104 :: s.data.toList.drop (p + 1)) (hp : p + 1 ≤ s.size)
    (h : TT.parse n (s.data.toList.drop (p + 1)) = some (t, r)) (hR : Rd g s w3 (s.size - r.length) (l ++ [⟨#[]⟩] ++ t.subs.map TT.Tm.str)) (hb : Below g w w3) : Fin g s p l w (.hash t) n w3 (s.size - r.length) :=
  ⟨hR, hb, by omega, by have := (parse_rest hp h).2.2; omega, hash_ok hd hp h⟩
theorem two_bad1 {s : ByteArray} {p n : Nat} {c : UInt8} (hc : TT.isTwo c = true) (hd : s.data.toList.drop p = c :: s.data.toList.drop (p + 1)) (h : TT.parse n (s.data.toList.drop (p + 1)) = none) : TT.parse (n + 1) (s.data.toList.drop p) = none := by
  obtain ⟨h1, h2, h3⟩ := TT.isTwo_ne hc
  rw [hd]
  simp only [TT.parse]
  rw [if_neg h1, if_neg h2, if_neg h3, if_pos hc, h]
  rfl
theorem two_bad2 {s : ByteArray} {p n : Nat} {c : UInt8} {t : TT.Tm} {r : List UInt8} (hc : TT.isTwo c = true) (hd : s.data.toList.drop p = c :: s.data.toList.drop (p + 1)) (h : TT.parse n (s.data.toList.drop (p + 1)) = some (t, r)) (h' : TT.parse n r = none) : TT.parse (n + 1) (s.data.toList.drop p) = none := by
  obtain ⟨h1, h2, h3⟩ := TT.isTwo_ne hc
  rw [hd]
  simp only [TT.parse]
  rw [if_neg h1, if_neg h2, if_neg h3, if_pos hc, h]
  simp only [Option.bind_some, h']
  rfl
theorem parse_place {s : ByteArray} {p n : Nat} {t : TT.Tm} {r : List UInt8} (hp : p ≤ s.size) (h : TT.parse n (s.data.toList.drop p) = some (t, r)) :
    ∃ q, s.size - r.length = q ∧ r = s.data.toList.drop q ∧ q ≤ s.size ∧ q = p + t.enc.length ∧ p < q := by
  have := parse_rest hp h
  have h1 := t.enc_pos
  exact ⟨_, rfl, this.1, by omega, this.2.2, by omega⟩
theorem len_after {p q : Nat} {l : List ByteArray} {t : TT.Tm} (hl : l.length ≤ p) (hq : q = p + 1 + t.enc.length) : (l ++ [(⟨#[]⟩ : ByteArray)] ++ t.subs.map TT.Tm.str).length ≤ q := by
  have := t.subs_len
  simp
  omega
theorem fin_two {g : Nat} {s : ByteArray} {p n q1 : Nat} {c : UInt8} {l : List ByteArray} {w w4 : World} {t u : TT.Tm} {r r2 : List UInt8} (hc : TT.isTwo c = true) (hd : s.data.toList.drop p = c :: s.data.toList.drop (p + 1)) (hp : p + 1 ≤ s.size)
    (h : TT.parse n (s.data.toList.drop (p + 1)) = some (t, r)) (hr : r = s.data.toList.drop q1) (hq : q1 ≤ s.size) (hpq : p + 1 < q1) (h' : TT.parse n (s.data.toList.drop q1) = some (u, r2))
    (hR : Rd g s w4 (s.size - r2.length) (l ++ [⟨#[]⟩] ++ t.subs.map TT.Tm.str ++ u.subs.map TT.Tm.str)) (hb : Below g w w4) : Fin g s p l w (.two c t u) n w4 (s.size - r2.length) := by
  refine ⟨by simpa [TT.Tm.subs] using hR, hb, by omega, by have := (parse_rest hq h').2.2; omega, ?_⟩
  obtain ⟨h1, h2, h3⟩ := TT.isTwo_ne hc
  rw [← (parse_rest hq h').1, hd]
  simp only [TT.parse]
  rw [if_neg h1, if_neg h2, if_neg h3, if_pos hc, h]
  simp only [Option.bind_some, hr, h']
theorem fits_two0 {deep d d2 : Nat} (h : decide (deep + 1 + d ≤ 61) = false) : Value.bool false = Value.bool (decide (deep + (max d d2 + 1) ≤ 61)) := by
  congr 1
  rw [decide_eq_false_iff_not] at h
  exact (decide_eq_false (by omega)).symm
theorem fits_two1 {deep d d2 : Nat} (h : decide (deep + 1 + d2 ≤ 61) = false) : Value.bool false = Value.bool (decide (deep + (max d d2 + 1) ≤ 61)) := by
  congr 1
  rw [decide_eq_false_iff_not] at h
  exact (decide_eq_false (by omega)).symm
theorem fits_two {deep d d2 : Nat} (h : decide (deep + 1 + d ≤ 61) = true) (h2 : decide (deep + 1 + d2 ≤ 61) = true) : Value.bool (decide ((deep : Int) ≤ 60)) = Value.bool (decide (deep + (max d d2 + 1) ≤ 61)) := by
  congr 1
  rw [decide_eq_true_eq] at h h2
  rw [decide_eq_decide]
  omega
theorem own_some {w : World} {base n e : Nat} {v : Value} {xs : List Value} (h : w.ownsRow base e 1 v n xs) (hn : 0 < n) : ∃ g c, v = .slice (some ⟨g, 0, none⟩) n c := by
  rcases h.2 with ⟨rfl, h0⟩ | ⟨g, cap, cur, rfl, _⟩
  · omega
  · exact ⟨g, cap, rfl⟩
/-- What stands behind 'r.seen = append(r.seen, "")'. -/
theorem Rd.pushed {g : Nat} {s : ByteArray} {w w1 : World} {p : Nat} {l : List ByteArray} {v v' : Value} (hb : w.heap[g]? = some (.cells #[.string s, .int .i64 p, v] 144 (0, 0))) (hown : w.ownsRow (g + 1) 26 1 v l.length (l.map Value.string)) (o : Obj) (hgt : g < w.heap.size) (m : Nat)
    (hown' : w1.ownsRow (g + 1) 26 1 v' (l.length + 1) (l.map Value.string ++ [.string ⟨#[]⟩])) (hgrow : ((w.drewN m).alloc o).grownBy w1 v.ownBlock) :
    Rd g s (w1.setCell ⟨g, 2, none⟩ v') p (l ++ [⟨#[]⟩]) ∧ Below g w (w1.setCell ⟨g, 2, none⟩ v') := by
  have hne : some g ≠ v.ownBlock := fun h => by have := own_base hown g h.symm; omega
  have hb1 : w1.heap[g]? = some (.cells #[.string s, .int .i64 p, v] 144 (0, 0)) := blk_grown (blk_alloc (blk_drewN hb m) o) hgrow hne
  refine ⟨⟨v', blk_put hb1 2 _ rfl, ?_⟩, ?_⟩
  · have := ownsRow_setCell_below hown' (a := ⟨g, 2, none⟩) (by show g < g + 1; omega) v'
    simpa using this
  · exact (((below_of_drewN (Below.refl g w) m).alloc (Nat.le_of_lt hgt) o).grown hgrow (by simp [World.drewN]; omega) (fun k hk => by have := own_base hown k hk; omega)).setCell (p := ⟨g, 2, none⟩) (Nat.le_refl _) _

theorem cell_new (w : World) (u : Value) (T : Nat) : (w.alloc (.cells #[u] T (0, 0))).cell? ((⟨w.heap.size, 0, none⟩ : Addr).add 0) = some u := blk_cell (blk_new w _) 0
theorem extract_str {s : ByteArray} {p q n : Nat} {t : TT.Tm} (hps : p ≤ s.size) (hpq : p ≤ q) (hq : q ≤ s.size) (h : TT.parse n (s.data.toList.drop p) = some (t, s.data.toList.drop q)) : s.extract p q = t.str := by
  obtain ⟨e, ho⟩ := TT.parse_sound _ _ _ _ h
  have hl : s.data.toList.length = s.size := by rw [Array.length_toList]; rfl
  have h1 := (parse_rest hps h).2.2
  rw [List.length_drop, hl] at h1
  have h2 : q - p = t.enc.length := by omega
  have h3 : (s.extract p q).data.toList = t.enc := by
    rw [ByteArray.data_extract, Array.toList_extract, List.extract_eq_take_drop, e, h2, List.take_left]
  rw [TT.Tm.str, ← h3, TT.strOf_of]
theorem fin_end {g : Nat} {s : ByteArray} {p q n deep gr cr : Nat} {l L : List ByteArray} {w wc : World} {t : TT.Tm} (hps : p ≤ s.size) (hpq : p ≤ q) (hq : q ≤ s.size) (hM : TT.parse (n + 1) (s.data.toList.drop p) = some (t, s.data.toList.drop q)) (hB : Below g w wc)
    (hb : wc.heap[g]? = some (.cells #[.string s, .int .i64 q, .slice (some ⟨gr, 0, none⟩) L.length cr] 144 (0, 0))) (hown : wc.ownsRow (g + 1) 26 1 (.slice (some ⟨gr, 0, none⟩) L.length cr) L.length (L.map Value.string))
    (hL : l ++ [(⟨#[]⟩ : ByteArray)] ++ t.subs.tail.map TT.Tm.str = L) :
    Post g s l deep w (TT.parse (n + 1) (s.data.toList.drop p)) (.returned (.bool (decide (deep + t.depth ≤ 61)))) (wc.setCell ⟨gr, l.length, none⟩ (.string (s.extract p q))).drew := by
  have hge : g + 1 ≤ gr := own_base hown gr rfl
  have hl : s.data.toList.length = s.size := by rw [Array.length_toList]; rfl
  have hst := hown.stored l.length (.string (s.extract p q))
  refine ⟨(hB.setCell (p := ⟨gr, l.length, none⟩) (by show g ≤ gr; omega) _).drew, ?_⟩
  rw [hM]
  refine ⟨rfl, ?_⟩
  have e1 : s.size - (s.data.toList.drop q).length = q := by rw [List.length_drop, hl]; omega
  have e2 : L.set l.length (s.extract p q) = l ++ t.subs.map TT.Tm.str := by
    rw [extract_str hps hpq hq hM, ← hL]
    obtain ⟨r, hr, _⟩ := t.subs_eq
    rw [hr]
    simp
  have e3 : (l ++ t.subs.map TT.Tm.str).length = L.length := by rw [← e2, List.length_set]
  rw [e1]
  refine ⟨.slice (some ⟨gr, 0, none⟩) L.length cr, ?_, ?_⟩
  · exact blk_drew (blk_far hb (by show g ≠ gr; omega) _)
  · rw [e3, ← e2, List.map_set]
    exact hst.1
theorem Rd.lt {g : Nat} {s : ByteArray} {w : World} {p : Nat} {l : List ByteArray} (h : Rd g s w p l) : g < w.heap.size := by
  obtain ⟨v, hb, _⟩ := h
  exact blk_lt hb

set_option maxHeartbeats 1600000 in
set_option maxRecDepth 100000 in
theorem read_any (n : Nat) : ∀ (g : Nat) (s : ByteArray) (p : Nat) (deep : Nat) (l : List ByteArray) (w : World), s.size ≤ 2000 → Rd g s w p l → p ≤ s.size → l.length ≤ p → deep + (s.size - p) ≤ 3000 → s.size - p < n →
    Calls Tryz.prog 79 #[.pointer (some ⟨g, 0, none⟩), .int .i64 deep] w (Post g s l deep w (TT.parse n (s.data.toList.drop p))) := by
  induction n with
  | zero => intro g s p deep l w _ _ _ _ _ h; omega
  | succ n ih =>
  intro g s p deep l w hs h hps hlp hdeep hn
  have IH := Lib.hid ih; clear ih
  have hgt := h.lt
  obtain ⟨v, hb, hown⟩ := h
  obtain ⟨A0, c0, rfl⟩ := own_slice hown
  have h0 : w.cell? ⟨g, 0, none⟩ = some (.string s) := by simp [World.cell?, hb]
  have h1 : w.cell? ⟨g, 1, none⟩ = some (.int .i64 p) := by simp [World.cell?, hb]
  have h2 : w.cell? ⟨g, 2, none⟩ = some (.slice A0 l.length c0) := by simp [World.cell?, hb]
  obtain ⟨i, hi, hz0, hz1, hz2⟩ := info_parts infoT
  have HOWN := Lib.hid hown; clear hown
  have HB := Lib.hid hb; clear hb
  have HI := Lib.hid (And.intro hi (And.intro hz0 (And.intro hz1 hz2))); clear hi hz0 hz1 hz2
  go_enter Tryz.func79, Tryz.ntmps79
  go_wp2
  go_quiet (fail)
  go_wp2_with (at_builtin; refine wpList_append_own _ rfl (.tmp 23) (.tmp 24) 31 rfl (g + 1) 26 i (.string ⟨#[]⟩) 1 16 Tryz.underlying31 HI.out.1 HI.out.2.1 HI.out.2.2.1 HI.out.2.2.2 rfl (by decide) (.slice A0 l.length c0) l.length _ rfl ((show (w.drewN nq).ownsRow _ _ _ _ _ _ from HOWN.out).alloc _) ⟨w.heap.size, 0, none⟩ 1 1 [.string ⟨#[]⟩] rfl rfl ?c1 ?c2 (by unfold maxLen; omega) (by omega) (by simp [World.drewN]; omega) ?_)
  case c1 =>
    intro j u hj
    match j, hj with
    | 0, hj => simp at hj; subst hj; exact cell_new (w.drewN nq) _ _
  case c2 => intro u hu; simp at hu; subst hu; rfl
  intro v' w1 hown' hgrow _
  obtain ⟨A1, c1, rfl⟩ := own_slice hown'
  have hb1 : w1.heap[g]? = some (.cells #[.string s, .int .i64 p, .slice A0 l.length c0] 144 (0, 0)) := blk_grown (blk_alloc (blk_drewN HB.out nq) _) hgrow (fun h => by have := own_base HOWN.out g h.symm; omega)
  have h3 : w1.cell? ⟨g, 2, none⟩ = some (.slice A0 l.length c0) := by simp [World.cell?, hb1]
  have f3 : w1.frozen? ⟨g, 2, none⟩ = false := by simp [World.frozen?, hb1]
  have HP := Lib.hid (Rd.pushed HB.out HOWN.out _ hgt nq hown' hgrow)
  clear hown' hgrow hb1
  go_wp2_with fail
  by_cases hp : p < s.size
  · refine (skip_ok g s p 1 1 rfl _ _ hs HP.out.1 (by omega)).mono ?_
    rintro e w2 ⟨rfl, hR2, hb2⟩
    have HW2 := Lib.hid (HP.out.2.trans hb2)
    clear hb2 HP h3 f3 h0 h1 h2 HB HOWN HI
    have HR2 := Lib.hid hR2
    obtain ⟨v2, hblk2, hown2⟩ := hR2
    have h0 : w2.cell? ⟨g, 0, none⟩ = some (.string s) := by simp [World.cell?, hblk2]
    clear hblk2 hown2
    go_wp2_with fail
    have hdr := drop_at hp
    obtain ⟨c, hc⟩ : ∃ c, c = s[p] := ⟨_, rfl⟩
    rw [← hc] at hdr ⊢
    have HC := Lib.hid hc; clear hc
    have HDR := Lib.hid hdr; clear hdr
    refine (arity_any c w2).mono ?_
    rintro e w' ⟨rfl, rfl⟩
    have har := ar_lo c
    go_upto_block 0 with (fail)
    go_cut [8] (fun v8 wc => ∃ (q : Nat) (m : Int), v8 = .int .i64 m ∧ Mid g s p l w c n wc q m)
    case first =>
      by_cases k1 : c = 110
      · subst k1
        have ha : ar 110 = 0 := rfl
        rw [ha]
        clear ha
        go_wp2_with fail
        by_cases hq : p + 3 ≤ s.size
        · refine (skip_ok g s (p + 1) 2 2 rfl _ _ hs HR2.out (by omega)).mono ?_
          rintro e w3 ⟨rfl, hR3, hb3⟩
          have HM := Lib.hid (show Mid g s p l w 110 n w3 (p + 3) 0 from ⟨hR3, HW2.out.trans hb3, hq, by omega, .inl ⟨rfl, nonce_ok HDR.out hq n⟩⟩)
          clear hR3 hb3
          go_wp2
          go_meet
          case rel => exact ⟨p + 3, 0, rfl, HM.out⟩
        · refine (skip_bad g s (p + 1) 2 2 rfl _ _ hs HR2.out (by omega) (by omega) (by omega)).mono ?_
          rintro e w3 ⟨rfl, hb3⟩
          exact ⟨rfl, HW2.out.trans hb3, by rw [nonce_bad HDR.out (by omega)]⟩
      · by_cases k2 : c = 99
        · subst k2
          have ha : ar 99 = 0 := rfl
          rw [ha]
          clear ha
          go_wp2_with fail
          by_cases hq : p + 2 ≤ s.size
          · refine (skip_ok g s (p + 1) 1 1 rfl _ _ hs HR2.out (by omega)).mono ?_
            rintro e w3 ⟨rfl, hR3, hb3⟩
            have HW3 := Lib.hid (HW2.out.trans hb3)
            clear hb3 h0
            have HR3 := Lib.hid hR3
            obtain ⟨v3, hblk3, hown3⟩ := hR3
            have h0 : w3.cell? ⟨g, 0, none⟩ = some (.string s) := by simp [World.cell?, hblk3]
            clear hblk3 hown3
            have hp1 : p + 1 < s.size := by omega
            go_wp2_with fail
            · exact ⟨rfl, HW3.out, by rw [const_bad2 HDR.out hp1 (.inl (by omega))]; rfl⟩
            · by_cases hq2 : p + 2 + s[p + 1].toNat ≤ s.size
              · refine (skip_ok g s (p + 1 + 1) s[p + 1].toNat _ rfl _ _ hs HR3.out (by omega)).mono ?_
                rintro e w4 ⟨rfl, hR4, hb4⟩
                have HM := Lib.hid (show Mid g s p l w 99 n w4 (p + 2 + s[p + 1].toNat) 0 from ⟨by rw [show p + 2 + s[p + 1].toNat = p + 1 + 1 + s[p + 1].toNat from rfl]; exact hR4, HW3.out.trans hb4, hq2, by omega, .inl ⟨rfl, const_ok HDR.out hp1 (by omega) hq2 n⟩⟩)
                clear hR4 hb4
                go_wp2
                go_meet
                case rel => exact ⟨_, _, rfl, HM.out⟩
              · refine (skip_bad g s (p + 1 + 1) s[p + 1].toNat _ rfl _ _ hs HR3.out (by omega) (by omega) (by omega)).mono ?_
                rintro e w4 ⟨rfl, hb4⟩
                exact ⟨rfl, HW3.out.trans hb4, by rw [const_bad2 HDR.out hp1 (.inr (by omega))]⟩
          · refine (skip_bad g s (p + 1) 1 1 rfl _ _ hs HR2.out (by omega) (by omega) (by omega)).mono ?_
            rintro e w3 ⟨rfl, hb3⟩
            exact ⟨rfl, HW2.out.trans hb3, by rw [const_bad1 HDR.out (by omega)]⟩
        · have g1 : ((c.toNat : Int) == 110) = false := by rw [beq_eq_false_iff_ne]; intro h; exact k1 ((u8_eq c 110 (by omega)).1 h)
          have g2 : ((c.toNat : Int) == 99) = false := by rw [beq_eq_false_iff_ne]; intro h; exact k2 ((u8_eq c 99 (by omega)).1 h)
          by_cases k3 : c = 104 ∨ TT.isTwo c = true
          · have ha : 0 ≤ ar c := by
              rcases k3 with rfl | h
              · decide
              · have := TT.isTwo_ne h
                unfold ar
                rw [if_neg (by simp [k1, k2]), if_neg this.2.2, if_pos h]
                omega
            have HM := Lib.hid (show Mid g s p l w c n w' (p + 1) (ar c) from ⟨HR2.out, HW2.out, hp, by omega, .inr (ar_parts k3)⟩)
            clear k1 k2 k3
            go_wp2
            go_meet
            case rel => exact ⟨_, _, rfl, HM.out⟩
          · have ha : ar c = -1 := by
              simp only [not_or] at k3
              unfold ar
              rw [if_neg (by simp [k1, k2]), if_neg k3.1, if_neg k3.2]
            have HA := Lib.hid ha
            rw [ha]
            clear ha har k1 k2 k3
            go_wp2
            exact ⟨rfl, HW2.out, by rw [other_bad HDR.out HA.out]; rfl⟩
    case rest =>
      obtain ⟨q, m, rfl, hM⟩ := hcut
      have HM := Lib.hid hM; clear hM HW2 HR2 h0
      go_upto_block 1 with (fail)
      go_cut [9] (fun v9 wc => ∃ (t : TT.Tm) (q : Nat), v9 = .bool (decide (deep + t.depth ≤ 61)) ∧ Fin g s p l w t n wc q)
      case first =>
        obtain ⟨hR, hB, hq, hpq, hM⟩ := HM.out
        have HR := Lib.hid hR; have HBW := Lib.hid hB; clear hR hB HM
        rcases hM with ⟨rfl, t, ht, ht1, ht2⟩ | ⟨rfl, rfl, rfl⟩ | ⟨rfl, rfl, hc⟩
        · have HF := Lib.hid (show Fin g s p l w t n wc q from ⟨by rw [ht1]; simpa using HR.out, HBW.out, hq, by omega, ht⟩)
          have HD := Lib.hid (show deep + t.depth = deep + 1 by rw [ht2])
          clear ht ht1 ht2
          go_wp2_with fail
          refine wp_loop_rounds 1 ?_
          rw [rounds_succ]
          go_wp2_with fail
          go_meet
          case rel => exact ⟨t, q, fits_one HD.out, HF.out⟩
        · go_wp2_with fail
          refine wp_loop_rounds 2 ?_
          rw [rounds_succ]
          go_wp2_with fail
          rw [show ((deep : Int) + 1) = ((deep + 1 : Nat) : Int) from by omega]
          refine (IH.out g s (p + 1) (deep + 1) _ _ hs HR.out hq (by simp; omega) (by omega) (by omega)).mono ?_
          rintro e w3 ⟨hb3, hm3⟩
          cases hpa : TT.parse n (s.data.toList.drop (p + 1)) with
          | none =>
            rw [hpa] at hm3
            obtain rfl := hm3
            exact ⟨rfl, HBW.out.trans hb3, by rw [hash_bad HDR.out hpa]⟩
          | some tr =>
            obtain ⟨t1, r1⟩ := tr
            rw [hpa] at hm3
            obtain ⟨rfl, hR3⟩ := hm3
            have HF := Lib.hid (fin_hash HDR.out hq hpa hR3 (HBW.out.trans hb3))
            clear hpa hR3 hb3
            cases hb : decide (deep + 1 + t1.depth ≤ 61)
            all_goals
              have HD := Lib.hid hb
              clear hb
              go_wp2_with fail
              rw [rounds_succ]
              go_wp2_with fail
              go_meet
              case rel => exact ⟨_, _, by first | exact fits_and1 HD.out | exact fits_and0 HD.out, HF.out⟩
        · go_wp2_with fail
          refine wp_loop_rounds 3 ?_
          rw [rounds_succ]
          go_wp2_with fail
          rw [show ((deep : Int) + 1) = ((deep + 1 : Nat) : Int) from by omega]
          refine (IH.out g s (p + 1) (deep + 1) _ _ hs HR.out hq (by simp; omega) (by omega) (by omega)).mono ?_
          rintro e w3 ⟨hb3, hm3⟩
          cases hpa : TT.parse n (s.data.toList.drop (p + 1)) with
          | none =>
            rw [hpa] at hm3
            obtain rfl := hm3
            exact ⟨rfl, HBW.out.trans hb3, by rw [two_bad1 hc HDR.out hpa]⟩
          | some tr =>
            obtain ⟨t1, r1⟩ := tr
            rw [hpa] at hm3
            obtain ⟨rfl, hR3⟩ := hm3
            obtain ⟨q1, hq1, hr1, hqs, hql, hqd⟩ := parse_place hq hpa
            rw [hq1] at hR3
            have HPA := Lib.hid hpa; have HR3 := Lib.hid hR3; have HB3 := Lib.hid (HBW.out.trans hb3); have HR1 := Lib.hid hr1; have HQ1 := Lib.hid hq1
            have hlq := len_after hlp hql
            clear hpa hR3 hb3 hr1 hq1 hql
            cases hb : decide (deep + 1 + t1.depth ≤ 61)
            all_goals
              have HD := Lib.hid hb
              clear hb
              go_wp2_with fail
              rw [rounds_succ]
              go_wp2_with fail
              rw [show ((deep : Int) + 1) = ((deep + 1 : Nat) : Int) from by omega]
              refine (IH.out g s q1 (deep + 1) _ _ hs HR3.out hqs hlq (by omega) (by omega)).mono ?_
              rintro e w4 ⟨hb4, hm4⟩
              cases hpb : TT.parse n (s.data.toList.drop q1) with
              | none =>
                rw [hpb] at hm4
                obtain rfl := hm4
                exact ⟨rfl, HB3.out.trans hb4, by rw [two_bad2 hc HDR.out HPA.out (by rw [HR1.out]; exact hpb)]⟩
              | some tr2 =>
                obtain ⟨t2, r2⟩ := tr2
                rw [hpb] at hm4
                obtain ⟨rfl, hR4⟩ := hm4
                have HF := Lib.hid (fin_two hc HDR.out hq HPA.out HR1.out hqs hqd hpb hR4 (HB3.out.trans hb4))
                clear hpb hR4 hb4
                cases hb : decide (deep + 1 + t2.depth ≤ 61)
                all_goals
                  have HD2 := Lib.hid hb
                  clear hb
                  go_wp2_with fail
                  rw [rounds_succ]
                  go_wp2_with fail
                  go_meet
                  case rel => exact ⟨_, _, by first | exact fits_two HD.out HD2.out | exact fits_two0 HD.out | exact fits_two1 HD2.out, HF.out⟩
      case rest =>
        obtain ⟨t, q, rfl, hF⟩ := hcut
        obtain ⟨hR, hB, hq, hpq, hM⟩ := hF
        have HR := Lib.hid hR; have HBW := Lib.hid hB; have HPM := Lib.hid hM; clear HM hB hM
        obtain ⟨v, hblk, hown⟩ := hR
        obtain ⟨gr, cr, hvr⟩ := own_some hown (by simp; omega)
        subst hvr
        have h0 : wc.cell? ⟨g, 0, none⟩ = some (.string s) := by simp [World.cell?, hblk]
        have h1 : wc.cell? ⟨g, 1, none⟩ = some (.int .i64 q) := by simp [World.cell?, hblk]
        have h2 : wc.cell? ⟨g, 2, none⟩ = some (.slice (some ⟨gr, 0, none⟩) (l ++ [(⟨#[]⟩ : ByteArray)] ++ t.subs.tail.map TT.Tm.str).length cr) := by simp [World.cell?, hblk]
        have hcl : wc.cell? ⟨gr, l.length, none⟩ = some (.string ⟨#[]⟩) := by
          rw [hown.cellAt l.length (by simp)]
          simp
        have hfz : wc.frozen? ⟨gr, l.length, none⟩ = false := hown.frozenAt _
        have hlen : l.length < (l ++ [(⟨#[]⟩ : ByteArray)] ++ t.subs.tail.map TT.Tm.str).length := by simp
        generalize hL : l ++ [(⟨#[]⟩ : ByteArray)] ++ t.subs.tail.map TT.Tm.str = L at *
        have HL := Lib.hid hL
        have HBL := Lib.hid hblk; have HOW := Lib.hid hown; clear hL hblk hown
        have e1 : (p : Int) ≤ q := by omega
        have e2 : (q : Int) ≤ s.size := by omega
        have e3 : (l.length : Int) < L.length := by omega
        go_wp2_with fail
        go_region
        all_goals go_wp2
        all_goals go_ret
        all_goals exact fin_end hps hpq hq HPM.out HBW.out HBL.out HOW.out HL.out
  · refine (skip_bad g s p 1 1 rfl _ _ hs HP.out.1 (by omega) hps (by omega)).mono ?_
    rintro e w' ⟨rfl, hb'⟩
    refine ⟨rfl, HP.out.2.trans hb', ?_⟩
    rw [parse_at_end (by omega)]

end Rdr
end Go.Proofs.YtkmpfmhbkflgpaaGreatDoor

/- term.subs: the reader run under a defer that recovers: what it answers. -/
set_option linter.unusedVariables false
set_option linter.unusedSimpArgs false
namespace Go.Proofs.YtkmpfmhbkflgpaaGreatDoor
open Go.RowKit Go.Proofs.YtkmpfmhbkflgpaaGreatDoorW.PrintWords Go.Proofs.YtkmpfmhbkflgpaaGreatDoorW.PrintLast
namespace Rdr

theorem catch_panicking (pl pe : Nat) (older : List PanicEntry) (w : World) (hl : w.heap[pl]? = some (.cells #[.slice none 0 0] 31 (0, 0))) (he : w.heap[pe]? = some (.cells #[.int .i64 0] 32 (0, 0))) (hne : pl ≠ pe) :
    CallsD Tryz.prog 78 #[.pointer (some ⟨pl, 0, none⟩), .pointer (some ⟨pe, 0, none⟩)] (.panicking ({ v := .iface 140 (.agg #[.int .i64 4]), recovered := false } :: older)) w fun e u' w' =>
      e = .returned (.tuple #[]) ∧ u' = .panicking ({ v := .iface 140 (.agg #[.int .i64 4]), recovered := true } :: older) ∧
        w'.heap[pl]? = some (.cells #[.slice none 0 0] 31 (0, 0)) ∧ w'.heap[pe]? = some (.cells #[.int .i64 4] 32 (0, 0)) ∧ Below (min pl pe) w w' := by
  have hta : ∀ w, (Instr.typeAssert (.iface 140 (.agg #[.int .i64 4])) 20 140 true).run Tryz.prog w = .ok (.tuple #[.agg #[.int .i64 4], .bool true]) w := fun _ => by kernel_rfl
  refine callsD_of_wpS Tryz.func78 rfl fun c₀ cs hu => ?_
  have e0 : #[Value.pointer (some ⟨pl, 0, none⟩), Value.pointer (some ⟨pe, 0, none⟩)] ++ Array.replicate (Tryz.f78.ntmps - #[Value.pointer (some ⟨pl, 0, none⟩), Value.pointer (some ⟨pe, 0, none⟩)].size) undef =
    #[.pointer (some ⟨pl, 0, none⟩), .pointer (some ⟨pe, 0, none⟩), undef, undef, undef, undef, undef, undef, undef, undef, undef, undef] := rfl
  rw [e0]
  apply wpS_seq
  apply wpS_region
  simp [wpOpsS, go_sem, recoverD, hu, hta, Exit.thenS]
  refine wpS_of_wp ?_
  obtain ⟨W, hW⟩ : ∃ W, W = w.alloc (.cells #[.int .i64 4] 140) := ⟨_, rfl⟩
  rw [← hW]
  have HW := Lib.hid hW
  have hbn : W.cell? ⟨w.heap.size, 0, none⟩ = some (.int .i64 4) := by rw [hW]; exact blk_cell (blk_new w _) 0
  have hl1 : W.heap[pl]? = some (.cells #[.slice none 0 0] 31 (0, 0)) := by rw [hW]; exact blk_alloc hl _
  have he1 : W.heap[pe]? = some (.cells #[.int .i64 0] 32 (0, 0)) := by rw [hW]; exact blk_alloc he _
  have hlc : W.cell? ⟨pl, 0, none⟩ = some (.slice none 0 0) := blk_cell hl1 0
  have hec : W.cell? ⟨pe, 0, none⟩ = some (.int .i64 0) := blk_cell he1 0
  have hlf : W.frozen? ⟨pl, 0, none⟩ = false := blk_frozen hl1 0
  have hef : W.frozen? ⟨pe, 0, none⟩ = false := blk_frozen he1 0
  have hbl : W.heap[w.heap.size]? = some (.cells #[.int .i64 4] 140 (0, 0)) := by rw [hW]; exact blk_new w _
  have n1 : w.heap.size ≠ pl := by have := blk_lt hl; omega
  have n2 : w.heap.size ≠ pe := by have := blk_lt he; omega
  have hb1 : (W.setCell ⟨pl, 0, none⟩ (.slice none 0 0)).cell? ⟨w.heap.size, 0, none⟩ = some (.int .i64 4) := blk_cell (blk_far hbl (p := ⟨pl, 0, none⟩) n1 _) 0
  have hb2 : (W.setCell ⟨pl, 0, none⟩ (.slice none 0 0)).cell? ⟨pe, 0, none⟩ = some (.int .i64 0) := blk_cell (blk_far he1 (p := ⟨pl, 0, none⟩) (Ne.symm hne) _) 0
  clear hW e0 hta hbl
  go_wp2
  go_region
  all_goals
    refine ⟨rfl, _, rfl, .tuple #[], by simp [results, Tryz.results78, go_sem], rfl, rfl, ?_, ?_, ?_⟩
    · exact blk_drew (blk_far (blk_put hl1 0 _ rfl) (p := ⟨pe, 0, none⟩) hne _)
    · exact blk_drew (blk_put (blk_far he1 (p := ⟨pl, 0, none⟩) (Ne.symm hne) _) 0 _ rfl)
    · rw [HW.out]
      exact ((((Below.refl _ w).alloc (by have := blk_lt hl; show min pl pe ≤ w.heap.size; omega) _).setCell (p := ⟨pl, 0, none⟩) (Nat.min_le_left _ _) _).setCell (p := ⟨pe, 0, none⟩) (Nat.min_le_right _ _) _).drew

theorem catch_idle (pl pe : Nat) (w : World) :
    CallsD Tryz.prog 78 #[.pointer (some ⟨pl, 0, none⟩), .pointer (some ⟨pe, 0, none⟩)] .returning w fun e u' w' => e = .returned (.tuple #[]) ∧ u' = .returning ∧ Below w.heap.size w w' := by
  have hta : ∀ w, (Instr.typeAssert .nilIface 20 140 true).run Tryz.prog w = .ok (.tuple #[.agg #[.int .i64 0], .bool false]) w := fun _ => by kernel_rfl
  refine callsD_of_wpS Tryz.func78 rfl fun c₀ cs hu => ?_
  have e0 : #[Value.pointer (some ⟨pl, 0, none⟩), Value.pointer (some ⟨pe, 0, none⟩)] ++ Array.replicate (Tryz.f78.ntmps - #[Value.pointer (some ⟨pl, 0, none⟩), Value.pointer (some ⟨pe, 0, none⟩)].size) undef =
    #[.pointer (some ⟨pl, 0, none⟩), .pointer (some ⟨pe, 0, none⟩), undef, undef, undef, undef, undef, undef, undef, undef, undef, undef] := rfl
  rw [e0]
  apply wpS_seq
  apply wpS_region
  simp [wpOpsS, go_sem, recoverD, hu, hta, Exit.thenS]
  refine wpS_of_wp ?_
  go_wp2
  exact ⟨rfl, .returning, by cases c₀; simp_all, .tuple #[], by simp [results, Tryz.results78, go_sem], rfl, rfl, (Below.refl _ _).alloc (Nat.le_refl _) _⟩

def SubsPost (a0 : ByteArray) (w : World) (e : Ending) (w' : World) : Prop :=
  ∃ v0_ : Value, e = .returned (.tuple #[v0_, .int .i64 (TT.subsOf a0).2]) ∧ Kd.R Kd.string 26 w' w.heap.size (fun _ => True) v0_ (TT.subsOf a0).1 ∧ Below w.heap.size w w'

theorem door (a0 : ByteArray) (w w'' : World) (v : Value) (x : Int) (tmps : Array Value) (h2 : tmps.getD 2 undef = .pointer (some ⟨w.heap.size, 0, none⟩)) (h3 : tmps.getD 3 undef = .pointer (some ⟨w.heap.size + 1, 0, none⟩))
    (hv : w''.heap[w.heap.size]? = some (.cells #[v] 31 (0, 0))) (hx : w''.heap[w.heap.size + 1]? = some (.cells #[.int .i64 x] 32 (0, 0)))
    (hR : SubsPost a0 w (.returned (.tuple #[v, .int .i64 x])) w'') : Leaves Tryz.prog Tryz.f61 tmps (SubsPost a0 w) [] .returning w'' := by
  have hc : w''.cell? ⟨w.heap.size, 0, none⟩ = some v := blk_cell hv 0
  have hd : w''.cell? ⟨w.heap.size + 1, 0, none⟩ = some (.int .i64 x) := blk_cell hx 0
  refine ⟨.tuple #[v, .int .i64 x], ?_, hR⟩
  have ul : Tryz.prog.underlying 31 = some (.slice 26) := Tryz.underlying31
  have ue : Tryz.prog.underlying 32 = some (.int .i64) := Tryz.underlying32
  unfold results
  rw [show Tryz.f61.results = [ResultVar.cell 2 31, ResultVar.cell 3 32].toArray from Tryz.results61, List.mapM_toArray]
  rw [Array.getD_eq_getD_getElem?] at h2 h3
  simp [List.mapM_cons, h2, h3, asAddr, go_sem, hc, hd, ul, ue]

set_option maxHeartbeats 800000 in
theorem subs_big (a0 : ByteArray) (w : World) (hs : 2000 < a0.size) : Calls Tryz.prog 61 #[.string a0] w (SubsPost a0 w) := by
  have hmf : ∀ (fn : Fn) (first cap : Array Value) (w : World), (Instr.makeFunc fn first cap).run Tryz.prog w = .ok (.func fn first cap) w := fun _ _ _ _ => rfl
  go_enter_defers Tryz.func61, Tryz.ntmps61
  go_wp2
  refine leaves_cons (f := 78) (args := #[.pointer (some ⟨w.heap.size, 0, none⟩), .pointer (some ⟨w.heap.size + 1, 0, none⟩)]) (by simp) (by simp [go_sem]) ?_
  refine (catch_idle _ _ _).mono ?_
  rintro e u' w'' ⟨rfl, rfl, hb⟩
  have e1 : TT.subsOf a0 = ([], 3) := by
    have : TT.check a0 = 3 := by unfold TT.check; rw [if_pos hs]
    unfold TT.subsOf
    rw [this]; rfl
  refine door a0 w w'' (.slice none 0 0) 3 _ rfl rfl (blk_below (blk_alloc (blk_new w _) _) hb) (blk_below (by have := blk_new (w.alloc (.cells #[.slice none 0 0] 31)) (.cells #[.int .i64 3] 32); simpa using this) hb) ⟨.slice none 0 0, ?_, ?_, ?_⟩
  · rw [e1]
  · rw [e1]; exact Kd.R_nil _ _ _ _ _
  · exact (((Below.refl _ w).alloc (Nat.le_refl _) _).alloc (by simp) _).trans (hb.mono (by simp; omega))

theorem subs_none {a0 : ByteArray} (hs : a0.size ≤ 2000) (h : TT.parse (a0.size + 1) a0.data.toList = none) : TT.subsOf a0 = ([], 4) := by
  have hr : TT.read a0 = none := by unfold TT.read; rw [h]
  have hc : TT.check a0 = 4 := by unfold TT.check; rw [if_neg (by omega), hr]
  unfold TT.subsOf
  rw [hc]; rfl
theorem subs_more {a0 : ByteArray} {t : TT.Tm} {x : UInt8} {r : List UInt8} (hs : a0.size ≤ 2000) (h : TT.parse (a0.size + 1) a0.data.toList = some (t, x :: r)) : TT.subsOf a0 = ([], 4) := by
  have hr : TT.read a0 = none := by unfold TT.read; rw [h]
  have hc : TT.check a0 = 4 := by unfold TT.check; rw [if_neg (by omega), hr]
  unfold TT.subsOf
  rw [hc]; rfl
theorem subs_deep {a0 : ByteArray} {t : TT.Tm} (hs : a0.size ≤ 2000) (h : TT.parse (a0.size + 1) a0.data.toList = some (t, [])) (hd : 60 < t.depth) : TT.subsOf a0 = ([], 3) := by
  have hr : TT.read a0 = some t := by unfold TT.read; rw [h]
  have hc : TT.check a0 = 3 := by unfold TT.check; rw [if_neg (by omega), hr]; simp only; rw [if_pos hd]
  unfold TT.subsOf
  rw [hc]; rfl
theorem subs_fine {a0 : ByteArray} {t : TT.Tm} (hs : a0.size ≤ 2000) (h : TT.parse (a0.size + 1) a0.data.toList = some (t, [])) (hd : t.depth ≤ 60) : TT.subsOf a0 = (t.subs.map TT.Tm.str, 0) := by
  have hr : TT.read a0 = some t := by unfold TT.read; rw [h]
  have hc : TT.check a0 = 0 := by unfold TT.check; rw [if_neg (by omega), hr]; simp only; rw [if_neg (by omega)]
  unfold TT.subsOf
  rw [hc, hr]; rfl

theorem R_of_own {w : World} {base : Nat} {v : Value} {l : List ByteArray} {e : Nat} (h : w.ownsRow base e 1 v l.length (l.map Value.string)) : Kd.R Kd.string e w base (fun _ => True) v l := by
  refine ⟨fun _ _ => trivial, l.map Value.string, h, by rw [List.length_map]; exact (Nat.mul_one _).symm, fun j p hj => ?_⟩
  show ((l.map Value.string).drop (j * 1)).take 1 = [Value.string p]
  have hlt : j < l.length := (List.getElem?_eq_some_iff.1 hj).1
  rw [Nat.mul_one, List.drop_eq_getElem_cons (by simpa using hlt)]
  simp only [List.take_succ_cons, List.take_zero, List.getElem_map]
  rw [(List.getElem?_eq_some_iff.1 hj).2]

/-- The way out where nothing was recovered. -/
theorem door_idle {a0 : ByteArray} {w w1 : World} {v : Value} {x : Int} {tmps : Array Value} (h2 : tmps.getD 2 undef = .pointer (some ⟨w.heap.size, 0, none⟩)) (h3 : tmps.getD 3 undef = .pointer (some ⟨w.heap.size + 1, 0, none⟩))
    (hb0 : w1.heap[w.heap.size]? = some (.cells #[.slice none 0 0] 31 (0, 0))) (hbe : w1.heap[w.heap.size + 1]? = some (.cells #[.int .i64 0] 32 (0, 0)))
    (hB : Below w.heap.size w w1) (e1 : x = (TT.subsOf a0).2)
    (hR : ∀ w2, Below w1.heap.size ((w1.setCell ⟨w.heap.size, 0, none⟩ v).setCell ⟨w.heap.size + 1, 0, none⟩ (.int .i64 x)) w2 → Kd.R Kd.string 26 w2 w.heap.size (fun _ => True) v (TT.subsOf a0).1) :
    Leaves Tryz.prog Tryz.f61 tmps (SubsPost a0 w) [{ target := .fn (.func 78) #[.pointer (some ⟨w.heap.size, 0, none⟩), .pointer (some ⟨w.heap.size + 1, 0, none⟩)], args := #[] }] .returning ((w1.setCell ⟨w.heap.size, 0, none⟩ v).setCell ⟨w.heap.size + 1, 0, none⟩ (.int .i64 x)) := by
  refine leaves_cons (f := 78) (args := #[.pointer (some ⟨w.heap.size, 0, none⟩), .pointer (some ⟨w.heap.size + 1, 0, none⟩)]) (by simp) (by simp [go_sem]) ?_
  refine (catch_idle _ _ _).mono ?_
  rintro e u' w'' ⟨rfl, rfl, hb⟩
  have hb' : Below w1.heap.size ((w1.setCell ⟨w.heap.size, 0, none⟩ v).setCell ⟨w.heap.size + 1, 0, none⟩ (.int .i64 x)) w'' := by simpa [World.setCell] using hb
  have k0 := blk_far (blk_put hb0 0 v rfl) (p := ⟨w.heap.size + 1, 0, none⟩) (by show w.heap.size ≠ w.heap.size + 1; omega) (.int .i64 x)
  have k1 := blk_put (blk_far hbe (p := ⟨w.heap.size, 0, none⟩) (by show w.heap.size + 1 ≠ w.heap.size; omega) v) 0 (.int .i64 x) rfl
  refine door a0 w w'' v x _ h2 h3 (blk_below k0 hb) (blk_below k1 hb) ⟨v, by rw [e1], hR _ hb', ?_⟩
  have hlt := blk_lt hb0
  exact ((hB.setCell (p := ⟨w.heap.size, 0, none⟩) (Nat.le_refl _) _).setCell (p := ⟨w.heap.size + 1, 0, none⟩) (by show w.heap.size ≤ w.heap.size + 1; omega) _).trans (hb'.mono (by omega))

set_option maxHeartbeats 1600000 in
theorem subs_any (a0 : ByteArray) (w : World) (hs : a0.size ≤ 2000) : Calls Tryz.prog 61 #[.string a0] w (SubsPost a0 w) := by
  have hmf : ∀ (fn : Fn) (first cap : Array Value) (w : World), (Instr.makeFunc fn first cap).run Tryz.prog w = .ok (.func fn first cap) w := fun _ _ _ _ => rfl
  obtain ⟨W, hW⟩ : ∃ W, W = ((w.alloc (.cells #[.slice none 0 0] 31)).alloc (.cells #[.int .i64 0] 32)).alloc (.cells #[.string a0, .int .i64 0, .slice none 0 0] 144) := ⟨_, rfl⟩
  have b0 : W.heap[w.heap.size]? = some (.cells #[.slice none 0 0] 31 (0, 0)) := by rw [hW]; exact blk_alloc (blk_alloc (blk_new w _) _) _
  have b1 : W.heap[w.heap.size + 1]? = some (.cells #[.int .i64 0] 32 (0, 0)) := by
    rw [hW]
    have := blk_new (w.alloc (.cells #[.slice none 0 0] 31)) (.cells #[.int .i64 0] 32)
    exact blk_alloc (by simpa using this) _
  have b2 : W.heap[w.heap.size + 2]? = some (.cells #[.string a0, .int .i64 0, .slice none 0 0] 144 (0, 0)) := by
    rw [hW]
    have := blk_new ((w.alloc (.cells #[.slice none 0 0] 31)).alloc (.cells #[.int .i64 0] 32)) (.cells #[.string a0, .int .i64 0, .slice none 0 0] 144)
    simpa using this
  have hB : Below w.heap.size w W := by rw [hW]; exact (((Below.refl _ w).alloc (Nat.le_refl _) _).alloc (by simp) _).alloc (by simp; omega) _
  have HS := Lib.hid hs
  have HBW := Lib.hid hB; have HW := Lib.hid hW; have HRD := Lib.hid (show Rd (w.heap.size + 1 + 1) a0 W 0 [] from ⟨_, b2, own_nil _ _ _ _⟩)
  have HB0 := Lib.hid b0; have HB1 := Lib.hid b1
  clear hB b0 b1 b2 hW
  go_enter_defers Tryz.func61, Tryz.ntmps61
  go_wp2_with fail
  rw [← HW.out]
  refine (read_any (a0.size + 1) (w.heap.size + 1 + 1) a0 0 1 [] W hs HRD.out (by omega) (by simp) (by omega) (by omega)).mono ?_
  rintro e w1 ⟨hb1, hm1⟩
  have HBL := Lib.hid (HBW.out.trans (hb1.mono (by omega)))
  have hb0 : w1.heap[w.heap.size]? = some (.cells #[.slice none 0 0] 31 (0, 0)) := (hb1.block _ (by omega)).trans HB0.out
  have hbe : w1.heap[w.heap.size + 1]? = some (.cells #[.int .i64 0] 32 (0, 0)) := (hb1.block _ (by omega)).trans HB1.out
  clear hb1 HB0 HB1 HBW HW HRD
  rw [List.drop_zero] at hm1
  cases hp : TT.parse (a0.size + 1) a0.data.toList with
  | none =>
    rw [hp] at hm1
    obtain rfl := hm1
    refine leaves_cons (f := 78) (args := #[.pointer (some ⟨w.heap.size, 0, none⟩), .pointer (some ⟨w.heap.size + 1, 0, none⟩)]) (by simp [broken]) (by simp [go_sem]) ?_
    refine (catch_panicking _ _ [] _ hb0 hbe (by omega)).mono ?_
    rintro e u' w'' ⟨rfl, rfl, hl, he, hb⟩
    refine door a0 w w'' (.slice none 0 0) 4 _ rfl rfl hl he ⟨.slice none 0 0, ?_, ?_, ?_⟩
    · rw [subs_none hs hp]
    · rw [subs_none hs hp]; exact Kd.R_nil _ _ _ _ _
    · exact HBL.out.trans (hb.mono (by omega))
  | some tr =>
    obtain ⟨t, r⟩ := tr
    rw [hp] at hm1
    obtain ⟨rfl, hR⟩ := hm1
    have HP := Lib.hid hp; clear hp
    have HR := Lib.hid hR
    obtain ⟨v, hv, hown⟩ := hR
    have c0 : w1.cell? ⟨w.heap.size, 0, none⟩ = some (.slice none 0 0) := blk_cell hb0 0
    have c1 : w1.cell? ⟨w.heap.size + 1, 0, none⟩ = some (.int .i64 0) := blk_cell hbe 0
    have f0 : w1.frozen? ⟨w.heap.size, 0, none⟩ = false := blk_frozen hb0 0
    have f1 : w1.frozen? ⟨w.heap.size + 1, 0, none⟩ = false := blk_frozen hbe 0
    have c2 : w1.cell? ⟨w.heap.size + 1 + 1, 1, none⟩ = some (.int .i64 ((a0.size - r.length : Nat) : Int)) := blk_cell hv 1
    have c3 : w1.cell? ⟨w.heap.size + 1 + 1, 2, none⟩ = some v := blk_cell hv 2
    have HV := Lib.hid hv; have HOWN := Lib.hid hown; have HC0 := Lib.hid hb0; have HCE := Lib.hid hbe
    clear hv hown hb0 hbe
    cases r with
    | cons x r =>
      have hlt : ((a0.size - (x :: r).length : Nat) : Int) < a0.size := by
        obtain ⟨e, _⟩ := TT.parse_sound _ _ _ _ HP.out
        have := congrArg List.length e
        rw [Array.length_toList] at this
        have h2 : a0.data.size = a0.size := rfl
        have := t.enc_pos
        simp only [List.length_append, List.length_cons] at *
        omega
      go_wp2
      have es := subs_more hs HP.out
      exact door_idle rfl rfl HC0.out HCE.out HBL.out (by rw [es]) (fun w2 _ => by rw [es]; exact Kd.R_nil _ _ _ _ _)
    | nil =>
      have hge : ((a0.size : Nat) : Int) ≤ ((a0.size - ([] : List UInt8).length : Nat) : Int) := by simp
      by_cases hd : t.depth ≤ 60
      · have hdt : decide (1 + t.depth ≤ 61) = true := by simp; omega
        rw [hdt]
        have es := Lib.hid (subs_fine hs HP.out hd)
        clear hdt
        obtain ⟨A, c, rfl⟩ := own_slice HOWN.out
        go_wp2
        have h0 : w1.ownsRow (w.heap.size + 1 + 1 + 1) 26 1 (.slice A t.subs.length c) (t.subs.map TT.Tm.str).length ((t.subs.map TT.Tm.str).map Value.string) := by simpa using HOWN.out
        have h1 := ownsRow_setCell_below h0 (a := ⟨w.heap.size, 0, none⟩) (by show w.heap.size < w.heap.size + 1 + 1 + 1; omega) (.slice A t.subs.length c)
        have h2 := ownsRow_setCell_below h1 (a := ⟨w.heap.size + 1, 0, none⟩) (by show w.heap.size + 1 < w.heap.size + 1 + 1 + 1; omega) (.int .i64 0)
        refine door_idle rfl rfl HC0.out HCE.out HBL.out (by rw [es.out]) (fun w2 hb => ?_)
        rw [es.out]
        have h3 := pw_own_below h2 (by simpa [World.setCell] using hb)
        exact Kd.R_lower (R_of_own h3) (by omega)
      · have hdf : decide (1 + t.depth ≤ 61) = false := by simp; omega
        rw [hdf]
        have es := Lib.hid (subs_deep hs HP.out (by omega))
        clear hdf
        go_wp2
        exact door_idle rfl rfl HC0.out HCE.out HBL.out (by rw [es.out]) (fun w2 _ => by rw [es.out]; exact Kd.R_nil _ _ _ _ _)
end Rdr

/-- What the program's 'subs' answers, told as the print tells functions. -/
def term_subs.f (a0 : ByteArray) : Option (List ByteArray × Int) := some (TT.subsOf a0)
theorem term_subs.calls (a0 : ByteArray) (r1 : List ByteArray) (r2 : Int) (w : World) (h : term_subs.f a0 = some (r1, r2)) :
    Calls Tryz.prog 61 #[.string a0] w fun e w' => ∃ v0_ : Value, e = .returned (.tuple #[v0_, .int .i64 r2]) ∧ Kd.R Kd.string 26 w' w.heap.size (fun _ => True) v0_ r1 ∧ Below w.heap.size w w' := by
  have h' := Option.some.inj h
  have h1 : (TT.subsOf a0).1 = r1 := by rw [h']
  have h2 : (TT.subsOf a0).2 = r2 := by rw [h']
  rw [← h1, ← h2]
  by_cases hs : a0.size ≤ 2000
  · exact Rdr.subs_any a0 w hs
  · exact Rdr.subs_big a0 w (by omega)
end Go.Proofs.YtkmpfmhbkflgpaaGreatDoor

/- strings.Builder as package term uses it: a builder of the call's own, written byte by byte and text by text, then told. -/
set_option linter.unusedVariables false
set_option linter.unusedSimpArgs false
namespace Go.Proofs.YtkmpfmhbkflgpaaGreatDoor
open Go.RowKit
namespace Bld

theorem info_builder : (Tryz.prog.info? 93).map (·.size) = some 2 := by kernel_rfl
theorem lies_builder : liesAt Tryz.prog Tryz.prog.depth 93 (2 / Tryz.prog.cellsOf 93) 0 93 1 = true := by kernel_rfl
theorem info_byte : (Tryz.prog.info? 5).map (fun i => (i.zero, i.size, i.bytes)) = some (some (.int .u8 0), 1, 1) := by kernel_rfl
theorem cells_byte : Tryz.prog.cellsOf 5 = 1 := by kernel_rfl

set_option maxHeartbeats 800000 in
/-- copyCheck at a builder that was used. -/
theorem check_used (b : Nat) (w : World) (h0 : w.cell? ⟨b, 0, none⟩ = some (.pointer (some ⟨b, 0, none⟩))) :
    Calls Tryz.prog 67 #[.pointer (some ⟨b, 0, none⟩)] w fun e w' => e = .returned (.tuple #[]) ∧ w' = w := by
  obtain ⟨j, hj, _⟩ := Option.map_eq_some_iff.1 info_builder
  have hne := fun w => Lib.run_neq_ptr_same (P := Tryz.prog) w ⟨b, 0, none⟩ Tryz.underlying91 hj
  go_enter Tryz.func67, Tryz.ntmps67
  go_wp2
  go_end0
  exact ⟨rfl, rfl⟩

set_option maxHeartbeats 800000 in
/-- copyCheck at a fresh builder: it stores its own address. -/
theorem check_fresh (b : Nat) (w : World) (h0 : w.cell? ⟨b, 0, none⟩ = some (.pointer none)) (hsh : w.shape? b = some (93, 2)) (hfz : w.frozen? ⟨b, 0, none⟩ = false) :
    Calls Tryz.prog 67 #[.pointer (some ⟨b, 0, none⟩)] w fun e w' => e = .returned (.tuple #[]) ∧ w' = w.setCell ⟨b, 0, none⟩ (.pointer (some ⟨b, 0, none⟩)) := by
  obtain ⟨j, hj, hjs⟩ := Option.map_eq_some_iff.1 info_builder
  have h1 := Lib.run_to_unsafe (P := Tryz.prog) w ⟨b, 0, none⟩ (dst := 148) Tryz.underlying91 Tryz.underlying148 hj (by rw [hjs]; decide) hsh (Nat.zero_lt_succ 1)
  have h2 := Lib.run_from_unsafe (P := Tryz.prog) w ⟨b, 0, none⟩ Tryz.underlying148 Tryz.underlying91 hj hsh lies_builder
  have h3 : ∀ x w, (callFunc 83 #[x]).run Tryz.prog w = .ok (.value x) w := fun x w => by
    rw [run_callFunc_extern Tryz.func83 (by kernel_rfl) (by kernel_rfl) (by kernel_rfl) (e := Extern.AbiNoEscape.same) (by kernel_rfl), Lib.run_noEscape]
    rfl
  go_enter Tryz.func67, Tryz.ntmps67
  go_wp2
  go_end0
  exact ⟨rfl, rfl⟩

theorem check_any (B b : Nat) (bs : List Value) (w : World) (h : Lib.IsBuilder 93 5 B b bs w) :
    Calls Tryz.prog 67 #[.pointer (some ⟨b, 0, none⟩)] w fun e w' => e = .returned (.tuple #[]) ∧ Lib.BuilderAt 93 5 B b (.pointer (some ⟨b, 0, none⟩)) bs w' ∧ Below B w w' := by
  rcases h with h | h
  · refine (check_fresh b w h.cell0 h.shape h.frozen0).mono ?_
    rintro e w' ⟨rfl, rfl⟩
    exact ⟨rfl, h.used _, (Below.refl B w).setCell (p := ⟨b, 0, none⟩) h.1 _⟩
  · refine (check_used b w h.cell0).mono ?_
    rintro e w' ⟨rfl, rfl⟩
    exact ⟨rfl, h, Below.refl B _⟩

theorem size_le {B : Nat} {w w' : World} (h : Below B w w') (hB : B ≤ w.heap.size) : B ≤ w'.heap.size := Nat.le_trans hB h.size

set_option maxHeartbeats 1600000 in
set_option maxRecDepth 100000 in
theorem write_byte (B b : Nat) (bs : List Value) (c : Int) (w : World) (h : Lib.IsBuilder 93 5 B b bs w) (hlen : bs.length + 1 ≤ 140737488355328) (hBw : B ≤ w.heap.size) :
    Calls Tryz.prog 39 #[.pointer (some ⟨b, 0, none⟩), .int .u8 c] w fun e w' => e = .returned .nilIface ∧ Lib.BuilderAt 93 5 B b (.pointer (some ⟨b, 0, none⟩)) (bs ++ [.int .u8 c]) w' ∧ Below B w w' := by
  obtain ⟨i0, hi, hz0, hz1, hz2⟩ := info_parts info_byte
  go_enter Tryz.func39, Tryz.ntmps39
  go_wp2_with (go_at_call 67; refine (check_any B b bs _ h).mono ?_)
  rintro e w1 ⟨rfl, h1, hb1⟩
  have hs1 := size_le hb1 hBw
  obtain ⟨hB, v, hbk, hown, hne⟩ := h1
  have c1 : w1.cell? ⟨b, 1, none⟩ = some v := by rw [Lib.cell_of_heap hbk]; rfl
  have hlt : b < w1.heap.size := (Array.getElem?_eq_some_iff.1 hbk).1
  have HBK := Lib.hid hbk; have HO := Lib.hid hown; have HB1 := Lib.hid hb1; have HNE := Lib.hid hne
  have HI := Lib.hid (And.intro hi (And.intro hz0 (And.intro hz1 hz2))); clear hi hz0 hz1 hz2 hbk hown hb1 hne h
  go_wp2_with (at_builtin; refine wpList_append_own _ rfl _ _ 89 rfl B 5 i0 (.int .u8 0) 1 1 Tryz.underlying89 HI.out.1 HI.out.2.1 HI.out.2.2.1 HI.out.2.2.2 rfl (by decide) _ _ _ rfl (HO.out.alloc _) ⟨w1.heap.size, 0, none⟩ 1 1 [.int .u8 c] rfl rfl ?c1 ?c2 (by unfold maxLen; omega) (by omega) (by simp; omega) ?_)
  case c1 =>
    intro j u hj
    match j, hj with
    | 0, hj => simp at hj; subst hj; simp [Addr.add]
  case c2 => intro u hu; simp at hu; subst hu; rfl
  intro v' w2 hown' hgrow _
  have hb2 : w2.heap[b]? = some (.cells #[.pointer (some ⟨b, 0, none⟩), v] 93 (0, 0)) := by
    rw [hgrow.block b (by simp; omega) (fun e => HNE.out e.symm), Lib.alloc_old w1 _ b hlt]
    exact HBK.out
  have d1 : w2.cell? ⟨b, 1, none⟩ = some v := by rw [Lib.cell_of_heap hb2]; rfl
  have f1 : w2.frozen? ⟨b, 1, none⟩ = false := Lib.frozen_of_heap hb2 1
  obtain ⟨g, cap, rfl⟩ : ∃ g cap, v' = .slice (some ⟨g, 0, none⟩) (bs.length + 1) cap := by
    rcases hown'.2 with ⟨_, h0⟩ | ⟨g, cap, cur, hv, _⟩
    · omega
    · exact ⟨g, cap, hv⟩
  have HO' := Lib.hid hown'; have HG := Lib.hid hgrow; have HB2 := Lib.hid hb2; clear hown' hgrow hb2
  go_wp2
  go_ret
  refine ⟨rfl, Lib.BuilderAt.put hB HB2.out (bs' := bs ++ [.int .u8 c]) (by simpa using HO'.out) (by decide), ?_⟩
  exact ((HB1.out.alloc hs1 _).grown HG.out (by simp; omega) (fun k hk => (HO.out.lt k hk).1)).setCell (p := ⟨b, 1, none⟩) hB _

set_option maxHeartbeats 1600000 in
set_option maxRecDepth 100000 in
theorem write_string (B b : Nat) (bs : List Value) (s : ByteArray) (w : World) (h : Lib.IsBuilder 93 5 B b bs w) (hlen : bs.length + s.size ≤ 140737488355328) (hBw : B ≤ w.heap.size) :
    Calls Tryz.prog 40 #[.pointer (some ⟨b, 0, none⟩), .string s] w fun e w' => e = .returned (.tuple #[.int .i64 s.size, .nilIface]) ∧ Lib.BuilderAt 93 5 B b (.pointer (some ⟨b, 0, none⟩)) (bs ++ Lib.strCells s) w' ∧ Below B w w' := by
  obtain ⟨i0, hi, hz0, hz1, hz2⟩ := info_parts info_byte
  go_enter Tryz.func40, Tryz.ntmps40
  go_wp2_with (go_at_call 67; refine (check_any B b bs _ h).mono ?_)
  rintro e w1 ⟨rfl, h1, hb1⟩
  have hs1 := size_le hb1 hBw
  obtain ⟨hB, v, hbk, hown, hne⟩ := h1
  have c1 : w1.cell? ⟨b, 1, none⟩ = some v := by rw [Lib.cell_of_heap hbk]; rfl
  have hlt : b < w1.heap.size := (Array.getElem?_eq_some_iff.1 hbk).1
  have HBK := Lib.hid hbk; have HO := Lib.hid hown; have HB1 := Lib.hid hb1; have HNE := Lib.hid hne
  have HI := Lib.hid (And.intro hi (And.intro hz0 (And.intro hz1 hz2))); clear hi hz0 hz1 hz2 hbk hown hb1 hne h
  go_wp2_with (at_builtin; refine Lib.wpList_append_own_string _ rfl _ _ 89 9 rfl B 5 i0 Tryz.underlying89 Tryz.underlying9 HI.out.1 HI.out.2.1 HI.out.2.2.1 HI.out.2.2.2 _ _ _ rfl HO.out s rfl (by unfold maxLen; omega) (by omega) (by omega) ?_)
  intro v' w2 hown' hgrow _
  have hb2 : w2.heap[b]? = some (.cells #[.pointer (some ⟨b, 0, none⟩), v] 93 (0, 0)) := by
    rw [hgrow.block b hlt (fun e => HNE.out e.symm)]
    exact HBK.out
  have d1 : w2.cell? ⟨b, 1, none⟩ = some v := by rw [Lib.cell_of_heap hb2]; rfl
  have f1 : w2.frozen? ⟨b, 1, none⟩ = false := Lib.frozen_of_heap hb2 1
  obtain ⟨ao, n', cap, rfl⟩ : ∃ ao n' cap, v' = .slice ao n' cap := by
    rcases hown'.2 with ⟨hv, _⟩ | ⟨g, cap, cur, hv, _⟩
    · exact ⟨_, _, _, hv⟩
    · exact ⟨_, _, _, hv⟩
  have HO' := Lib.hid hown'; have HG := Lib.hid hgrow; have HB2 := Lib.hid hb2; clear hown' hgrow hb2
  go_wp2
  go_ret2
  refine ⟨rfl, Lib.BuilderAt.put hB HB2.out (bs' := bs ++ Lib.strCells s) (by simpa [Lib.strCells_length] using HO'.out) (by decide), ?_⟩
  exact (HB1.out.grown HG.out (by omega) (fun k hk => (HO.out.lt k hk).1)).setCell (p := ⟨b, 1, none⟩) hB _

set_option maxHeartbeats 1600000 in
set_option maxRecDepth 100000 in
/-- What is told of a builder that holds a byte or more. -/
theorem told (B b : Nat) (l : List UInt8) (p : Value) (w : World) (h : Lib.BuilderAt 93 5 B b p (Lib.byteCells l) w) (h0 : l ≠ []) :
    Calls Tryz.prog 41 #[.pointer (some ⟨b, 0, none⟩)] w fun e w' => e = .returned (.string ⟨l.toArray⟩) ∧ Below B w w' := by
  obtain ⟨hB, v, hbk, hown, hne⟩ := h
  have hl0 : l.length ≠ 0 := by simpa using h0
  rw [Lib.byteCells_length] at hown
  obtain ⟨g, cap, cur, rfl, hbg, hg, hnc, hcm, hcs, htake⟩ : ∃ g cap cur, v = .slice (some ⟨g, 0, none⟩) l.length cap ∧ B ≤ g ∧ w.heap[g]? = some (.cells cur 5 (0, 0)) ∧ l.length ≤ cap ∧ cap ≤ maxLen ∧ cur.size = cap * 1 ∧ cur.toList.take (l.length * 1) = Lib.byteCells l := by
    rcases hown.2 with ⟨_, hz⟩ | ⟨g, cap, cur, hv, r⟩
    · exact absurd hz hl0
    · exact ⟨g, cap, cur, hv, r⟩
  have c1 : w.drew.cell? ⟨b, 1, none⟩ = some (.slice (some ⟨g, 0, none⟩) l.length cap) := by
    have : w.drew.heap[b]? = some (.cells #[p, .slice (some ⟨g, 0, none⟩) l.length cap] 93 (0, 0)) := hbk
    rw [Lib.cell_of_heap this]; rfl
  have hg' : w.drew.heap[g]? = some (.cells cur 5 (0, 0)) := hg
  have hSD : (Builtin.unsafeSliceData_ #[89] 122 #[.slice (some ⟨g, 0, none⟩) l.length cap]).run Tryz.prog w.drew = .ok (.pointer (some ⟨g, 0, none⟩)) w.drew := Lib.run_unsafeSliceData_row _ _ _ _ _ _ (by omega)
  have hUS : (Builtin.unsafeString_ #[122, 3] 9 #[.pointer (some ⟨g, 0, none⟩), .int .i64 l.length]).run Tryz.prog w.drew = .ok (.string ⟨l.toArray⟩) (w.drew.freeze ⟨g, 0, none⟩ l.length) := by
    refine Lib.run_unsafeString_row w.drew 122 3 9 5 Tryz.underlying122 cells_byte g cur.size (by simp [World.shape?, hg']) l h0 (by omega) (by unfold maxLen at hcm; omega) ?_
    intro j x hx
    exact hown.cells (g := g) rfl j (.int .u8 x.toNat) (by simp [Lib.byteCells, hx])
  clear hg' hg hnc hcm hcs htake hown hbk h0 hl0
  go_enter Tryz.func41, Tryz.ntmps41
  go_wp2
  go_region
  all_goals (go_wp2; go_ret; exact ⟨rfl, Lib.below_freeze (Below.drew (Below.refl B w)) (p := ⟨g, 0, none⟩) hbg _⟩)

/-- A builder lives on in a world in which nothing that was there has changed. -/
theorem keep {B b : Nat} {p : Value} {bs : List Value} {T e : TypeId} {w w' : World} (h : Lib.BuilderAt T e B b p bs w) (hb : Below w.heap.size w w') : Lib.BuilderAt T e B b p bs w' := by
  obtain ⟨hB, v, hk, hown, hne⟩ := h
  refine ⟨hB, v, (hb.block b (Array.getElem?_eq_some_iff.1 hk).1).trans hk, ?_, hne⟩
  exact hown.kept (row := none) ⟨hb.os, hb.tape, hb.output, hb.size, fun i hi _ => hb.block i hi⟩ (by cases v.ownBlock <;> simp)
end Bld
end Go.Proofs.YtkmpfmhbkflgpaaGreatDoor

/- term.Check and term.Make: their contracts. -/
set_option linter.unusedVariables false
set_option linter.unusedSimpArgs false
namespace Go.Proofs.YtkmpfmhbkflgpaaGreatDoor
open Go.RowKit Go.Proofs.YtkmpfmhbkflgpaaGreatDoorW.PrintWords Go.Proofs.YtkmpfmhbkflgpaaGreatDoorW.PrintLast
namespace Rdr
open TT (ar)

set_option maxHeartbeats 400000 in
theorem check_any (s : ByteArray) (w : World) : Calls Tryz.prog 23 #[.string s] w fun e w' => e = .returned (.int .i64 (TT.check s)) ∧ Below w.heap.size w w' := by
  have hz : (TT.subsOf s).2 = TT.check s := by
    unfold TT.subsOf
    split
    · rename_i h; exact h.symm
    · rfl
  obtain ⟨r1, r2, hr⟩ : ∃ r1 r2, TT.subsOf s = (r1, r2) := ⟨_, _, rfl⟩
  have hf : term_subs.f s = some (r1, r2) := by rw [term_subs.f, hr]
  rw [hr] at hz
  obtain rfl : r2 = TT.check s := hz
  have HF := Lib.hid hf; clear hf hr
  go_enter Tryz.func23, Tryz.ntmps23
  go_wp2_with (go_at_call 61; refine (term_subs.calls s _ _ w HF.out).mono ?_; rintro e w1 ⟨v, rfl, _, hb⟩; have HB := Lib.hid hb; clear hb)
  go_ret
  exact ⟨rfl, HB.out⟩

def MakePost (c : UInt8) (l : List ByteArray) (w : World) (e : Ending) (w' : World) : Prop :=
  e = .returned (.tuple #[.string (TT.makeOf c l).1, .int .i64 (TT.makeOf c l).2]) ∧ Below w.heap.size w w'

set_option maxHeartbeats 400000 in
theorem make_arg (c : UInt8) (l : List ByteArray) (A : Option Addr) (cp : Nat) (w : World) (h : ar c < 1 ∨ ar c ≠ (l.length : Int)) :
    Calls Tryz.prog 16 #[.int .u8 c.toNat, .slice A l.length cp] w (MakePost c l w) := by
  have e1 : TT.makeOf c l = (⟨#[]⟩, 2) := by unfold TT.makeOf; rw [if_pos h]
  by_cases h1 : ar c < 1
  · clear h
    go_enter Tryz.func16, Tryz.ntmps16
    have HE := Lib.hid e1; clear e1
    go_wp2_with (go_at_call 38; refine (arity_any c w).mono ?_; rintro e w1 ⟨rfl, rfl⟩)
    go_ret2
    unfold MakePost
    exact ⟨by rw [HE.out]; rfl, Below.refl _ _⟩
  · have h2 : (ar c != (l.length : Int)) = true := by simp; omega
    clear h
    go_enter Tryz.func16, Tryz.ntmps16
    have HE := Lib.hid e1; clear e1
    go_wp2_with (go_at_call 38; refine (arity_any c w).mono ?_; rintro e w1 ⟨rfl, rfl⟩)
    go_ret2
    unfold MakePost
    exact ⟨by rw [HE.out]; rfl, Below.refl _ _⟩

theorem flat_one (s : ByteArray) : ([s].map fun s => s.data.toList).flatten = s.data.toList := by simp
theorem check_le {s : ByteArray} (h : TT.check s = 0) : s.size ≤ 2000 := by
  unfold TT.check at h
  split at h
  · omega
  · omega
theorem cells_byte1 (c : UInt8) (s : ByteArray) : [Value.int .u8 (c.toNat : Int)] ++ Lib.strCells s = Lib.byteCells (c :: s.data.toList) := rfl

theorem make_one_ok {c : UInt8} {s : ByteArray} (h : ar c = 1) (h1 : TT.check s = 0) (h2 : TT.check (TT.strOf (c :: s.data.toList)) = 0) : TT.makeOf c [s] = (TT.strOf (c :: s.data.toList), 0) := by
  unfold TT.makeOf
  rw [if_neg (by rw [h]; simp)]
  simp [h1, h2]
theorem make_one_big {c : UInt8} {s : ByteArray} (h : ar c = 1) (h1 : TT.check s = 0) (h2 : ¬ TT.check (TT.strOf (c :: s.data.toList)) = 0) : TT.makeOf c [s] = (⟨#[]⟩, 3) := by
  unfold TT.makeOf
  rw [if_neg (by rw [h]; simp)]
  simp [h1, h2]
theorem make_one_bad {c : UInt8} {s : ByteArray} (h : ar c = 1) (h1 : ¬ TT.check s = 0) : TT.makeOf c [s] = (⟨#[]⟩, TT.check s) := by
  unfold TT.makeOf
  rw [if_neg (by rw [h]; simp)]
  simp [h1]
theorem make_two_ok {c : UInt8} {s u : ByteArray} (h : ar c = 2) (h1 : TT.check s = 0) (h1' : TT.check u = 0) (h2 : TT.check (TT.strOf (c :: (s.data.toList ++ u.data.toList))) = 0) : TT.makeOf c [s, u] = (TT.strOf (c :: (s.data.toList ++ u.data.toList)), 0) := by
  unfold TT.makeOf
  rw [if_neg (by rw [h]; simp)]
  simp [h1, h1', h2]
theorem make_two_big {c : UInt8} {s u : ByteArray} (h : ar c = 2) (h1 : TT.check s = 0) (h1' : TT.check u = 0) (h2 : ¬ TT.check (TT.strOf (c :: (s.data.toList ++ u.data.toList))) = 0) : TT.makeOf c [s, u] = (⟨#[]⟩, 3) := by
  unfold TT.makeOf
  rw [if_neg (by rw [h]; simp)]
  simp [h1, h1', h2]
theorem make_two_bad1 {c : UInt8} {s u : ByteArray} (h : ar c = 2) (h1 : ¬ TT.check s = 0) : TT.makeOf c [s, u] = (⟨#[]⟩, TT.check s) := by
  unfold TT.makeOf
  rw [if_neg (by rw [h]; simp)]
  simp [h1]
theorem make_two_bad2 {c : UInt8} {s u : ByteArray} (h : ar c = 2) (h1 : TT.check s = 0) (h2 : ¬ TT.check u = 0) : TT.makeOf c [s, u] = (⟨#[]⟩, TT.check u) := by
  unfold TT.makeOf
  rw [if_neg (by rw [h]; simp)]
  simp [h1, h2]
theorem add_nil (a : Addr) : a.add 0 = a := by
  obtain ⟨b, o, s⟩ := a
  cases s <;> simp [Addr.add]

set_option maxHeartbeats 800000 in
theorem make_one (c : UInt8) (s : ByteArray) (A : Option Addr) (cp : Nat) (w : World) (h : ar c = 1) (hr : Kd.C Kd.string w A 1 [s]) :
    Calls Tryz.prog 16 #[.int .u8 c.toNat, .slice A 1 cp] w (MakePost c [s] w) := by
  obtain ⟨ad, rfl, hx⟩ := Kd.at_string hr 0 (by omega) (by omega)
  have hx0 : w.cell? ad = some (.string s) := by rw [← add_nil ad]; exact hx
  have HX := Lib.hid hx0; clear hx hx0 hr
  obtain ⟨m, hm⟩ : ∃ m, m = ar c := ⟨_, rfl⟩
  have HM := Lib.hid (show m = 1 by rw [hm, h])
  obtain rfl : m = 1 := HM.out
  have HA := Lib.hid h; clear h hm HM
  obtain ⟨W, hW⟩ : ∃ W, W = w.alloc (.cells #[.pointer none, .slice none 0 0] 93) := ⟨_, rfl⟩
  have hbu : Lib.IsBuilder 93 5 w.heap.size w.heap.size [] W := .inl ⟨Nat.le_refl _, .slice none 0 0, by rw [hW]; exact blk_new w _, own_nil _ _ _ _, by simp [Value.ownBlock]⟩
  have hBW : Below w.heap.size w W := by rw [hW]; exact (Below.refl _ w).alloc (Nat.le_refl _) _
  have HW := Lib.hid hW; have HBU := Lib.hid hbu; have HBW := Lib.hid hBW; clear hW hbu hBW
  go_enter Tryz.func16, Tryz.ntmps16
  go_wp2_with (go_at_call 38; refine (arity_any c w).mono ?_; rintro e w1 ⟨rfl, rfl⟩; rw [HA.out])
  rw [← HW.out]
  refine (Bld.write_byte _ _ [] c.toNat W HBU.out (by simp) HBW.out.size).mono ?_
  rintro e w2 ⟨rfl, hbu2, hb2⟩
  have HBU2 := Lib.hid hbu2; have HB2 := Lib.hid (HBW.out.trans hb2); clear hbu2 hb2 HBU HBW HW
  have hx2 := pw_cell_below HB2.out HX.out
  go_wp2_with fail
  refine wp_loop_rounds 2 ?_
  rw [rounds_succ]
  go_wp2_with fail
  refine (check_any s w2).mono ?_
  rintro e w3 ⟨rfl, hb3⟩
  have HB3 := Lib.hid (HB2.out.trans (hb3.mono HB2.out.size)); have HBU3 := Lib.hid (Bld.keep HBU2.out hb3); clear hb3 hx2
  by_cases h3 : TT.check s = 0
  · have HC := Lib.hid h3
    rw [h3]
    clear h3
    go_wp2_with fail
    refine (Bld.write_string _ _ _ s w3 (.inr HBU3.out) (by have := check_le HC.out; simp; omega) HB3.out.size).mono ?_
    rintro e w4 ⟨rfl, hbu4, hb4⟩
    have HBU4 := Lib.hid hbu4; have HB4 := Lib.hid (HB3.out.trans hb4); clear hbu4 hb4
    go_wp2_with fail
    rw [rounds_succ]
    go_wp2_with fail
    refine (Bld.told _ _ (c :: s.data.toList) _ w4 HBU4.out (by simp)).mono ?_
    rintro e w5 ⟨rfl, hb5⟩
    have HB5 := Lib.hid (HB4.out.trans hb5); clear hb5
    go_wp2_with fail
    refine (check_any (TT.strOf (c :: s.data.toList)) w5).mono ?_
    rintro e w6 ⟨rfl, hb6⟩
    have HB6 := Lib.hid (HB5.out.trans (hb6.mono HB5.out.size)); clear hb6
    by_cases h6 : TT.check (TT.strOf (c :: s.data.toList)) = 0
    · have hm := Lib.hid (make_one_ok HA.out HC.out h6)
      rw [h6]
      clear h6
      go_wp2_with fail
      go_ret2
      unfold MakePost
      exact ⟨by rw [hm.out]; rfl, HB6.out⟩
    · have hm := Lib.hid (make_one_big HA.out HC.out h6)
      have hb : (TT.check (TT.strOf (c :: s.data.toList)) != 0) = true := by simpa using h6
      clear h6
      go_wp2_with fail
      go_ret2
      unfold MakePost
      exact ⟨by rw [hm.out]; rfl, HB6.out⟩
  · have hm := Lib.hid (make_one_bad HA.out h3)
    have hb : (TT.check s != 0) = true := by simpa using h3
    clear h3
    go_wp2_with fail
    go_ret2
    unfold MakePost
    exact ⟨by rw [hm.out]; rfl, HB3.out⟩
theorem two_cells (c : UInt8) (s u : ByteArray) : [] ++ [Value.int .u8 (c.toNat : Int)] ++ Lib.strCells s ++ Lib.strCells u = Lib.byteCells (c :: (s.data.toList ++ u.data.toList)) := by
  simp [Lib.strCells, Lib.byteCells]

set_option maxHeartbeats 800000 in
theorem make_two (c : UInt8) (s u : ByteArray) (A : Option Addr) (cp : Nat) (w : World) (h : ar c = 2) (hr : Kd.C Kd.string w A 2 [s, u]) :
    Calls Tryz.prog 16 #[.int .u8 c.toNat, .slice A 2 cp] w (MakePost c [s, u] w) := by
  obtain ⟨ad, rfl, hx⟩ := Kd.at_string hr 0 (by omega) (by omega)
  obtain ⟨ad', had, hy⟩ := Kd.at_string hr 1 (by omega) (by omega)
  obtain rfl := Option.some.inj had
  have HY := Lib.hid (show w.cell? ⟨ad.block, ad.off + 1, none⟩ = some (.string u) from hy); clear hy had
  have hx0 : w.cell? ad = some (.string s) := by rw [← add_nil ad]; exact hx
  have HX := Lib.hid hx0; clear hx hx0 hr
  obtain ⟨m, hm⟩ : ∃ m, m = ar c := ⟨_, rfl⟩
  have HM := Lib.hid (show m = 2 by rw [hm, h])
  obtain rfl : m = 2 := HM.out
  have HA := Lib.hid h; clear h hm HM
  obtain ⟨W, hW⟩ : ∃ W, W = w.alloc (.cells #[.pointer none, .slice none 0 0] 93) := ⟨_, rfl⟩
  have hbu : Lib.IsBuilder 93 5 w.heap.size w.heap.size [] W := .inl ⟨Nat.le_refl _, .slice none 0 0, by rw [hW]; exact blk_new w _, own_nil _ _ _ _, by simp [Value.ownBlock]⟩
  have hBW : Below w.heap.size w W := by rw [hW]; exact (Below.refl _ w).alloc (Nat.le_refl _) _
  have HW := Lib.hid hW; have HBU := Lib.hid hbu; have HBW := Lib.hid hBW; clear hW hbu hBW
  go_enter Tryz.func16, Tryz.ntmps16
  go_wp2_with (go_at_call 38; refine (arity_any c w).mono ?_; rintro e w1 ⟨rfl, rfl⟩; rw [HA.out])
  rw [← HW.out]
  refine (Bld.write_byte _ _ [] c.toNat W HBU.out (by simp) HBW.out.size).mono ?_
  rintro e w2 ⟨rfl, hbu2, hb2⟩
  have HBU2 := Lib.hid hbu2; have HB2 := Lib.hid (HBW.out.trans hb2); clear hbu2 hb2 HBU HBW HW
  have hx2 := pw_cell_below HB2.out HX.out
  go_wp2_with fail
  refine wp_loop_rounds 3 ?_
  rw [rounds_succ]
  go_wp2_with fail
  refine (check_any s w2).mono ?_
  rintro e w3 ⟨rfl, hb3⟩
  have HB3 := Lib.hid (HB2.out.trans (hb3.mono HB2.out.size)); have HBU3 := Lib.hid (Bld.keep HBU2.out hb3); clear hb3 hx2
  by_cases h3 : TT.check s = 0
  · have HC := Lib.hid h3
    rw [h3]
    clear h3
    go_wp2_with fail
    refine (Bld.write_string _ _ _ s w3 (.inr HBU3.out) (by have := check_le HC.out; simp; omega) HB3.out.size).mono ?_
    rintro e w4 ⟨rfl, hbu4, hb4⟩
    have HBU4 := Lib.hid hbu4; have HB4 := Lib.hid (HB3.out.trans hb4); clear hbu4 hb4
    have hy4 := pw_cell_below HB4.out HY.out
    go_wp2_with fail
    rw [rounds_succ]
    go_wp2_with fail
    refine (check_any u w4).mono ?_
    rintro e w5 ⟨rfl, hb5⟩
    have HB5 := Lib.hid (HB4.out.trans (hb5.mono HB4.out.size)); have HBU5 := Lib.hid (Bld.keep HBU4.out hb5); clear hb5 hy4
    by_cases h5 : TT.check u = 0
    · have HD := Lib.hid h5
      rw [h5]
      clear h5
      go_wp2_with fail
      refine (Bld.write_string _ _ _ u w5 (.inr HBU5.out) (by have := check_le HC.out; have := check_le HD.out; simp [Lib.strCells_length]; omega) HB5.out.size).mono ?_
      rintro e w6 ⟨rfl, hbu6, hb6⟩
      have HBU6 := Lib.hid hbu6; have HB6 := Lib.hid (HB5.out.trans hb6); clear hbu6 hb6
      go_wp2_with fail
      rw [rounds_succ]
      go_wp2_with fail
      refine (Bld.told _ _ (c :: (s.data.toList ++ u.data.toList)) _ w6 (by rw [← two_cells]; exact HBU6.out) (by simp)).mono ?_
      rintro e w7 ⟨rfl, hb7⟩
      have HB7 := Lib.hid (HB6.out.trans hb7); clear hb7
      go_wp2_with fail
      refine (check_any (TT.strOf (c :: (s.data.toList ++ u.data.toList))) w7).mono ?_
      rintro e w8 ⟨rfl, hb8⟩
      have HB8 := Lib.hid (HB7.out.trans (hb8.mono HB7.out.size)); clear hb8
      by_cases h8 : TT.check (TT.strOf (c :: (s.data.toList ++ u.data.toList))) = 0
      · have hm := Lib.hid (make_two_ok HA.out HC.out HD.out h8)
        rw [h8]
        clear h8
        go_wp2_with fail
        go_ret2
        unfold MakePost
        exact ⟨by rw [hm.out]; rfl, HB8.out⟩
      · have hm := Lib.hid (make_two_big HA.out HC.out HD.out h8)
        have hb : (TT.check (TT.strOf (c :: (s.data.toList ++ u.data.toList))) != 0) = true := by simpa using h8
        clear h8
        go_wp2_with fail
        go_ret2
        unfold MakePost
        exact ⟨by rw [hm.out]; rfl, HB8.out⟩
    · have hm := Lib.hid (make_two_bad2 HA.out HC.out h5)
      have hb : (TT.check u != 0) = true := by simpa using h5
      clear h5
      go_wp2_with fail
      go_ret2
      unfold MakePost
      exact ⟨by rw [hm.out]; rfl, HB5.out⟩
  · have hm := Lib.hid (make_two_bad1 (u := u) HA.out h3)
    have hb : (TT.check s != 0) = true := by simpa using h3
    clear h3
    go_wp2_with fail
    go_ret2
    unfold MakePost
    exact ⟨by rw [hm.out]; rfl, HB3.out⟩

theorem make_any (c : UInt8) (l : List ByteArray) (A : Option Addr) (cp : Nat) (w : World) (hr : Kd.C Kd.string w A l.length l) :
    Calls Tryz.prog 16 #[.int .u8 c.toNat, .slice A l.length cp] w (MakePost c l w) := by
  by_cases h : ar c < 1 ∨ ar c ≠ (l.length : Int)
  · exact make_arg c l A cp w h
  · have hle := ar_lo c
    match l, h, hr with
    | [], h, _ => exact make_arg c [] A cp w (by simp; omega)
    | [s], h, hr => exact make_one c s A cp w (by simp at h; omega) hr
    | [s, u], h, hr => exact make_two c s u A cp w (by simp at h; omega) hr
    | s :: u :: v :: r, h, hr => exact make_arg c _ A cp w (.inr (by simp; omega))
end Rdr

def term_Check.f (a0 : ByteArray) : Option Int := some (TT.check a0)
theorem term_Check.calls (a0 : ByteArray) (r : Int) (w : World) (h : term_Check.f a0 = some r) : Calls Tryz.prog 23 #[.string a0] w fun e w' => e = .returned (.int .i64 r) ∧ Below w.heap.size w w' := by
  obtain rfl := Option.some.inj h
  exact Rdr.check_any a0 w
def term_Make.f (a0 : Int) (l1 : List ByteArray) : Option (ByteArray × Int) := if 0 ≤ a0 ∧ a0 ≤ 255 then some (TT.makeOf (UInt8.ofNat a0.toNat) l1) else none
theorem term_Make.calls (a0 : Int) (A1 : Option Addr) (c1 : Nat) (l1 : List ByteArray) (r1 : ByteArray) (r2 : Int) (w : World) (hr1 : Kd.C Kd.string w A1 l1.length l1) (hc1 : l1.length ≤ c1) (h : term_Make.f a0 l1 = some (r1, r2)) :
    Calls Tryz.prog 16 #[.int .u8 a0, .slice A1 l1.length c1] w fun e w' => e = .returned (.tuple #[.string r1, .int .i64 r2]) ∧ Below w.heap.size w w' := by
  unfold term_Make.f at h
  split at h
  · rename_i hb
    have h' := Option.some.inj h
    have e1 : (TT.makeOf (UInt8.ofNat a0.toNat) l1).1 = r1 := by rw [h']
    have e2 : (TT.makeOf (UInt8.ofNat a0.toNat) l1).2 = r2 := by rw [h']
    rw [← e1, ← e2]
    have e3 : a0 = ((UInt8.ofNat a0.toNat).toNat : Int) := by
      simp only [UInt8.toNat_ofNat']
      omega
    have := Rdr.make_any (UInt8.ofNat a0.toNat) l1 A1 c1 w hr1
    rw [← e3] at this
    exact this
  · cases h
end Go.Proofs.YtkmpfmhbkflgpaaGreatDoor

/- term.Parts: its contract. -/
set_option linter.unusedVariables false
set_option linter.unusedSimpArgs false
namespace Go.Proofs.YtkmpfmhbkflgpaaGreatDoor
open Go.RowKit Go.Proofs.YtkmpfmhbkflgpaaGreatDoorW.PrintWords Go.Proofs.YtkmpfmhbkflgpaaGreatDoorW.PrintLast
namespace Rdr
open TT (ar)

/-- Is p a beginning of s? -/
def pre (s p : ByteArray) : Bool := decide (p.size ≤ s.size) && ((s.extract 0 p.size).toList == p.toList)

set_option maxHeartbeats 400000 in
theorem prefix_lite (s p : ByteArray) (w : World) : Calls Tryz.prog 82 #[.string s, .string p] w fun e w' => e = .returned (.bool (pre s p)) ∧ w' = w := by
  by_cases h : p.size ≤ s.size
  · have e1 : pre s p = ((s.extract 0 p.size).toList == p.toList) := by unfold pre; rw [decide_eq_true h]; rfl
    have h1 : (p.size : Int) ≤ (s.size : Int) := by omega
    have hd : decide (p.size ≤ s.size) = true := decide_eq_true h
    have h2 : (0 : Int) ≤ (p.size : Int) := by omega
    have HE := Lib.hid e1; clear e1 h
    go_enter Tryz.func82, Tryz.ntmps82
    go_wp2
    go_ret
    rw [HE.out]
    exact ⟨rfl, rfl⟩
  · have e1 : pre s p = false := by unfold pre; rw [decide_eq_false h]; rfl
    have hd : decide (p.size ≤ s.size) = false := decide_eq_false h
    have h2 : (s.size : Int) < (p.size : Int) := by omega
    have HE := Lib.hid e1; clear e1 h
    go_enter Tryz.func82, Tryz.ntmps82
    go_wp2
    go_ret
    rw [HE.out]
    exact ⟨rfl, rfl⟩

set_option maxHeartbeats 400000 in
theorem prefix_any (s p : ByteArray) (w : World) : Calls Tryz.prog 66 #[.string s, .string p] w fun e w' => e = .returned (.bool (pre s p)) ∧ w' = w := by
  go_enter Tryz.func66, Tryz.ntmps66
  go_wp2_with (go_at_call 82; refine (prefix_lite s p w).mono ?_; rintro e w1 ⟨rfl, rfl⟩)
  go_ret
  exact ⟨rfl, rfl⟩

def PartsPost (s : ByteArray) (w : World) (e : Ending) (w' : World) : Prop :=
  ∃ v0_ : Value, e = .returned (.tuple #[.int .u8 (TT.partsOf s).1, v0_, .int .i64 (TT.partsOf s).2.2]) ∧ Kd.R Kd.string 26 w' w.heap.size (fun _ => True) v0_ (TT.partsOf s).2.1 ∧ Below w.heap.size w w'

theorem R_elems {w : World} {base e : Nat} {ok : Nat → Prop} {v : Value} {l : List ByteArray} (h : Kd.R Kd.string e w base ok v l) : w.ownsRow base e 1 v l.length (l.map Value.string) := by
  obtain ⟨_, inner, ho, hr1, hr2⟩ := h
  have : inner = l.map Value.string := by
    have hl : inner.length = l.length := by rw [hr1]; exact Nat.mul_one _
    apply List.ext_getElem (by simpa using hl)
    intro j h1 h2
    have h3 := hr2 j _ (List.getElem?_eq_getElem (show j < l.length by omega))
    have h4 : ((inner.drop (j * 1)).take 1) = [Value.string l[j]] := h3
    rw [Nat.mul_one, List.drop_eq_getElem_cons (by omega)] at h4
    simp only [List.take_succ_cons, List.take_zero, List.cons.injEq, and_true] at h4
    rw [h4]; simp
  rw [← this]
  exact ho

set_option maxHeartbeats 800000 in
theorem parts_bad (s : ByteArray) (w : World) (h : ¬ TT.check s = 0) : Calls Tryz.prog 37 #[.string s] w (PartsPost s w) := by
  have hp := Lib.hid (TT.partsOf_bad h)
  have hf : term_subs.f s = some ([], TT.check s) := by rw [term_subs.f, TT.subsOf_bad h]
  have HF := Lib.hid hf; clear hf
  have hb : (TT.check s != 0) = true := by simpa using h
  clear h
  go_enter Tryz.func37, Tryz.ntmps37
  go_wp2_with (go_at_call 61; refine (term_subs.calls s _ _ w HF.out).mono ?_; rintro e w1 ⟨v, rfl, _, hb1⟩; have HB := Lib.hid hb1; clear hb1)
  go_ret3
  refine ⟨.slice none 0 0, by rw [hp.out]; rfl, by rw [hp.out]; exact Kd.R_nil _ _ _ _ _, HB.out⟩

theorem byte0 {t : TT.Tm} (h : 0 < t.str.size) : t.str[0]'h = t.kind := by
  obtain ⟨r, hr⟩ := TT.enc_kind t
  have : t.str = TT.strOf (t.kind :: r) := by rw [TT.Tm.str, hr]
  simp only [this]
  rfl
theorem str_pos (t : TT.Tm) : 0 < t.str.size := by
  rw [TT.Tm.str, TT.strOf_size]; exact t.enc_pos

theorem byte_of {s : ByteArray} {t : TT.Tm} (hr : TT.read s = some t) : 0 < s.size ∧ ∀ h : 0 < s.size, s[0]'h = t.kind := by
  obtain ⟨_, rfl⟩ := TT.read_some hr
  exact ⟨str_pos t, fun h => byte0 h⟩

set_option maxHeartbeats 1600000 in
set_option maxRecDepth 100000 in
theorem parts_leaf (s : ByteArray) (t : TT.Tm) (w : World) (h : TT.check s = 0) (hr : TT.read s = some t) (ha : ar t.kind = 0) (hp : t.parts = []) : Calls Tryz.prog 37 #[.string s] w (PartsPost s w) := by
  have hpo := Lib.hid (TT.partsOf_ok h hr)
  have hf : term_subs.f s = some (t.subs.map TT.Tm.str, 0) := by rw [term_subs.f, TT.subsOf_ok h hr]
  obtain ⟨hs0, hk⟩ := byte_of hr
  have HK := Lib.hid (hk hs0)
  have HF := Lib.hid hf; have HA := Lib.hid ha; have HP := Lib.hid hp; clear hf h hr ha hp hk
  have h1 : (0 : Int) < (s.size : Int) := by omega
  have h2 : (1 : Int) ≤ (s.size : Int) := by omega
  go_enter Tryz.func37, Tryz.ntmps37
  go_wp2_with (go_at_call 61; refine (term_subs.calls s _ _ w HF.out).mono ?_; rintro e w1 ⟨v, rfl, hR, hb1⟩; have HB := Lib.hid hb1; have HR := Lib.hid hR; clear hb1 hR)
  rw [HK.out]
  refine (arity_any t.kind w1).mono ?_
  rintro e w2 ⟨rfl, hw2⟩
  subst hw2
  rw [HA.out]
  go_wp2_with fail
  refine wp_loop_rounds 1 ?_
  rw [rounds_succ]
  go_wp2_with fail
  go_ret3
  rw [HK.out]
  refine ⟨.slice none 0 0, by rw [hpo.out]; rfl, by rw [hpo.out, HP.out]; exact Kd.R_nil _ _ _ _ _, HB.out⟩

theorem pre_self (x : ByteArray) : pre x x = true := by
  unfold pre
  simp
theorem pre_app (x y : ByteArray) : pre (x ++ y) x = true := by
  unfold pre
  have h1 : x.size ≤ (x ++ y).size := by rw [ByteArray.size_append]; omega
  have h2 : (x ++ y).extract 0 x.size = x := by
    apply ByteArray.ext
    apply Array.ext'
    rw [ByteArray.data_extract, Array.toList_extract, List.extract_eq_take_drop, ByteArray.data_append, Array.toList_append, List.drop_zero, Nat.sub_zero]
    have : x.size = x.data.toList.length := by rw [Array.length_toList]; rfl
    rw [this, List.take_left]
  rw [h2]
  simp [h1]
theorem ext_app (x y : ByteArray) : (x ++ y).extract x.size (x ++ y).size = y := by
  apply ByteArray.ext
  apply Array.ext'
  have h1 : x.size = x.data.toList.length := by rw [Array.length_toList]; rfl
  have h2 : y.size = y.data.toList.length := by rw [Array.length_toList]; rfl
  rw [ByteArray.data_extract, Array.toList_extract, List.extract_eq_take_drop, ByteArray.data_append, Array.toList_append, ByteArray.size_append, h1, h2, List.drop_left]
  rw [Nat.add_sub_cancel_left, List.take_length]
theorem rest_two {s : ByteArray} {k : UInt8} {t u : TT.Tm} (hr : TT.read s = some (.two k t u)) : s.extract 1 s.size = t.str ++ u.str := by
  obtain ⟨_, rfl⟩ := TT.read_some hr
  apply ByteArray.ext
  apply Array.ext'
  rw [ByteArray.data_extract, Array.toList_extract, List.extract_eq_take_drop, ByteArray.data_append, Array.toList_append, TT.Tm.str, TT.strOf_data, TT.strOf_size, TT.Tm.str, TT.strOf_data, TT.Tm.str, TT.strOf_data]
  simp only [TT.Tm.enc, List.length_cons, List.drop_succ_cons, List.drop_zero, Nat.add_sub_cancel]
  rw [List.take_length]
theorem two_ar {s : ByteArray} {k : UInt8} {t u : TT.Tm} (hr : TT.read s = some (.two k t u)) : ar (TT.Tm.two k t u).kind = 2 := by
  obtain ⟨ho, _⟩ := TT.read_some hr
  have := TT.isTwo_ne ho.1
  show ar k = 2
  unfold ar
  rw [if_neg (by simp [this.1, this.2.1]), if_neg this.2.2, if_pos ho.1]
theorem subs_ok : ∀ {t : TT.Tm}, t.ok → ∀ x ∈ t.subs, x.ok
  | .nonce _ _, _, x, hx => by simp [TT.Tm.subs] at hx; subst hx; trivial
  | .const _, h, x, hx => by simp [TT.Tm.subs] at hx; subst hx; exact h
  | .hash t, h, x, hx => by
    simp only [TT.Tm.subs, List.mem_cons] at hx
    rcases hx with rfl | hx
    · exact h
    · exact subs_ok (t := t) h x hx
  | .two k a b, h, x, hx => by
    simp only [TT.Tm.subs, List.mem_cons, List.mem_append] at hx
    rcases hx with rfl | hx | hx
    · exact h
    · exact subs_ok (t := a) h.2.1 x hx
    · exact subs_ok (t := b) h.2.2 x hx
/-- A term that a term's text begins with is that term. -/
theorem pre_term {z u : TT.Tm} (hz : z.ok) (hu : u.ok) (h : pre u.str z.str = true) : z = u := by
  unfold pre at h
  simp only [Bool.and_eq_true, decide_eq_true_eq, beq_iff_eq] at h
  have e : (u.str.extract 0 z.str.size).data.toList = z.enc := by
    have h2 := h.2
    have : ∀ b : ByteArray, b.toList = b.data.toList := fun b => by rw [Go.ByteArray.toList_eq]
    rw [this, this] at h2
    rw [h2, TT.Tm.str, TT.strOf_data]
  rw [ByteArray.data_extract, Array.toList_extract, List.extract_eq_take_drop, List.drop_zero] at e
  have e4 : u.str.data.toList = u.enc := by rw [TT.Tm.str, TT.strOf_data]
  rw [e4] at e
  have h3 : z.enc ++ u.enc.drop (z.str.size - 0) = u.enc ++ [] := by
    rw [← e, List.take_append_drop, List.append_nil]
  exact (TT.enc_prefix hz hu h3).1
theorem HOWN_le {w : World} {base e n : Nat} {v : Value} {xs : List Value} (h : w.ownsRow base e 1 v n xs) : n ≤ maxLen := by
  rcases h.2 with ⟨_, h0⟩ | ⟨g, cap, cur, _, _, _, h1, h2, _⟩
  · omega
  · omega
theorem two_ok {s : ByteArray} {k : UInt8} {t u : TT.Tm} (hr : TT.read s = some (.two k t u)) : u.ok := (TT.read_some hr).1.2.2
theorem cell_two {s : ByteArray} {k : UInt8} {t u : TT.Tm} {w3 w4 : World} {gr cr n B e : Nat} (hr : TT.read s = some (.two k t u)) (hown : w3.ownsRow B e 1 (.slice (some ⟨gr, 0, none⟩) n cr) n (((TT.Tm.two k t u).subs.map TT.Tm.str).map Value.string))
    (hb : Below w3.heap.size w3 w4) (hn : ((TT.Tm.two k t u).subs.map TT.Tm.str).length = n) (hl : n = 1 + t.subs.length + u.subs.length) (j : Nat) (hj : j ≤ t.subs.length) :
    ∃ z : TT.Tm, z.ok ∧ w4.cell? ⟨gr, 1 + j, none⟩ = some (.string z.str) ∧ (j = t.subs.length → z = u) := by
  obtain ⟨ho, _⟩ := TT.read_some hr
  obtain ⟨r, hu, _⟩ := u.subs_eq
  have h1 : 1 + j < (TT.Tm.two k t u).subs.length := by rw [List.length_map] at hn; rw [hn, hl, hu]; simp; omega
  refine ⟨(TT.Tm.two k t u).subs[1 + j], subs_ok ho _ (List.getElem_mem _), ?_, ?_⟩
  · have hc := hown.cellAt (1 + j) (by rw [List.length_map] at hn; omega)
    have hc' : w3.cell? ⟨gr, 1 + j, none⟩ = some (.string ((TT.Tm.two k t u).subs[1 + j]).str) := by
      rw [hc]
      simp [h1]
    exact pw_cell_below hb hc'
  · intro h
    subst h
    have : (TT.Tm.two k t u).subs[1 + t.subs.length] = (TT.Tm.two k t u :: (t.subs ++ u.subs))[1 + t.subs.length]'(by simpa [TT.Tm.subs] using h1) := rfl
    rw [this]
    simp [hu, Nat.add_comm 1]
theorem rest_hash {s : ByteArray} {t : TT.Tm} (hr : TT.read s = some (.hash t)) : s.extract 1 s.size = t.str := by
  obtain ⟨_, rfl⟩ := TT.read_some hr
  have h : ((TT.Tm.hash t).str.extract 1 (TT.Tm.hash t).str.size).data.toList = t.enc := by
    rw [ByteArray.data_extract, Array.toList_extract, List.extract_eq_take_drop, TT.Tm.str, TT.strOf_data, TT.strOf_size]
    simp [TT.Tm.enc]
  refine Eq.trans (TT.strOf_of _).symm ?_
  rw [h]
  rfl
set_option maxHeartbeats 1600000 in
set_option maxRecDepth 100000 in
theorem parts_hash (s : ByteArray) (t : TT.Tm) (w : World) (h : TT.check s = 0) (hr : TT.read s = some (.hash t)) : Calls Tryz.prog 37 #[.string s] w (PartsPost s w) := by
  have hpo := Lib.hid (TT.partsOf_ok h hr)
  have hf : term_subs.f s = some ((TT.Tm.hash t).subs.map TT.Tm.str, 0) := by rw [term_subs.f, TT.subsOf_ok h hr]
  obtain ⟨hs0, hk⟩ := byte_of hr
  have HK := Lib.hid (hk hs0)
  have HF := Lib.hid hf; have HR := Lib.hid hr; clear hf h hr hk
  have h1 : (0 : Int) < (s.size : Int) := by omega
  have h2 : (1 : Int) ≤ (s.size : Int) := by omega
  go_enter Tryz.func37, Tryz.ntmps37
  go_wp2_with (go_at_call 61; refine (term_subs.calls s _ _ w HF.out).mono ?_; rintro e w1 ⟨v, rfl, hR, hb1⟩; have HB := Lib.hid hb1; have HO := Lib.hid (R_elems hR); clear hb1 hR)
  rw [HK.out]
  refine (arity_any _ w1).mono ?_
  rintro e w2 ⟨rfl, hw2⟩
  subst hw2
  obtain ⟨gr, cr, hv⟩ := own_some HO.out (by simp [TT.Tm.subs])
  subst hv
  have hcap := own_cap HO.out
  have hlen : 2 ≤ ((TT.Tm.hash t).subs.map TT.Tm.str).length := by
    obtain ⟨r, hr, _⟩ := t.subs_eq
    simp [TT.Tm.subs, hr]
  generalize hn : ((TT.Tm.hash t).subs.map TT.Tm.str).length = n at *
  have HN := Lib.hid hn; clear hn
  have hc1 : ¬ cr = 1 := by omega
  have h3 : (1 : Int) ≤ (n : Int) := by omega
  rw [show ar (TT.Tm.hash t).kind = 1 from rfl]
  go_wp2_with fail
  refine wp_loop_rounds 2 ?_
  rw [rounds_succ]
  go_wp2_with fail
  have hrest := rest_hash HR.out
  generalize hre : s.extract 1 s.size = rest at *
  have HRE := Lib.hid hre; clear hre
  obtain ⟨x, hx⟩ : ∃ x, x = t.str := ⟨_, rfl⟩
  rw [← hx] at hrest
  have hpre : pre rest x = true := by rw [hrest]; exact pre_self x
  have hsz : (x.size : Int) ≤ (rest.size : Int) := by rw [hrest]; omega
  have hcell : w2.cell? ⟨gr, 1, none⟩ = some (.string x) := by
    rw [HO.out.cellAt 1 (by omega)]
    obtain ⟨r, hr, _⟩ := t.subs_eq
    simp [TT.Tm.subs, hr, hx]
  have HX := Lib.hid hx; have HRS := Lib.hid hrest; have HPRE := Lib.hid hpre; clear hx hrest hpre
  obtain ⟨i, hi, hz0, hz1, hz2⟩ := info_parts infoT
  have HI := Lib.hid (And.intro hi (And.intro hz0 (And.intro hz1 hz2))); clear hi hz0 hz1 hz2
  refine wp_loop_rounds 1 ?_
  rw [rounds_succ]
  go_wp2_with fail
  refine (prefix_any rest x w2).mono ?_
  rintro e w3 ⟨rfl, hw3⟩
  subst hw3
  rw [HPRE.out]
  go_wp2_with (at_builtin; refine wpList_append_own _ rfl (.tmp 36) (.tmp 38) 31 rfl w3.heap.size 26 i (.string ⟨#[]⟩) 1 16 Tryz.underlying31 HI.out.1 HI.out.2.1 HI.out.2.2.1 HI.out.2.2.2 rfl (by decide) (.slice none 0 0) 0 [] rfl (own_nil _ _ _ _) ⟨w3.heap.size, 0, none⟩ 1 1 [.string x] rfl rfl ?c1 ?c2 (by unfold maxLen; omega) (by omega) (by simp) ?_)
  case c1 =>
    intro j u hj
    match j, hj with
    | 0, hj => simp at hj; subst hj; exact cell_new w3 _ _
  case c2 => intro u hu; simp at hu; subst hu; rfl
  intro v' w4 hown' hgrow _
  have HO' := Lib.hid hown'
  have HB4 := Lib.hid (((Below.refl w3.heap.size w3).alloc (Nat.le_refl _) (.cells #[.string x] 26)).grown hgrow (by simp) (by simp [Value.ownBlock]))
  clear hown' hgrow
  go_wp2_with fail
  rw [rounds_succ]
  go_wp2_with fail
  go_ret3
  rw [HK.out]
  refine ⟨v', by rw [hpo.out]; rfl, ?_, HB.out.trans (HB4.out.mono HB.out.size)⟩
  rw [hpo.out]
  have h5 : Kd.R Kd.string 26 w4 w3.heap.size (fun _ => True) v' [x] := R_of_own (l := [x]) HO'.out
  rw [HX.out] at h5
  exact Kd.R_lower h5 HB.out.size

set_option maxHeartbeats 3200000 in
set_option maxRecDepth 100000 in
theorem parts_two (s : ByteArray) (k : UInt8) (t u : TT.Tm) (w : World) (h : TT.check s = 0) (hr : TT.read s = some (.two k t u)) : Calls Tryz.prog 37 #[.string s] w (PartsPost s w) := by
  have hpo := Lib.hid (TT.partsOf_ok h hr)
  have hf : term_subs.f s = some ((TT.Tm.two k t u).subs.map TT.Tm.str, 0) := by rw [term_subs.f, TT.subsOf_ok h hr]
  obtain ⟨hs0, hk⟩ := byte_of hr
  have HK := Lib.hid (hk hs0)
  have HF := Lib.hid hf; have HR := Lib.hid hr
  have HSZ := Lib.hid (check_le h)
  have HAR := Lib.hid (two_ar hr)
  clear hf h hr hk
  have h1 : (0 : Int) < (s.size : Int) := by omega
  have h2 : (1 : Int) ≤ (s.size : Int) := by omega
  go_enter Tryz.func37, Tryz.ntmps37
  go_wp2_with (go_at_call 61; refine (term_subs.calls s _ _ w HF.out).mono ?_; rintro e w1 ⟨v, rfl, hR, hb1⟩; have HB := Lib.hid hb1; have HO := Lib.hid (R_elems hR); clear hb1 hR)
  rw [HK.out]
  refine (arity_any _ w1).mono ?_
  rintro e w2 ⟨rfl, hw2⟩
  subst hw2
  obtain ⟨gr, cr, hv⟩ := own_some HO.out (by simp [TT.Tm.subs])
  subst hv
  have hcap := own_cap HO.out
  have hlen : ((TT.Tm.two k t u).subs.map TT.Tm.str).length = 1 + t.subs.length + u.subs.length := by
    simp [TT.Tm.subs]; omega
  have hltt : 1 ≤ t.subs.length ∧ 1 ≤ u.subs.length := by
    obtain ⟨r, hr, _⟩ := t.subs_eq
    obtain ⟨r', hr', _⟩ := u.subs_eq
    simp [hr, hr']
  generalize hn : ((TT.Tm.two k t u).subs.map TT.Tm.str).length = n at *
  have HN := Lib.hid hn; have HLEN := Lib.hid hlen; have hlen2 : 1 + t.subs.length + 1 ≤ n := by omega
  clear hn hlen
  have hc1 : ¬ cr = 1 := by omega
  have h3 : (1 : Int) ≤ (n : Int) := by omega
  have h3' : n ≤ 9223372036854775807 := by have := HOWN_le HO.out; unfold maxLen at this; omega
  rw [HAR.out]
  go_wp2_with fail
  refine wp_loop_rounds 3 ?_
  rw [rounds_succ]
  go_wp2_with fail
  have hrest := rest_two HR.out
  generalize hre : s.extract 1 s.size = rest at *
  have HRE := Lib.hid hre; clear hre
  obtain ⟨x, hx⟩ : ∃ x, x = t.str := ⟨_, rfl⟩
  obtain ⟨y, hy⟩ : ∃ y, y = u.str := ⟨_, rfl⟩
  rw [← hx, ← hy] at hrest
  have hpre : pre rest x = true := by rw [hrest]; exact pre_app x y
  have hex : rest.extract x.size rest.size = y := by rw [hrest]; exact ext_app x y
  have hsz : (x.size : Int) ≤ (rest.size : Int) := by rw [hrest, ByteArray.size_append]; omega
  have hcell : w2.cell? ⟨gr, 1, none⟩ = some (.string x) := by
    rw [HO.out.cellAt 1 (by omega)]
    obtain ⟨r, hr, _⟩ := t.subs_eq
    simp [TT.Tm.subs, hr, hx]
  have HX := Lib.hid hx; have HY := Lib.hid hy; have HRS := Lib.hid hrest; have HPRE := Lib.hid hpre; have HEX := Lib.hid hex; clear hx hy hrest hpre hex
  obtain ⟨i, hi, hz0, hz1, hz2⟩ := info_parts infoT
  have HI := Lib.hid (And.intro hi (And.intro hz0 (And.intro hz1 hz2))); clear hi hz0 hz1 hz2
  refine wp_loop_rounds 1 ?_
  rw [rounds_succ]
  go_wp2_with fail
  refine (prefix_any rest x w2).mono ?_
  rintro e w3 ⟨rfl, hw3⟩
  subst hw3
  rw [HPRE.out]
  go_wp2_with (at_builtin; refine wpList_append_own _ rfl (.tmp 36) (.tmp 38) 31 rfl w3.heap.size 26 i (.string ⟨#[]⟩) 1 16 Tryz.underlying31 HI.out.1 HI.out.2.1 HI.out.2.2.1 HI.out.2.2.2 rfl (by decide) (.slice none 0 0) 0 [] rfl (own_nil _ _ _ _) ⟨w3.heap.size, 0, none⟩ 1 1 [.string x] rfl rfl ?c1 ?c2 (by unfold maxLen; omega) (by omega) (by simp) ?_)
  case c1 =>
    intro j u hj
    match j, hj with
    | 0, hj => simp at hj; subst hj; exact cell_new w3 _ _
  case c2 => intro u hu; simp at hu; subst hu; rfl
  intro v' w4 hown' hgrow _
  have HO' := Lib.hid hown'
  have HB4 := Lib.hid (((Below.refl w3.heap.size w3).alloc (Nat.le_refl _) (.cells #[.string x] 26)).grown hgrow (by simp) (by simp [Value.ownBlock]))
  clear hown' hgrow hcell
  go_wp2_with fail
  rw [HEX.out, rounds_succ]
  go_wp2_with fail
  have HCL := Lib.hid (fun j (hj : j ≤ t.subs.length) => cell_two (w3 := w3) (w4 := w4) HR.out HO.out HB4.out HN.out HLEN.out j hj)
  go_loop [7, 8, 29] (fun a b i => ∃ j : Nat, j ≤ t.subs.length ∧ v' = a ∧ b = .string y ∧ i = .int .i64 j) (fun _ _ i => t.subs.length + 1 - (intOf i).toNat)
  case atStart => exact ⟨0, Nat.zero_le _, rfl, rfl, rfl⟩
  case round =>
    obtain ⟨j, hj, rfl, rfl, rfl⟩ := hrel
    obtain ⟨z, hz, hcz, hlast⟩ := HCL.out j hj
    have HLAST := Lib.hid hlast; have HZ := Lib.hid hz; clear hz hlast
    have hlt : (j : Int) < ((n - 1 : Nat) : Int) := by omega
    have hlt2 : j < n - 1 := by omega
    generalize hzz : z.str = zs at *
    have HZZ := Lib.hid hzz; clear hzz
    go_wp2_with fail
    refine (prefix_any y zs w4).mono ?_
    rintro e w5 ⟨rfl, hw5⟩
    subst hw5
    cases hpz : pre y zs with
    | false =>
      have HPZ := Lib.hid hpz; clear hpz
      have hj2 : j < t.subs.length := by
        rcases Nat.lt_or_ge j t.subs.length with h | h
        · exact h
        · have := HLAST.out (by omega)
          have h6 := HPZ.out
          rw [← HZZ.out, this, ← HY.out, pre_self] at h6
          cases h6
      go_wp2_with fail
      go_round
      case rel => exact ⟨j + 1, by omega, rfl, rfl, by go_num⟩
      case measure => simp [intOf]; omega
    | true =>
      have hzu : z = u := pre_term HZ.out (two_ok HR.out) (by rw [HZZ.out, ← HY.out]; exact hpz)
      have hzy : zs = y := by rw [← HZZ.out, hzu, HY.out]
      subst hzy
      clear hpz
      have hszz : (zs.size : Int) ≤ (zs.size : Int) := Int.le_refl _
      go_wp2_with (at_builtin; refine wpList_append_own _ rfl (.tmp 36) (.tmp 38) 31 rfl w3.heap.size 26 i (.string ⟨#[]⟩) 1 16 Tryz.underlying31 HI.out.1 HI.out.2.1 HI.out.2.2.1 HI.out.2.2.2 rfl (by decide) v' 1 [.string x] rfl (HO'.out.alloc _) ⟨w5.heap.size, 0, none⟩ 1 1 [.string zs] rfl rfl ?c1 ?c2 (by unfold maxLen; omega) (by omega) (by have := HB4.out.size; simp; omega) ?_)
      case c1 =>
        intro j u hj
        match j, hj with
        | 0, hj => simp at hj; subst hj; exact cell_new w5 _ _
      case c2 => intro u hu; simp at hu; subst hu; rfl
      intro v5 w6 hown5 hgrow5 _
      have HO5 := Lib.hid hown5
      have HB6 := Lib.hid ((HB4.out.alloc HB4.out.size (.cells #[.string zs] 26)).grown hgrow5 (by have := HB4.out.size; simp; omega) (fun k hk => own_base HO'.out k hk))
      clear hown5 hgrow5 hcz
      go_wp2_with fail
      rw [rounds_succ]
      go_wp2_with fail
      go_ret3
      rw [HK.out]
      refine ⟨v5, by rw [hpo.out]; rfl, ?_, HB.out.trans (HB6.out.mono HB.out.size)⟩
      rw [hpo.out]
      have h5 : Kd.R Kd.string 26 w6 w3.heap.size (fun _ => True) v5 [x, zs] := R_of_own (l := [x, zs]) HO5.out
      rw [HX.out, HY.out] at h5
      exact Kd.R_lower h5 HB.out.size

theorem parts_any (s : ByteArray) (w : World) : Calls Tryz.prog 37 #[.string s] w (PartsPost s w) := by
  by_cases h : TT.check s = 0
  · obtain ⟨t, hr, _⟩ := TT.check_ok h
    cases t with
    | nonce a b => exact parts_leaf s _ w h hr rfl rfl
    | const l => exact parts_leaf s _ w h hr rfl rfl
    | hash t => exact parts_hash s t w h hr
    | two k a b => exact parts_two s k a b w h hr
  · exact parts_bad s w h
end Rdr

def term_Parts.f (a0 : ByteArray) : Option (Int × List ByteArray × Int) := some (TT.partsOf a0)
theorem term_Parts.calls (a0 : ByteArray) (r1 : Int) (r2 : List ByteArray) (r3 : Int) (w : World) (h : term_Parts.f a0 = some (r1, r2, r3)) :
    Calls Tryz.prog 37 #[.string a0] w fun e w' => ∃ v1_ : Value, e = .returned (.tuple #[.int .u8 r1, v1_, .int .i64 r3]) ∧ Kd.R Kd.string 26 w' w.heap.size (fun _ => True) v1_ r2 ∧ Below w.heap.size w w' := by
  have h' := Option.some.inj h
  have e1 : (TT.partsOf a0).1 = r1 := by rw [h']
  have e2 : (TT.partsOf a0).2.1 = r2 := by rw [h']
  have e3 : (TT.partsOf a0).2.2 = r3 := by rw [h']
  rw [← e1, ← e2, ← e3]
  exact Rdr.parts_any a0 w
end Go.Proofs.YtkmpfmhbkflgpaaGreatDoor
