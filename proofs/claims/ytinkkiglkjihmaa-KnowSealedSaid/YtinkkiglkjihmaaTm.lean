/- Terms as trees: their text, how a text is read, and that a text has one reading at the most. Plain Lean: no program in sight. -/
namespace Go.Proofs.Ytinkkiglkjihmaa.TT

inductive Tm where
  | nonce (a b : UInt8)
  | const (l : List UInt8)
  | hash (t : Tm)
  | two (k : UInt8) (a b : Tm)
deriving DecidableEq

def isTwo (k : UInt8) : Bool := k == 100 || k == 109 || k == 115 || k == 112

namespace Tm
/-- A term's text. -/
def enc : Tm → List UInt8
  | nonce a b => [110, a, b]
  | const l => 99 :: UInt8.ofNat l.length :: l
  | hash t => 104 :: t.enc
  | two k a b => k :: (a.enc ++ b.enc)
def ok : Tm → Prop
  | nonce _ _ => True
  | const l => l.length ≤ 40
  | hash t => t.ok
  | two k a b => isTwo k = true ∧ a.ok ∧ b.ok
def depth : Tm → Nat
  | nonce _ _ => 1
  | const _ => 1
  | hash t => t.depth + 1
  | two _ a b => max a.depth b.depth + 1
/-- All that is in a term, each ahead of what it is made of. -/
def subs : Tm → List Tm
  | nonce a b => [nonce a b]
  | const l => [const l]
  | hash t => hash t :: t.subs
  | two k a b => two k a b :: (a.subs ++ b.subs)
def kind : Tm → UInt8
  | nonce _ _ => 110
  | const _ => 99
  | hash _ => 104
  | two k _ _ => k
def parts : Tm → List Tm
  | nonce _ _ => []
  | const _ => []
  | hash t => [t]
  | two _ a b => [a, b]
end Tm

/-- A text read from its beginning on: the term, and what is left. -/
def parse : Nat → List UInt8 → Option (Tm × List UInt8)
  | 0, _ => none
  | _ + 1, [] => none
  | k + 1, c :: r =>
    if c = 110 then
      match r with
      | a :: b :: r' => some (.nonce a b, r')
      | _ => none
    else if c = 99 then
      match r with
      | n :: r' => if n.toNat ≤ 40 ∧ n.toNat ≤ r'.length then some (.const (r'.take n.toNat), r'.drop n.toNat) else none
      | _ => none
    else if c = 104 then (parse k r).bind fun p => some (.hash p.1, p.2)
    else if isTwo c = true then (parse k r).bind fun p => (parse k p.2).bind fun q => some (.two c p.1 q.1, q.2)
    else none

theorem Tm.enc_ne : ∀ t : Tm, t.enc ≠ []
  | .nonce _ _ => by simp [Tm.enc]
  | .const _ => by simp [Tm.enc]
  | .hash _ => by simp [Tm.enc]
  | .two _ _ _ => by simp [Tm.enc]
theorem Tm.enc_pos (t : Tm) : 0 < t.enc.length := List.length_pos_iff.2 t.enc_ne
theorem Tm.depth_pos : ∀ t : Tm, 1 ≤ t.depth
  | .nonce _ _ => by simp [Tm.depth]
  | .const _ => by simp [Tm.depth]
  | .hash _ => by simp [Tm.depth]
  | .two _ _ _ => by simp [Tm.depth]
theorem Tm.depth_le : ∀ t : Tm, t.depth ≤ t.enc.length
  | .nonce _ _ => by simp [Tm.depth, Tm.enc]
  | .const _ => by simp [Tm.depth, Tm.enc]
  | .hash t => by have := Tm.depth_le t; simp [Tm.depth, Tm.enc]; omega
  | .two _ a b => by have := Tm.depth_le a; have := Tm.depth_le b; simp [Tm.depth, Tm.enc]; omega
theorem Tm.subs_len : ∀ t : Tm, t.subs.length ≤ t.enc.length
  | .nonce _ _ => by simp [Tm.subs, Tm.enc]
  | .const _ => by simp [Tm.subs, Tm.enc]
  | .hash t => by have := Tm.subs_len t; simp [Tm.subs, Tm.enc]; omega
  | .two _ a b => by have := Tm.subs_len a; have := Tm.subs_len b; simp [Tm.subs, Tm.enc]; omega
theorem Tm.subs_eq : ∀ t : Tm, ∃ r, t.subs = t :: r ∧ r = (t.parts.map Tm.subs).flatten
  | .nonce _ _ => ⟨_, rfl, rfl⟩
  | .const _ => ⟨_, rfl, rfl⟩
  | .hash _ => ⟨_, rfl, by simp [Tm.parts]⟩
  | .two _ _ _ => ⟨_, rfl, by simp [Tm.parts]⟩

theorem isTwo_ne {c : UInt8} (h : isTwo c = true) : c ≠ 110 ∧ c ≠ 99 ∧ c ≠ 104 := by
  refine ⟨?_, ?_, ?_⟩ <;> (rintro rfl; revert h; decide)

/-- What is read is what was written, and what is left. -/
theorem parse_sound : ∀ (k : Nat) (l : List UInt8) (t : Tm) (r : List UInt8), parse k l = some (t, r) → l = t.enc ++ r ∧ t.ok := by
  intro k
  induction k with
  | zero => intro l t r h; simp [parse] at h
  | succ k ih =>
    intro l t r h
    cases l with
    | nil => simp [parse] at h
    | cons c l =>
      simp only [parse] at h
      by_cases h1 : c = 110
      · rw [if_pos h1] at h
        match l, h with
        | a :: b :: l', h =>
          simp only [Option.some.injEq, Prod.mk.injEq] at h
          obtain ⟨rfl, rfl⟩ := h
          subst h1
          exact ⟨rfl, trivial⟩
      · rw [if_neg h1] at h
        by_cases h2 : c = 99
        · rw [if_pos h2] at h
          match l, h with
          | n :: l', h =>
            by_cases h3 : n.toNat ≤ 40 ∧ n.toNat ≤ l'.length
            · simp only [if_pos h3, Option.some.injEq, Prod.mk.injEq] at h
              obtain ⟨rfl, rfl⟩ := h
              subst h2
              have hl : (l'.take n.toNat).length = n.toNat := by simp; omega
              refine ⟨?_, ?_⟩
              · simp only [Tm.enc, hl, UInt8.ofNat_toNat, List.cons_append, List.take_append_drop]
              · simp only [Tm.ok, hl]; exact h3.1
            · simp [if_neg h3] at h
        · rw [if_neg h2] at h
          by_cases h3 : c = 104
          · rw [if_pos h3] at h
            obtain ⟨p, hp, h⟩ := Option.bind_eq_some_iff.1 h
            simp only [Option.some.injEq, Prod.mk.injEq] at h
            obtain ⟨rfl, rfl⟩ := h
            obtain ⟨e, o⟩ := ih _ _ _ hp
            subst h3
            refine ⟨?_, o⟩
            rw [e]; rfl
          · rw [if_neg h3] at h
            by_cases h4 : isTwo c = true
            · rw [if_pos h4] at h
              obtain ⟨p, hp, h⟩ := Option.bind_eq_some_iff.1 h
              obtain ⟨q, hq, h⟩ := Option.bind_eq_some_iff.1 h
              simp only [Option.some.injEq, Prod.mk.injEq] at h
              obtain ⟨rfl, rfl⟩ := h
              obtain ⟨e1, o1⟩ := ih _ _ _ hp
              obtain ⟨e2, o2⟩ := ih _ _ _ hq
              refine ⟨?_, h4, o1, o2⟩
              rw [e1, e2]; simp [Tm.enc]
            · rw [if_neg h4] at h
              cases h

theorem parse_enc : ∀ (t : Tm) (k : Nat) (r : List UInt8), t.ok → t.depth ≤ k → parse k (t.enc ++ r) = some (t, r)
  | .nonce a b, k, r, _, hk => by
    obtain ⟨k, rfl⟩ : ∃ m, k = m + 1 := ⟨k - 1, by simp [Tm.depth] at hk; omega⟩
    simp [Tm.enc, parse]
  | .const l, k, r, ho, hk => by
    obtain ⟨k, rfl⟩ : ∃ m, k = m + 1 := ⟨k - 1, by simp [Tm.depth] at hk; omega⟩
    have h1 : (UInt8.ofNat l.length).toNat = l.length := by
      simp only [Tm.ok] at ho
      simp only [UInt8.toNat_ofNat']
      omega
    simp only [Tm.enc, List.cons_append, parse, h1]
    rw [if_neg (by decide), if_pos trivial, if_pos ⟨ho, by simp⟩]
    simp
  | .hash t, k, r, ho, hk => by
    obtain ⟨k, rfl⟩ : ∃ m, k = m + 1 := ⟨k - 1, by simp [Tm.depth] at hk; omega⟩
    have := parse_enc t k r ho (by simp [Tm.depth] at hk; omega)
    simp only [Tm.enc, List.cons_append, parse]
    rw [if_neg (by decide), if_neg (by decide), if_pos trivial, this]
    rfl
  | .two c a b, k, r, ho, hk => by
    obtain ⟨k, rfl⟩ : ∃ m, k = m + 1 := ⟨k - 1, by simp [Tm.depth] at hk; omega⟩
    simp only [Tm.ok] at ho
    have h1 := parse_enc a k (b.enc ++ r) ho.2.1 (by simp [Tm.depth] at hk; omega)
    have h2 := parse_enc b k r ho.2.2 (by simp [Tm.depth] at hk; omega)
    have hc := isTwo_ne ho.1
    simp only [Tm.enc, List.cons_append, List.append_assoc, parse]
    rw [if_neg hc.1, if_neg hc.2.1, if_neg hc.2.2, if_pos ho.1, h1]
    simp only [Option.bind_some, h2]

/-- With rounds enough, what is read hangs on the text alone. -/
theorem parse_more : ∀ (k : Nat) (l : List UInt8) (n : Nat), l.length < k → l.length < n → parse k l = parse n l := by
  intro k l n hk hn
  cases h1 : parse k l with
  | some p =>
    obtain ⟨t, r⟩ := p
    obtain ⟨rfl, ho⟩ := parse_sound _ _ _ _ h1
    rw [parse_enc t n r ho (by have := t.depth_le; simp at hn; omega)]
  | none =>
    cases h2 : parse n l with
    | none => rfl
    | some p =>
      obtain ⟨t, r⟩ := p
      obtain ⟨rfl, ho⟩ := parse_sound _ _ _ _ h2
      rw [parse_enc t k r ho (by have := t.depth_le; simp at hk; omega)] at h1
      cases h1

/-- No term's text is the beginning of another one's. -/
theorem enc_prefix {t u : Tm} {r q : List UInt8} (ht : t.ok) (hu : u.ok) (h : t.enc ++ r = u.enc ++ q) : t = u ∧ r = q := by
  have h1 := parse_enc t (t.depth + u.depth) r ht (by omega)
  have h2 := parse_enc u (t.depth + u.depth) q hu (by omega)
  rw [h, h2] at h1
  simp only [Option.some.injEq, Prod.mk.injEq] at h1
  exact ⟨h1.1.symm, h1.2.symm⟩
theorem enc_inj {t u : Tm} (ht : t.ok) (hu : u.ok) (h : t.enc = u.enc) : t = u :=
  (enc_prefix (r := []) (q := []) ht hu (by simpa using h)).1

/-- The text of a term as a string. -/
def strOf (l : List UInt8) : ByteArray := ⟨l.toArray⟩
theorem strOf_data (l : List UInt8) : (strOf l).data.toList = l := by simp [strOf]
theorem strOf_size (l : List UInt8) : (strOf l).size = l.length := by simp [strOf, ByteArray.size]
theorem strOf_of (s : ByteArray) : strOf s.data.toList = s := by simp [strOf]
theorem strOf_inj {a b : List UInt8} (h : strOf a = strOf b) : a = b := by rw [← strOf_data a, h, strOf_data]
def Tm.str (t : Tm) : ByteArray := strOf t.enc

/-- The reading of a whole string: what term it is. -/
def read (s : ByteArray) : Option Tm :=
  match parse (s.size + 1) s.data.toList with
  | some (t, []) => some t
  | _ => none
theorem read_str (t : Tm) (ho : t.ok) : read t.str = some t := by
  unfold read Tm.str
  rw [strOf_data, strOf_size]
  have := parse_enc t (t.enc.length + 1) [] ho (by have := t.depth_le; omega)
  rw [List.append_nil] at this
  rw [this]
theorem read_some {s : ByteArray} {t : Tm} (h : read s = some t) : t.ok ∧ s = t.str := by
  unfold read at h
  cases h1 : parse (s.size + 1) s.data.toList with
  | none => rw [h1] at h; cases h
  | some p =>
    obtain ⟨u, r⟩ := p
    rw [h1] at h
    cases r with
    | cons x r => cases h
    | nil =>
      obtain rfl := Option.some.inj h
      obtain ⟨e, ho⟩ := parse_sound _ _ _ _ h1
      rw [List.append_nil] at e
      exact ⟨ho, by rw [Tm.str, ← e, strOf_of]⟩

/-- How many parts a kind has; -1: it is none. -/
def ar (c : UInt8) : Int := if c = 110 ∨ c = 99 then 0 else if c = 104 then 1 else if isTwo c = true then 2 else -1
/-- What 'Check' answers: 0, 3 (too big), 4 (no term's text). -/
def check (s : ByteArray) : Int :=
  if s.size > 2000 then 3
  else match read s with
    | none => 4
    | some t => if t.depth > 60 then 3 else 0
/-- What 'Subs' answers. -/
def subsOf (s : ByteArray) : List ByteArray × Int :=
  if check s = 0 then ((read s).elim [] fun t => t.subs.map Tm.str, 0) else ([], check s)
theorem check_ok {s : ByteArray} (h : check s = 0) : ∃ t : Tm, read s = some t ∧ t.ok ∧ s = t.str ∧ t.depth ≤ 60 ∧ t.enc.length ≤ 2000 := by
  unfold check at h
  split at h
  · omega
  · rename_i hs
    split at h
    · omega
    · rename_i t ht
      split at h
      · omega
      · obtain ⟨ho, rfl⟩ := read_some ht
        refine ⟨t, ht, ho, rfl, by omega, ?_⟩
        have := strOf_size t.enc
        simp only [Tm.str] at hs
        omega
theorem check_str {t : Tm} (ho : t.ok) (hd : t.depth ≤ 60) (hl : t.enc.length ≤ 2000) : check t.str = 0 := by
  unfold check
  rw [read_str t ho, if_neg (by simp only [Tm.str, strOf_size]; omega)]
  simp only
  rw [if_neg (by omega)]
theorem check_vals (s : ByteArray) : check s = 0 ∨ check s = 3 ∨ check s = 4 := by
  unfold check
  split
  · simp
  · split
    · simp
    · split <;> simp
/-- What 'Parts' answers. -/
def partsOf (s : ByteArray) : Int × List ByteArray × Int :=
  if check s = 0 then (read s).elim (0, [], 0) fun t => ((t.kind.toNat : Int), t.parts.map Tm.str, 0) else (0, [], check s)
theorem partsOf_bad {s : ByteArray} (h : ¬ check s = 0) : partsOf s = (0, [], check s) := by unfold partsOf; rw [if_neg h]
theorem partsOf_ok {s : ByteArray} {t : Tm} (h : check s = 0) (ht : read s = some t) : partsOf s = ((t.kind.toNat : Int), t.parts.map Tm.str, 0) := by unfold partsOf; rw [if_pos h, ht]; rfl
theorem subsOf_bad {s : ByteArray} (h : ¬ check s = 0) : subsOf s = ([], check s) := by unfold subsOf; rw [if_neg h]
theorem subsOf_ok {s : ByteArray} {t : Tm} (h : check s = 0) (ht : read s = some t) : subsOf s = (t.subs.map Tm.str, 0) := by unfold subsOf; rw [if_pos h, ht]; rfl
theorem enc_kind (t : Tm) : ∃ r, t.enc = t.kind :: r := by cases t <;> exact ⟨_, rfl⟩
/-- What 'Make' answers. -/
def makeOf (c : UInt8) (l : List ByteArray) : ByteArray × Int :=
  if ar c < 1 ∨ ar c ≠ (l.length : Int) then (⟨#[]⟩, 2)
  else match l.find? (fun s => decide (check s ≠ 0)) with
    | some s => (⟨#[]⟩, check s)
    | none => if check (strOf (c :: (l.map fun s => s.data.toList).flatten)) = 0 then (strOf (c :: (l.map fun s => s.data.toList).flatten), 0) else (⟨#[]⟩, 3)
end Go.Proofs.Ytinkkiglkjihmaa.TT
