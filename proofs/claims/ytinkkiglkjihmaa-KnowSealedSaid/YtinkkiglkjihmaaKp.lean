/- know: plain facts on terms' texts and on what look gathers. No program in sight but for the texts' parts. -/
import Derived.Test.YtinkkiglkjihmaaKl
set_option linter.unusedVariables false
set_option linter.unusedSimpArgs false
namespace Go.Proofs.Ytinkkiglkjihmaa.Kw
open Go.RowKit TT

theorem subs_ok : ∀ (t : Tm) (u : Tm), u ∈ t.subs → t.ok → u.ok ∧ u.depth ≤ t.depth ∧ u.enc.length ≤ t.enc.length
  | .nonce a b, u, h, ho => by simp only [Tm.subs, List.mem_singleton] at h; subst h; exact ⟨ho, Nat.le_refl _, Nat.le_refl _⟩
  | .const l, u, h, ho => by simp only [Tm.subs, List.mem_singleton] at h; subst h; exact ⟨ho, Nat.le_refl _, Nat.le_refl _⟩
  | .hash t, u, h, ho => by
    simp only [Tm.subs, List.mem_cons] at h
    rcases h with rfl | h
    · exact ⟨ho, Nat.le_refl _, Nat.le_refl _⟩
    · obtain ⟨h1, h2, h3⟩ := subs_ok t u h ho
      exact ⟨h1, by simp only [Tm.depth]; omega, by simp only [Tm.enc, List.length_cons]; omega⟩
  | .two k a b, u, h, ho => by
    simp only [Tm.subs, List.mem_cons, List.mem_append] at h
    rcases h with rfl | h | h
    · exact ⟨ho, Nat.le_refl _, Nat.le_refl _⟩
    · obtain ⟨h1, h2, h3⟩ := subs_ok a u h ho.2.1
      exact ⟨h1, by simp only [Tm.depth]; omega, by simp only [Tm.enc, List.length_cons, List.length_append]; omega⟩
    · obtain ⟨h1, h2, h3⟩ := subs_ok b u h ho.2.2
      exact ⟨h1, by simp only [Tm.depth]; omega, by simp only [Tm.enc, List.length_cons, List.length_append]; omega⟩
theorem check_iff (s : ByteArray) : check s = 0 ↔ ∃ t : Tm, t.ok ∧ s = t.str ∧ t.depth ≤ 60 ∧ t.enc.length ≤ 2000 := by
  constructor
  · intro h
    obtain ⟨t, _, h1, h2, h3, h4⟩ := check_ok h
    exact ⟨t, h1, h2, h3, h4⟩
  · rintro ⟨t, h1, rfl, h3, h4⟩
    exact check_str h1 h3 h4
theorem subsOf_str {t : Tm} (ho : t.ok) (hd : t.depth ≤ 60) (hl : t.enc.length ≤ 2000) : subsOf t.str = (t.subs.map Tm.str, 0) := subsOf_ok (check_str ho hd hl) (read_str t ho)
theorem partsOf_str {t : Tm} (ho : t.ok) (hd : t.depth ≤ 60) (hl : t.enc.length ≤ 2000) : partsOf t.str = ((t.kind.toNat : Int), t.parts.map Tm.str, 0) := partsOf_ok (check_str ho hd hl) (read_str t ho)
theorem PFg_of (s : ByteArray) : PFg s.data.toList = (partsOf s).2.1 := by unfold PFg; rw [strOf_of]
theorem PFg_str {t : Tm} (ho : t.ok) (hd : t.depth ≤ 60) (hl : t.enc.length ≤ 2000) : PFg t.str.data.toList = t.parts.map Tm.str := by rw [PFg_of, partsOf_str ho hd hl]
theorem check_subs {s x : ByteArray} (h : check s = 0) (hx : x ∈ (subsOf s).1) : check x = 0 := by
  obtain ⟨t, h1, rfl, h3, h4⟩ := (check_iff s).1 h
  rw [subsOf_str h1 h3 h4] at hx
  obtain ⟨u, hu, rfl⟩ := List.mem_map.1 hx
  obtain ⟨k1, k2, k3⟩ := subs_ok t u hu h1
  exact check_str k1 (by omega) (by omega)
theorem subs_count {s : ByteArray} (h : check s = 0) : (subsOf s).1.length ≤ 2000 := by
  obtain ⟨t, h1, rfl, h3, h4⟩ := (check_iff s).1 h
  rw [subsOf_str h1 h3 h4, List.length_map]
  have := t.subs_len
  omega
theorem parts_subs {t u : Tm} (h : u ∈ t.parts) : u ∈ t.subs := by
  obtain ⟨r, h1, h2⟩ := t.subs_eq
  rw [h1, h2]
  refine List.mem_cons_of_mem _ (List.mem_flatten.2 ⟨u.subs, List.mem_map.2 ⟨u, h, rfl⟩, ?_⟩)
  obtain ⟨r', h1', _⟩ := u.subs_eq
  rw [h1']; exact List.mem_cons_self
theorem check_part {s x : ByteArray} (h : check s = 0) (hx : x ∈ PFg s.data.toList) : check x = 0 := by
  obtain ⟨t, h1, rfl, h3, h4⟩ := (check_iff s).1 h
  rw [PFg_str h1 h3 h4] at hx
  obtain ⟨u, hu, rfl⟩ := List.mem_map.1 hx
  obtain ⟨k1, k2, k3⟩ := subs_ok t u (parts_subs hu) h1
  exact check_str k1 (by omega) (by omega)
theorem check_size {s : ByteArray} (h : check s = 0) : 0 < s.size ∧ s.size ≤ 2000 := by
  obtain ⟨t, h1, rfl, h3, h4⟩ := (check_iff s).1 h
  have := t.enc_pos
  rw [Tm.str, strOf_size]; omega
theorem parts_count {s : ByteArray} (h : check s = 0) : (PFg s.data.toList).length ≤ 2 := by
  obtain ⟨t, h1, rfl, h3, h4⟩ := (check_iff s).1 h
  rw [PFg_str h1 h3 h4, List.length_map]
  cases t <;> simp [Tm.parts]
/-- A text's first byte. -/
def b0 (s : ByteArray) : UInt8 := s.data.toList.headD 0
theorem b0_str (t : Tm) : b0 t.str = t.kind := by
  unfold b0
  rw [Tm.str, strOf_data]
  obtain ⟨r, hr⟩ := enc_kind t
  rw [hr]; rfl
theorem b0_at (s : ByteArray) (h : 0 < s.size) : s[0]'h = b0 s := by
  obtain ⟨⟨l⟩⟩ := s
  cases l with
  | nil => exact absurd h (by simp [ByteArray.size])
  | cons x l => rfl
theorem parts_two {s : ByteArray} (h : check s = 0) (hk : b0 s = 112 ∨ b0 s = 115) : (PFg s.data.toList).length = 2 := by
  obtain ⟨t, h1, rfl, h3, h4⟩ := (check_iff s).1 h
  rw [PFg_str h1 h3 h4, List.length_map]
  rw [b0_str] at hk
  cases t with
  | nonce a b => simp [Tm.kind] at hk
  | const l => simp [Tm.kind] at hk
  | hash t => simp [Tm.kind] at hk
  | two k a b => rfl

instance decText : DecidableEq ByteArray := fun a b => decidable_of_iff (a.data = b.data) ⟨fun h => ByteArray.ext h, fun h => by rw [h]⟩
instance decMem (s : ByteArray) (l : List ByteArray) : Decidable (s ∈ l) := decidable_of_iff (l.any (fun x => decide (x = s)) = true) (by rw [List.any_eq_true]; exact ⟨fun ⟨x, h1, h2⟩ => by rw [← of_decide_eq_true h2]; exact h1, fun h => ⟨s, h, decide_eq_true rfl⟩⟩)
/-! ### What look gathers -/
structure Lk where
  σ : St
  U : List ByteArray
  IL : List UInt8 → List ByteArray
def Lk.wholes (a : Lk) (s : ByteArray) (ps : List ByteArray) : List UInt8 → List ByteArray := ps.foldl (fun f p => addIn f p s) a.IL
def Lk.one (a : Lk) (s : ByteArray) : Lk :=
  if s ∈ a.U then a
  else ⟨if b0 s = 99 then (⟨a.σ.H, a.σ.todo, a.σ.N + 1 + (PFg s.data.toList).length⟩ : St).get s else ⟨a.σ.H, a.σ.todo, a.σ.N + 1 + (PFg s.data.toList).length⟩, a.U ++ [s], a.wholes s (PFg s.data.toList)⟩
def Lk.look (a : Lk) (l : List ByteArray) : Lk := l.foldl Lk.one a
theorem addIn_len (f : List UInt8 → List ByteArray) (p s : ByteArray) (k : List UInt8) : (addIn f p s k).length ≤ (f k).length + 1 := by unfold addIn; split <;> simp
theorem wholes_len (f : List UInt8 → List ByteArray) (s : ByteArray) (ps : List ByteArray) (k : List UInt8) : (ps.foldl (fun f p => addIn f p s) f k).length ≤ (f k).length + ps.length := by
  induction ps generalizing f with
  | nil => simp
  | cons p ps ih => rw [List.foldl_cons]; have := ih (addIn f p s); have := addIn_len f p s k; simp; omega
/-- How far it has come. -/
structure Lk.Fits (a : Lk) : Prop where
  il : ∀ k, (a.IL k).length ≤ a.σ.N
  todo : a.σ.todo.length ≤ a.σ.N
theorem Lk.one_N (a : Lk) (s : ByteArray) (h : check s = 0) : (a.one s).σ.N ≤ a.σ.N + 4 := by
  have h1 := parts_count h
  unfold Lk.one
  split
  · omega
  · split
    · have := (⟨a.σ.H, a.σ.todo, a.σ.N + 1 + (PFg s.data.toList).length⟩ : St).get_N s
      simp only at this ⊢; omega
    · simp only; omega
theorem Lk.Fits.one {a : Lk} (h : a.Fits) (s : ByteArray) (hc : check s = 0) : (a.one s).Fits := by
  have h1 := h.il
  have h2 := h.todo
  have h3 := parts_count hc
  unfold Lk.one
  split
  · exact h
  · have key : ∀ k, (a.wholes s (PFg s.data.toList) k).length ≤ a.σ.N + (PFg s.data.toList).length := fun k => by have := wholes_len a.IL s (PFg s.data.toList) k; have := h1 k; unfold Lk.wholes; omega
    split
    · unfold St.get
      split
      · exact ⟨fun k => by have := key k; simp only; omega, by simp only; omega⟩
      · exact ⟨fun k => by have := key k; simp only; omega, by simp only [List.length_append, List.length_singleton]; omega⟩
    · exact ⟨fun k => by have := key k; simp only; omega, by simp only; omega⟩
theorem Lk.look_N (a : Lk) (l : List ByteArray) (h : ∀ s ∈ l, check s = 0) : (a.look l).σ.N ≤ a.σ.N + 4 * l.length := by
  induction l generalizing a with
  | nil => simp [Lk.look]
  | cons s l ih =>
    have h1 := a.one_N s (h s List.mem_cons_self)
    have h2 := ih (a.one s) (fun x hx => h x (List.mem_cons_of_mem _ hx))
    simp only [Lk.look, List.foldl_cons, List.length_cons] at h2 ⊢
    omega
theorem Lk.Fits.look {a : Lk} (h : a.Fits) (l : List ByteArray) (hc : ∀ s ∈ l, check s = 0) : (a.look l).Fits := by
  induction l generalizing a with
  | nil => exact h
  | cons s l ih => exact ih (h.one s (hc s List.mem_cons_self)) (fun x hx => hc x (List.mem_cons_of_mem _ hx))
/-- The state: what was gathered. -/
def KU (X : Xs) (base wb bh bm bi : Nat) (w : World) (a : Lk) : Prop :=
  ∃ M I, KX X base wb bh bm bi w M I PFg a.IL a.σ ∧ (∀ s : ByteArray, (M s.data.toList).isSome = decide (s ∈ a.U)) ∧ ∀ k, I k = none → a.IL k = []
theorem KU.below {X : Xs} {base wb bh bm bi : Nat} {w w' : World} {a : Lk} (h : KU X base wb bh bm bi w a) (hb : RowKit.Below w.heap.size w w') : KU X base wb bh bm bi w' a := by
  obtain ⟨M, I, h1, h2, h3⟩ := h
  exact ⟨M, I, h1.below hb, h2, h3⟩
theorem KU.less {X X' : Xs} {base wb bh bm bi : Nat} {w : World} {a : Lk} (h : KU X base wb bh bm bi w a) (hx : ∀ v xs, X' v xs → X v xs) : KU X' base wb bh bm bi w a := by
  obtain ⟨M, I, h1, h2, h3⟩ := h
  exact ⟨M, I, h1.less hx, h2, h3⟩
theorem KU.more {X : Xs} {base wb bh bm bi : Nat} {w w1 : World} {a : Lk} (h : KU X base wb bh bm bi w a) (hb : RowKit.Below w.heap.size w w1) {v : Value} {xs : List ByteArray} (hv : QRow w.heap.size w1 v xs) :
    KU (fun u ys => X u ys ∨ (u = v ∧ ys = xs)) base wb bh bm bi w1 a := by
  obtain ⟨M, I, h1, h2, h3⟩ := h
  exact ⟨M, I, h1.more hb hv, h2, h3⟩
end Go.Proofs.Ytinkkiglkjihmaa.Kw
