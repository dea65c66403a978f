/- know: the queue's invariant. Plain Lean: no program in sight. -/
import Derived.Test.YtinkkiglkjihmaaKd
set_option linter.unusedVariables false
set_option linter.unusedSimpArgs false
namespace Go.Proofs.Ytinkkiglkjihmaa.Kw
open Go.RowKit TT

theorem nodup_len {α : Type} : ∀ (l m : List α), l.Nodup → (∀ x ∈ l, x ∈ m) → l.length ≤ m.length := by
  intro l
  induction l with
  | nil => intro m _ _; exact Nat.zero_le _
  | cons a l ih =>
    intro m hn hs
    obtain ⟨p, q, rfl⟩ := List.append_of_mem (hs a List.mem_cons_self)
    have h1 := ih (p ++ q) (List.nodup_cons.1 hn).2 (fun x hx => by
      have hxm := hs x (List.mem_cons_of_mem _ hx)
      have hne : x ≠ a := fun e => (List.nodup_cons.1 hn).1 (e ▸ hx)
      simp only [List.mem_append, List.mem_cons] at hxm ⊢
      rcases hxm with h | rfl | h
      · exact .inl h
      · exact absurd rfl hne
      · exact .inr h)
    simp only [List.length_append, List.length_cons] at h1 ⊢
    omega
/-- What was popped: D; the rest of what is had stands in the queue. -/
structure RInv (l : List ByteArray) (a : Lk) (D : List ByteArray) (σ : St) : Prop where
  nd : (D ++ σ.todo).Nodup
  sub : ∀ s ∈ D ++ σ.todo, s ∈ a.U
  has : ∀ s, σ.has s = decide (s ∈ D ++ σ.todo)
  N : σ.N ≤ a.σ.N + (D ++ σ.todo).length
  sound : ∀ s ∈ D ++ σ.todo, Dv l s
/-- What is had stays so. -/
def Up (σ τ : St) : Prop := ∀ s, σ.has s = true → τ.has s = true
theorem Up.refl (σ : St) : Up σ σ := fun _ h => h
theorem Up.trans {σ τ ρ : St} (h : Up σ τ) (k : Up τ ρ) : Up σ ρ := fun s hs => k s (h s hs)
theorem up_get (σ : St) (s : ByteArray) : Up σ (σ.get s) := fun x hx => by rw [get_has, hx, Bool.or_true]
theorem get_self (σ : St) (s : ByteArray) : (σ.get s).has s = true := by rw [get_has]; simp
variable {l : List ByteArray} {a : Lk} {D : List ByteArray} {σ : St}
theorem RInv.mem (h : RInv l a D σ) {s : ByteArray} (hs : σ.has s = true) : s ∈ D ++ σ.todo := by rw [h.has s] at hs; exact of_decide_eq_true hs
theorem RInv.get (h : RInv l a D σ) {s : ByteArray} (hs : s ∈ a.U) (hd : Dv l s) : RInv l a D (σ.get s) := by
  by_cases q : σ.has s = true
  · have : σ.get s = σ := by unfold St.get; rw [if_pos q]
    rw [this]; exact h
  · have e1 := get_todo σ s
    have e2 := get_N σ s
    rw [if_neg q] at e1 e2
    have hn : s ∉ D ++ σ.todo := fun k => q (by rw [h.has s]; exact decide_eq_true k)
    have e3 : D ++ (σ.get s).todo = (D ++ σ.todo) ++ [s] := by rw [e1, List.append_assoc]
    refine ⟨?_, ?_, fun x => ?_, ?_, ?_⟩
    · rw [e3, List.nodup_append]
      exact ⟨h.nd, by simp, fun x hx y hy => by rw [List.mem_singleton.1 hy]; rintro rfl; exact hn hx⟩
    · intro x hx
      rw [e3, List.mem_append, List.mem_singleton] at hx
      rcases hx with hx | rfl
      · exact h.sub x hx
      · exact hs
    · rw [e3, get_has, h.has x]
      by_cases e : x = s <;> simp [e]
    · rw [e3, e2, List.length_append, List.length_singleton]; have := h.N; omega
    · intro x hx
      rw [e3, List.mem_append, List.mem_singleton] at hx
      rcases hx with hx | rfl
      · exact h.sound x hx
      · exact hd
/-- What a universe is like. -/
structure Univ (a : Lk) : Prop where
  parts : ∀ s ∈ a.U, ∀ p ∈ ps s, p ∈ a.U
  ck : ∀ s ∈ a.U, check s = 0
  il : ∀ p s : ByteArray, s ∈ a.IL p.data.toList ↔ s ∈ a.U ∧ p ∈ ps s
  len : a.U.length ≤ a.σ.N
  N : a.σ.N ≤ 20000000
  ill : ∀ k, (a.IL k).length ≤ a.σ.N
theorem RInv.fit (h : RInv l a D σ) (hu : Univ a) : σ.Fit := by
  have h1 := nodup_len _ _ h.nd h.sub
  have h2 := h.N
  have h3 := hu.len
  have h4 := hu.N
  unfold St.Fit
  rw [List.length_append] at h1 h2
  omega
theorem RInv.split (h : RInv l a D σ) (hu : Univ a) {s : ByteArray} (hs : σ.has s = true) :
    RInv l a D (σ.split (b0 s) (ps s)) ∧ Up σ (σ.split (b0 s) (ps s)) ∧ (b0 s = 112 → ∀ p ∈ ps s, (σ.split (b0 s) (ps s)).has p = true) ∧ (b0 s = 115 → ∀ k p, ps s = [k, p] → σ.has k = true → (σ.split (b0 s) (ps s)).has p = true) := by
  have hm := h.mem hs
  have hU := h.sub s hm
  have hd := h.sound s hm
  have hpU := hu.parts s hU
  have hc := hu.ck s hU
  by_cases k1 : b0 s = 112
  · have hl := parts_two hc (.inl k1)
    obtain ⟨x, y, e⟩ : ∃ x y, ps s = [x, y] := by
      unfold ps
      match PFg s.data.toList, hl with
      | [x, y], _ => exact ⟨x, y, rfl⟩
    have es : σ.split (b0 s) (ps s) = (σ.get x).get y := by rw [e, k1]; unfold St.split; rfl
    rw [es]
    have g1 := h.get (hpU x (by rw [e]; simp)) (hd.pair k1 (by rw [e]; simp))
    refine ⟨g1.get (hpU y (by rw [e]; simp)) (hd.pair k1 (by rw [e]; simp)), (up_get _ _).trans (up_get _ _), fun _ p hp => ?_, fun k2 => ?_⟩
    · rw [e] at hp
      rcases List.mem_cons.1 hp with rfl | hp
      · exact up_get _ _ _ (get_self _ _)
      · rw [List.mem_singleton] at hp; subst hp; exact get_self _ _
    · rw [k1] at k2; exact absurd k2 (by decide)
  · by_cases k2 : b0 s = 115
    · have hl := parts_two hc (.inr k2)
      obtain ⟨x, y, e⟩ : ∃ x y, ps s = [x, y] := by
        unfold ps
        match PFg s.data.toList, hl with
        | [x, y], _ => exact ⟨x, y, rfl⟩
      have es : σ.split (b0 s) (ps s) = if σ.has x = true then σ.get y else σ := by rw [e, k2]; unfold St.split; rfl
      rw [es]
      by_cases hx : σ.has x = true
      · rw [if_pos hx]
        refine ⟨h.get (hpU y (by rw [e]; simp)) (hd.opn k2 e (h.sound x (h.mem hx))), up_get _ _, fun q => absurd q k1, fun _ k p hp _ => ?_⟩
        rw [e] at hp
        simp only [List.cons.injEq, and_true] at hp
        obtain ⟨rfl, rfl⟩ := hp
        exact get_self _ _
      · rw [if_neg hx]
        refine ⟨h, Up.refl _, fun q => absurd q k1, fun _ k p hp hk => ?_⟩
        rw [e] at hp
        simp only [List.cons.injEq, and_true] at hp
        obtain ⟨rfl, rfl⟩ := hp
        exact absurd hk hx
    · have es : σ.split (b0 s) (ps s) = σ := by
        unfold St.split
        split
        · rw [if_neg k1, if_neg k2]
        · rfl
      rw [es]
      exact ⟨h, Up.refl _, fun q => absurd q k1, fun q => absurd q k2⟩
theorem RInv.whole (h : RInv l a D σ) (hu : Univ a) {s t : ByteArray} (hs : s ∈ a.U) (ht : t ∈ ps s) :
    RInv l a D (σ.whole s) ∧ Up σ (σ.whole s) ∧ (σ.has s = true → b0 s = 115 → ∀ k p, ps s = [k, p] → σ.has k = true → (σ.whole s).has p = true) ∧ ((∀ p ∈ ps s, σ.has p = true) → (σ.whole s).has s = true) := by
  by_cases h1 : σ.has s = true
  · have e : σ.whole s = σ.split (b0 s) (ps s) := by unfold St.whole; rw [if_pos h1]; rfl
    rw [e]
    obtain ⟨g1, g2, _, g4⟩ := h.split hu h1
    exact ⟨g1, g2, fun _ => g4, fun _ => g2 s h1⟩
  · by_cases h2 : (ps s).all σ.has = true
    · have e : σ.whole s = σ.get s := by unfold St.whole; rw [if_neg h1]; exact if_pos h2
      rw [e]
      rw [List.all_eq_true] at h2
      refine ⟨h.get hs (.built (hu.ck s hs) (fun q => by rw [q] at ht; cases ht) (fun p hp => h.sound p (h.mem (h2 p hp)))), up_get _ _, fun q => absurd q h1, fun _ => get_self _ _⟩
    · have e : σ.whole s = σ := by unfold St.whole; rw [if_neg h1]; exact if_neg h2
      rw [e]
      refine ⟨h, Up.refl _, fun q => absurd q h1, fun q => absurd (List.all_eq_true.2 q) h2⟩
theorem RInv.wholes {t : ByteArray} (hu : Univ a) : ∀ (ws : List ByteArray) (σ : St), RInv l a D σ → (∀ s ∈ ws, s ∈ a.U ∧ t ∈ ps s) →
    RInv l a D (ws.foldl St.whole σ) ∧ Up σ (ws.foldl St.whole σ) ∧ (∀ s ∈ ws, σ.has s = true → b0 s = 115 → ∀ k p, ps s = [k, p] → σ.has k = true → (ws.foldl St.whole σ).has p = true) ∧ (∀ s ∈ ws, (∀ p ∈ ps s, σ.has p = true) → (ws.foldl St.whole σ).has s = true) := by
  intro ws
  induction ws with
  | nil => intro σ h _; exact ⟨h, Up.refl _, fun s hs => (by cases hs), fun s hs => (by cases hs)⟩
  | cons x ws ih =>
    intro σ h hw
    obtain ⟨hx1, hx2⟩ := hw x List.mem_cons_self
    obtain ⟨g1, g2, g3, g4⟩ := h.whole hu hx1 hx2
    obtain ⟨f1, f2, f3, f4⟩ := ih (σ.whole x) g1 (fun s hs => hw s (List.mem_cons_of_mem _ hs))
    rw [List.foldl_cons]
    refine ⟨f1, g2.trans f2, fun s hs h1 h2 k p hp hk => ?_, fun s hs hp => ?_⟩
    · rcases List.mem_cons.1 hs with rfl | hs
      · exact f2 _ (g3 h1 h2 k p hp hk)
      · exact f3 s hs (g2 _ h1) h2 k p hp (g2 _ hk)
    · rcases List.mem_cons.1 hs with rfl | hs
      · exact f2 _ (g4 hp)
      · exact f4 s hs (fun p q => g2 _ (hp p q))
/-- What holds of what was popped. -/
structure Done (a : Lk) (D : List ByteArray) (σ : St) : Prop where
  pair : ∀ s ∈ D, b0 s = 112 → ∀ p ∈ ps s, σ.has p = true
  opn : ∀ s ∈ D, b0 s = 115 → ∀ k p, ps s = [k, p] → k ∈ D → σ.has p = true
  built : ∀ s ∈ a.U, ps s ≠ [] → (∀ p ∈ ps s, p ∈ D) → σ.has s = true
theorem RInv.pop {t : ByteArray} {r : List ByteArray} (h : RInv l a D σ) (ht : σ.todo = t :: r) : RInv l a (D ++ [t]) ⟨σ.H, r, σ.N⟩ := by
  have e : (D ++ [t]) ++ r = D ++ σ.todo := by rw [ht, List.append_assoc]; rfl
  exact ⟨by show ((D ++ [t]) ++ r).Nodup; rw [e]; exact h.nd, fun s hs => h.sub s (by rw [← e]; exact hs), fun s => by show σ.has s = decide (s ∈ (D ++ [t]) ++ r); rw [e]; exact h.has s, by show σ.N ≤ a.σ.N + ((D ++ [t]) ++ r).length; rw [e]; exact h.N, fun s hs => h.sound s (by rw [← e]; exact hs)⟩
theorem Done.pass {t : ByteArray} {r : List ByteArray} (h : RInv l a D σ) (hd : Done a D σ) (hu : Univ a) (ht : σ.todo = t :: r) :
    PassOk a σ t r ∧ RInv l a (D ++ [t]) (σ.pass a.IL t r) ∧ Done a (D ++ [t]) (σ.pass a.IL t r) ∧ Up σ (σ.pass a.IL t r) := by
  have h0 := h.pop ht
  have htm : t ∈ D ++ σ.todo := by rw [ht]; simp
  have hth : σ.has t = true := by rw [h.has t]; exact decide_eq_true htm
  obtain ⟨g1, g2, g3, g4⟩ := h0.split hu (s := t) hth
  have hws : ∀ s ∈ a.IL t.data.toList, s ∈ a.U ∧ t ∈ ps s := fun s hs => (hu.il t s).1 hs
  obtain ⟨f1, f2, f3, f4⟩ := RInv.wholes hu (a.IL t.data.toList) _ g1 hws
  have hp : σ.pass a.IL t r = (a.IL t.data.toList).foldl St.whole ((⟨σ.H, r, σ.N⟩ : St).split (b0 t) (ps t)) := rfl
  have up0 : Up σ ((⟨σ.H, r, σ.N⟩ : St).split (b0 t) (ps t)) := fun s hs => g2 s hs
  rw [hp]
  refine ⟨⟨hu.ck t (h.sub t htm), h.sub t htm, fun s hs => ⟨hu.ck s (hws s hs).1, (hws s hs).1⟩, by have := hu.ill t.data.toList; have := hu.N; omega, h0.fit hu, fun j => ?_⟩, f1, ⟨?_, ?_, ?_⟩, up0.trans f2⟩
  · exact (RInv.wholes hu ((a.IL t.data.toList).take j) _ g1 (fun s hs => hws s (List.mem_of_mem_take hs))).1.fit hu
  · intro s hs hk p q
    rcases List.mem_append.1 hs with hs | hs
    · exact f2 _ (up0 _ (hd.pair s hs hk p q))
    · rw [List.mem_singleton] at hs; subst hs
      exact f2 _ (g3 hk p q)
  · intro s hs hk k p q hkD
    have hasD : ∀ x ∈ D, σ.has x = true := fun x hx => by rw [h.has x]; exact decide_eq_true (List.mem_append_left _ hx)
    rcases List.mem_append.1 hs with hs1 | hs1
    · rcases List.mem_append.1 hkD with hkD1 | hkD1
      · exact f2 _ (up0 _ (hd.opn s hs1 hk k p q hkD1))
      · have e : k = t := List.mem_singleton.1 hkD1
        have hsw : s ∈ a.IL t.data.toList := (hu.il t s).2 ⟨h.sub s (List.mem_append_left _ hs1), by rw [q, e]; simp⟩
        exact f3 s hsw (up0 _ (hasD s hs1)) hk k p q (by rw [e]; exact up0 _ hth)
    · have e : s = t := List.mem_singleton.1 hs1
      rw [e] at hk q
      rcases List.mem_append.1 hkD with hkD1 | hkD1
      · exact f2 _ (g4 hk k p q (hasD k hkD1))
      · have e2 : k = t := List.mem_singleton.1 hkD1
        exact f2 _ (g4 hk k p q (by rw [e2]; exact hth))
  · intro s hs hne hall
    have hasD : ∀ x ∈ D, σ.has x = true := fun x hx => by rw [h.has x]; exact decide_eq_true (List.mem_append_left _ hx)
    by_cases q : ∀ p ∈ ps s, p ∈ D
    · exact f2 _ (up0 _ (hd.built s hs hne q))
    · have hts : t ∈ ps s := by
        refine Classical.byContradiction fun hn => q fun p hp => ?_
        rcases List.mem_append.1 (hall p hp) with h1 | h1
        · exact h1
        · have e : p = t := List.mem_singleton.1 h1
          rw [e] at hp; exact absurd hp hn
      refine f4 s ((hu.il t s).2 ⟨hs, hts⟩) (fun p hp => up0 _ ?_)
      rcases List.mem_append.1 (hall p hp) with h1 | h1
      · exact hasD p h1
      · have e : p = t := List.mem_singleton.1 h1
        rw [e]; exact hth
/-- The invariant as the walk asks for it. -/
def QInv (l : List ByteArray) (a : Lk) (k : Nat) (σ : St) : Prop := ∃ D, RInv l a D σ ∧ Done a D σ ∧ Up a.σ σ ∧ D.length + k = a.U.length
theorem QInv.step {k : Nat} {t : ByteArray} {r : List ByteArray} (hu : Univ a) (h : QInv l a k σ) (ht : σ.todo = t :: r) : PassOk a σ t r ∧ ∃ k', k = k' + 1 ∧ QInv l a k' (σ.pass a.IL t r) := by
  obtain ⟨D, h1, h2, h3, h4⟩ := h
  obtain ⟨g1, g2, g3, g4⟩ := Done.pass h1 h2 hu ht
  refine ⟨g1, ?_⟩
  have h5 := nodup_len _ _ h1.nd h1.sub
  rw [ht, List.length_append, List.length_cons] at h5
  exact ⟨k - 1, by omega, D ++ [t], g2, g3, h3.trans g4, by rw [List.length_append, List.length_singleton]; omega⟩
/-- Where the queue has come to its end. -/
theorem QInv.done {k : Nat} (hu : Univ a) (h : QInv l a k σ) (ht : σ.todo = []) (hl : ∀ s ∈ l, a.σ.has s = true) (hc : ∀ s ∈ a.U, b0 s = 99 → a.σ.has s = true) :
    ∀ t ∈ a.U, (σ.has t = true ↔ Dv l t) := by
  obtain ⟨D, h1, h2, h3, h4⟩ := h
  have hD : ∀ s, σ.has s = true ↔ s ∈ D := fun s => by rw [h1.has s, ht, List.append_nil, decide_eq_true_iff]
  have hs : Shut l a.U D :=
    ⟨hu.parts, hu.ck, fun s hs => h1.sub s (List.mem_append_left _ hs), fun s hs => (hD s).1 (h3 s (hl s hs)), fun s hs hk => (hD s).1 (h3 s (hc s hs hk)), fun s hs hne hp => (hD s).1 (h2.built s hs hne hp), fun s hs hk p hp => (hD p).1 (h2.pair s hs hk p hp), fun s hs hk k p hp hk2 => (hD p).1 (h2.opn s hs hk k p hp hk2)⟩
  intro t ht2
  rw [hD t]
  exact hs.iff (fun s hs => h1.sound s (List.mem_append_left _ hs)) ht2
theorem QInv.has_U {k : Nat} (h : QInv l a k σ) {t : ByteArray} (ht : σ.has t = true) : t ∈ a.U := by
  obtain ⟨D, h1, _⟩ := h
  exact h1.sub t (h1.mem ht)
theorem QInv.first (hi : LInv l a) : QInv l a a.U.length a.σ := by
  refine ⟨[], ⟨hi.nd, hi.sub, fun s => hi.has s, Nat.le_add_right _ _, hi.sound⟩, ⟨fun s hs => (by cases hs), fun s hs => (by cases hs), fun s _ hne hp => ?_⟩, Up.refl _, by simp⟩
  cases hps : ps s with
  | nil => exact absurd hps hne
  | cons p r => exact absurd (hp p (by rw [hps]; simp)) (by simp)
/-- The queue's run, reckoned. -/
def runF (a : Lk) : Nat → St → St
  | 0, σ => σ
  | n + 1, σ => match σ.todo with
    | [] => σ
    | t :: r => runF a n (σ.pass a.IL t r)
theorem runF_ok (hu : Univ a) : ∀ (k n : Nat) (σ : St), k ≤ n → QInv l a k σ → ∃ k', QInv l a k' (runF a n σ) ∧ (runF a n σ).todo = [] := by
  intro k n
  induction n generalizing k with
  | zero =>
    intro σ hk h
    cases ht : σ.todo with
    | nil => exact ⟨k, h, ht⟩
    | cons t r =>
      obtain ⟨_, k', h1, _⟩ := h.step hu ht
      omega
  | succ n ih =>
    intro σ hk h
    cases ht : σ.todo with
    | nil =>
      have e : runF a (n + 1) σ = σ := by unfold runF; rw [ht]
      rw [e]; exact ⟨k, h, ht⟩
    | cons t r =>
      have e : runF a (n + 1) σ = runF a n (σ.pass a.IL t r) := by
        conv => lhs; unfold runF
        rw [ht]
      rw [e]
      obtain ⟨_, k', h1, h2⟩ := h.step hu ht
      exact ih k' _ (by omega) h2
def Lk.last (a : Lk) : St := runF a a.U.length a.σ
theorem last_iff (hu : Univ a) (hi : LInv l a) (hl : ∀ s ∈ l, a.σ.has s = true) (hc : ∀ s ∈ a.U, b0 s = 99 → a.σ.has s = true) : ∀ t ∈ a.U, (a.last.has t = true ↔ Dv l t) := by
  obtain ⟨k', h1, h2⟩ := runF_ok hu a.U.length a.U.length a.σ (Nat.le_refl _) (QInv.first hi)
  exact h1.done hu h2 hl hc
end Go.Proofs.Ytinkkiglkjihmaa.Kw
