/- know: what can be come to, and that the queue comes to just that. Plain Lean: no program in sight. -/
import Derived.Test.YtinkkiglkjihmaaKo
set_option linter.unusedVariables false
set_option linter.unusedSimpArgs false
namespace Go.Proofs.Ytinkkiglkjihmaa.Kw
open Go.RowKit TT

def ps (s : ByteArray) : List ByteArray := PFg s.data.toList
/-- What one can come to who has l. -/
inductive Dv (l : List ByteArray) : ByteArray → Prop
  | mem {s : ByteArray} : s ∈ l → Dv l s
  | const {s : ByteArray} : check s = 0 → b0 s = 99 → Dv l s
  | built {s : ByteArray} : check s = 0 → ps s ≠ [] → (∀ p ∈ ps s, Dv l p) → Dv l s
  | pair {s p : ByteArray} : Dv l s → b0 s = 112 → p ∈ ps s → Dv l p
  | opn {s k p : ByteArray} : Dv l s → b0 s = 115 → ps s = [k, p] → Dv l k → Dv l p
theorem Dv.check {l : List ByteArray} (hl : ∀ s ∈ l, check s = 0) {s : ByteArray} (h : Dv l s) : TT.check s = 0 := by
  induction h with
  | mem h => exact hl _ h
  | const h _ => exact h
  | built h _ _ _ => exact h
  | pair _ _ hp ih => exact check_part ih hp
  | opn _ _ hp _ ih _ => exact check_part ih (show _ ∈ ps _ by rw [hp]; simp)
theorem const_ps {s : ByteArray} (h : check s = 0) (hk : b0 s = 99) : ps s = [] := by
  obtain ⟨t, h1, rfl, h3, h4⟩ := (check_iff s).1 h
  unfold ps
  rw [PFg_str h1 h3 h4]
  rw [b0_str] at hk
  cases t with
  | nonce a b => rfl
  | const l => rfl
  | hash t => simp [Tm.kind] at hk
  | two k a b => have := h1.1; simp only [Tm.kind] at hk; subst hk; simp [isTwo] at this
/-- A set that is closed by the rules in a universe is all of it that can be come to. -/
structure Shut (l U C : List ByteArray) : Prop where
  parts : ∀ s ∈ U, ∀ p ∈ ps s, p ∈ U
  ck : ∀ s ∈ U, check s = 0
  sub : ∀ s ∈ C, s ∈ U
  mem : ∀ s ∈ l, s ∈ C
  const : ∀ s ∈ U, b0 s = 99 → s ∈ C
  built : ∀ s ∈ U, ps s ≠ [] → (∀ p ∈ ps s, p ∈ C) → s ∈ C
  pair : ∀ s ∈ C, b0 s = 112 → ∀ p ∈ ps s, p ∈ C
  opn : ∀ s ∈ C, b0 s = 115 → ∀ k p, ps s = [k, p] → k ∈ C → p ∈ C
inductive Syn (C : List ByteArray) : ByteArray → Prop
  | mem {s : ByteArray} : s ∈ C → Syn C s
  | const {s : ByteArray} : check s = 0 → b0 s = 99 → Syn C s
  | built {s : ByteArray} : check s = 0 → ps s ≠ [] → (∀ p ∈ ps s, Syn C p) → Syn C s
theorem Shut.syn_in {l U C : List ByteArray} (h : Shut l U C) {t : ByteArray} (hs : Syn C t) : t ∈ U → t ∈ C := by
  induction hs with
  | mem h => exact fun _ => h
  | const _ hk => exact fun hU => h.const _ hU hk
  | built _ hp _ ih => exact fun hU => h.built _ hU hp (fun p hq => ih p hq (h.parts _ hU p hq))
theorem Shut.syn {l U C : List ByteArray} (h : Shut l U C) {t : ByteArray} (hd : Dv l t) : Syn C t := by
  induction hd with
  | mem hm => exact .mem (h.mem _ hm)
  | const h1 h2 => exact .const h1 h2
  | built h1 h2 _ ih => exact .built h1 h2 ih
  | pair _ hk hp ih =>
    cases ih with
    | mem hm => exact .mem (h.pair _ hm hk _ hp)
    | const _ hk2 => rw [hk] at hk2; exact absurd hk2 (by decide)
    | built _ _ hb => exact hb _ hp
  | opn _ hk hp _ ih1 ih2 =>
    cases ih1 with
    | mem hm => exact .mem (h.opn _ hm hk _ _ hp (h.syn_in ih2 (h.parts _ (h.sub _ hm) _ (by rw [hp]; simp))))
    | const _ hk2 => rw [hk] at hk2; exact absurd hk2 (by decide)
    | built _ _ hb => exact hb _ (by rw [hp]; simp)
theorem Shut.iff {l U C : List ByteArray} (h : Shut l U C) (hd : ∀ s ∈ C, Dv l s) {t : ByteArray} (ht : t ∈ U) : t ∈ C ↔ Dv l t :=
  ⟨fun hc => hd t hc, fun hv => h.syn_in (h.syn hv) ht⟩

/-! ### look -/
structure LInv (l : List ByteArray) (a : Lk) : Prop where
  ck : ∀ s ∈ a.U, check s = 0
  il : ∀ p s : ByteArray, s ∈ a.IL p.data.toList ↔ s ∈ a.U ∧ p ∈ ps s
  len : a.U.length ≤ a.σ.N
  cst : ∀ s ∈ a.U, b0 s = 99 → s ∈ a.σ.todo
  nd : a.σ.todo.Nodup
  has : ∀ s, a.σ.has s = decide (s ∈ a.σ.todo)
  sub : ∀ s ∈ a.σ.todo, s ∈ a.U
  sound : ∀ s ∈ a.σ.todo, Dv l s
theorem start_inv (l : List ByteArray) : LInv l Lk.start := by
  refine ⟨?_, fun p s => ⟨?_, ?_⟩, Nat.le_refl _, ?_, List.nodup_nil, fun s => rfl, ?_, ?_⟩
  · intro s h; cases h
  · intro h; cases h
  · intro h; cases h.1
  · intro s h; cases h
  · intro s h; cases h
  · intro s h; cases h
theorem put_has (H : List UInt8 → Option Value) (s x : ByteArray) (v : Value) : (put H s.data.toList v x.data.toList).isSome = (decide (x = s) || (H x.data.toList).isSome) := by
  unfold put
  by_cases e : x = s
  · subst e; rw [if_pos rfl]; simp
  · rw [if_neg (fun q => e (data_inj q))]; simp [e]
theorem get_has (σ : St) (s x : ByteArray) : (σ.get s).has x = (decide (x = s) || σ.has x) := by
  unfold St.get
  by_cases h : σ.has s = true
  · rw [if_pos h]
    by_cases e : x = s
    · subst e; rw [h]; simp
    · simp [e]
  · rw [if_neg h]
    exact put_has σ.H s x _
theorem get_todo (σ : St) (s : ByteArray) : (σ.get s).todo = if σ.has s = true then σ.todo else σ.todo ++ [s] := by
  unfold St.get; split <;> rfl
theorem get_N (σ : St) (s : ByteArray) : (σ.get s).N = if σ.has s = true then σ.N else σ.N + 1 := by
  unfold St.get; split <;> rfl
theorem wholes_mem (s : ByteArray) : ∀ (l : List ByteArray) (f : List UInt8 → List ByteArray) (p x : ByteArray), x ∈ l.foldl (fun f p => addIn f p s) f p.data.toList ↔ x ∈ f p.data.toList ∨ (x = s ∧ p ∈ l) := by
  intro l
  induction l with
  | nil => intro f p x; simp
  | cons q l ih =>
    intro f p x
    rw [List.foldl_cons, ih]
    unfold addIn
    by_cases e : p = q
    · subst e
      rw [if_pos rfl, List.mem_append, List.mem_singleton, List.mem_cons]
      simp only [true_or, and_true]
      constructor
      · rintro ((h | h) | h)
        · exact .inl h
        · exact .inr h
        · exact .inr h.1
      · rintro (h | h)
        · exact .inl (.inl h)
        · exact .inl (.inr h)
    · rw [if_neg (fun k => e (data_inj k)), List.mem_cons]
      simp [e]
theorem LInv.get {l : List ByteArray} {a : Lk} (h : LInv l a) (s : ByteArray) (hs : s ∈ a.U) (hd : Dv l s) : LInv l (a.getT s) := by
  have h1 := get_todo a.σ s
  have h2 := get_N a.σ s
  have hh := h.has s
  by_cases q : a.σ.has s = true
  · have : a.getT s = a := by unfold Lk.getT St.get; rw [if_pos q]
    rw [this]; exact h
  · rw [if_neg q] at h1 h2
    have hn : s ∉ a.σ.todo := fun k => q (by rw [hh]; exact decide_eq_true k)
    unfold Lk.getT
    refine ⟨h.ck, h.il, by simp only [h2]; have := h.len; omega, fun x hx hk => by simp only [h1]; exact List.mem_append_left _ (h.cst x hx hk), ?_, fun x => ?_, fun x hx => ?_, fun x hx => ?_⟩
    · simp only [h1]
      rw [List.nodup_append]
      exact ⟨h.nd, by simp, fun x hx y hy => by rw [List.mem_singleton.1 hy]; rintro rfl; exact hn hx⟩
    · simp only [h1, get_has, h.has x]
      by_cases e : x = s <;> simp [e]
    · simp only [h1, List.mem_append, List.mem_singleton] at hx
      rcases hx with hx | rfl
      · exact h.sub x hx
      · exact hs
    · simp only [h1, List.mem_append, List.mem_singleton] at hx
      rcases hx with hx | rfl
      · exact h.sound x hx
      · exact hd
theorem LInv.one {l : List ByteArray} {a : Lk} (h : LInv l a) (s : ByteArray) (hs : check s = 0) : LInv l (a.one s) := by
  by_cases hm : s ∈ a.U
  · have : a.one s = a := by unfold Lk.one; rw [if_pos hm]
    rw [this]; exact h
  · have hb : ∀ N, a.σ.N + 1 ≤ N → (b0 s = 99 → False) → LInv l ⟨⟨a.σ.H, a.σ.todo, N⟩, a.U ++ [s], a.wholes s (ps s)⟩ := by
      intro N hN hk
      refine ⟨fun x hx => ?_, fun p x => ?_, ?_, fun x hx hk2 => ?_, h.nd, h.has, fun x hx => List.mem_append_left _ (h.sub x hx), h.sound⟩
      · simp only [List.mem_append, List.mem_singleton] at hx
        rcases hx with hx | rfl
        · exact h.ck x hx
        · exact hs
      · simp only [Lk.wholes, wholes_mem, h.il, List.mem_append, List.mem_singleton]
        constructor
        · rintro (⟨h1, h2⟩ | ⟨rfl, h2⟩)
          · exact ⟨.inl h1, h2⟩
          · exact ⟨.inr rfl, h2⟩
        · rintro ⟨h1 | rfl, h2⟩
          · exact .inl ⟨h1, h2⟩
          · exact .inr ⟨rfl, h2⟩
      · simp only [List.length_append, List.length_singleton]; have := h.len; omega
      · simp only [List.mem_append, List.mem_singleton] at hx
        rcases hx with hx | rfl
        · exact h.cst x hx hk2
        · exact (hk hk2).elim
    by_cases hk : b0 s = 99
    · have e : a.one s = Lk.getT ⟨⟨a.σ.H, a.σ.todo, a.σ.N + 1 + (ps s).length⟩, a.U ++ [s], a.wholes s (ps s)⟩ s := by unfold Lk.one; rw [if_neg hm, if_pos hk]; rfl
      rw [e]
      have hps := const_ps hs hk
      have hn : s ∉ a.σ.todo := fun k => hm (h.sub s k)
      have hf : ¬ St.has ⟨a.σ.H, a.σ.todo, a.σ.N + 1 + (ps s).length⟩ s = true := by
        show ¬ a.σ.has s = true
        rw [h.has s]; simpa using hn
      have e1 := get_todo ⟨a.σ.H, a.σ.todo, a.σ.N + 1 + (ps s).length⟩ s
      have e2 := get_N ⟨a.σ.H, a.σ.todo, a.σ.N + 1 + (ps s).length⟩ s
      rw [if_neg hf] at e1 e2
      unfold Lk.getT
      refine ⟨fun x hx => ?_, fun p x => ?_, ?_, fun x hx hk2 => ?_, ?_, fun x => ?_, fun x hx => ?_, fun x hx => ?_⟩
      · simp only [List.mem_append, List.mem_singleton] at hx
        rcases hx with hx | rfl
        · exact h.ck x hx
        · exact hs
      · simp only [Lk.wholes, wholes_mem, h.il, List.mem_append, List.mem_singleton]
        constructor
        · rintro (⟨h1, h2⟩ | ⟨rfl, h2⟩)
          · exact ⟨.inl h1, h2⟩
          · exact ⟨.inr rfl, h2⟩
        · rintro ⟨h1 | rfl, h2⟩
          · exact .inl ⟨h1, h2⟩
          · exact .inr ⟨rfl, h2⟩
      · simp only [e2, List.length_append, List.length_singleton]; have := h.len; omega
      · simp only [e1, List.mem_append, List.mem_singleton] at hx ⊢
        rcases hx with hx | rfl
        · exact .inl (h.cst x hx hk2)
        · exact .inr rfl
      · simp only [e1]
        rw [List.nodup_append]
        exact ⟨h.nd, by simp, fun x hx y hy => by rw [List.mem_singleton.1 hy]; rintro rfl; exact hn hx⟩
      · simp only [e1, get_has]
        have := h.has x
        unfold St.has at this ⊢
        simp only [this]
        by_cases e : x = s <;> simp [e]
      · simp only [e1, List.mem_append, List.mem_singleton] at hx ⊢
        rcases hx with hx | rfl
        · exact .inl (h.sub x hx)
        · exact .inr rfl
      · simp only [e1, List.mem_append, List.mem_singleton] at hx
        rcases hx with hx | rfl
        · exact h.sound x hx
        · exact .const hs hk
    · have e : a.one s = ⟨⟨a.σ.H, a.σ.todo, a.σ.N + 1 + (ps s).length⟩, a.U ++ [s], a.wholes s (ps s)⟩ := by unfold Lk.one; rw [if_neg hm, if_neg hk]; rfl
      rw [e]
      exact hb _ (by omega) hk
theorem one_U (a : Lk) (s x : ByteArray) : x ∈ (a.one s).U ↔ x ∈ a.U ∨ x = s := by
  unfold Lk.one
  split
  · rename_i h
    exact ⟨.inl, fun k => k.elim id (fun e => by rw [e]; exact h)⟩
  · simp
theorem look_U (l : List ByteArray) (a : Lk) (x : ByteArray) : x ∈ (a.look l).U ↔ x ∈ a.U ∨ x ∈ l := by
  induction l generalizing a with
  | nil => simp [Lk.look]
  | cons s l ih =>
    show x ∈ ((a.one s).look l).U ↔ _
    rw [ih, one_U, List.mem_cons, or_assoc]
theorem LInv.look {l : List ByteArray} {a : Lk} (h : LInv l a) (m : List ByteArray) (hm : ∀ s ∈ m, check s = 0) : LInv l (a.look m) := by
  induction m generalizing a with
  | nil => exact h
  | cons s m ih => exact ih (h.one s (hm s List.mem_cons_self)) (fun x hx => hm x (List.mem_cons_of_mem _ hx))
theorem LInv.adds {l : List ByteArray} {a : Lk} (h : LInv l a) (m : List ByteArray) (hm : ∀ s ∈ m, check s = 0) : LInv l (m.foldl Lk.addT a) ∧ ∀ x, x ∈ (m.foldl Lk.addT a).U ↔ x ∈ a.U ∨ ∃ t ∈ m, x ∈ (subsOf t).1 := by
  induction m generalizing a with
  | nil => exact ⟨h, fun x => by simp⟩
  | cons s m ih =>
    obtain ⟨h1, h2⟩ := ih (h.look (subsOf s).1 (fun x hx => check_subs (hm s List.mem_cons_self) hx)) (fun x hx => hm x (List.mem_cons_of_mem _ hx))
    refine ⟨h1, fun x => ?_⟩
    have := h2 x
    rw [look_U] at this
    rw [List.foldl_cons]
    show x ∈ (m.foldl Lk.addT (a.look (subsOf s).1)).U ↔ _
    rw [this]
    simp [or_assoc]
theorem LInv.gets {l : List ByteArray} {a : Lk} (h : LInv l a) (m : List ByteArray) (hm : ∀ s ∈ m, s ∈ a.U ∧ Dv l s) : LInv l (m.foldl Lk.getT a) ∧ (m.foldl Lk.getT a).U = a.U ∧ (∀ x, x ∈ a.σ.todo → x ∈ (m.foldl Lk.getT a).σ.todo) ∧ ∀ x ∈ m, x ∈ (m.foldl Lk.getT a).σ.todo := by
  induction m generalizing a with
  | nil => exact ⟨h, rfl, fun x hx => hx, fun x hx => by cases hx⟩
  | cons s m ih =>
    obtain ⟨k1, k2⟩ := hm s List.mem_cons_self
    have h1 := h.get s k1 k2
    obtain ⟨g1, g2, g3, g4⟩ := ih h1 (fun x hx => hm x (List.mem_cons_of_mem _ hx))
    have e : ∀ x, x ∈ a.σ.todo → x ∈ (a.getT s).σ.todo := by
      intro x hx
      show x ∈ (a.σ.get s).todo
      rw [get_todo]; split
      · exact hx
      · exact List.mem_append_left _ hx
    have es : s ∈ (a.getT s).σ.todo := by
      show s ∈ (a.σ.get s).todo
      rw [get_todo]; split
      · rename_i q; rw [h.has s] at q; exact of_decide_eq_true q
      · simp
    refine ⟨g1, g2, fun x hx => g3 x (e x hx), fun x hx => ?_⟩
    rcases List.mem_cons.1 hx with rfl | hx
    · exact g3 _ es
    · exact g4 x hx
theorem self_subs {t : ByteArray} (h : check t = 0) : t ∈ (subsOf t).1 := by
  obtain ⟨u, h1, rfl, h3, h4⟩ := (check_iff t).1 h
  rw [subsOf_str h1 h3 h4]
  obtain ⟨r, hr, _⟩ := u.subs_eq
  rw [hr]; simp
theorem subs_tr : ∀ (t u v : Tm), u ∈ t.subs → v ∈ u.subs → v ∈ t.subs
  | .nonce a b, u, v, h, hv => by simp only [Tm.subs, List.mem_singleton] at h; subst h; exact hv
  | .const l, u, v, h, hv => by simp only [Tm.subs, List.mem_singleton] at h; subst h; exact hv
  | .hash t, u, v, h, hv => by
    simp only [Tm.subs, List.mem_cons] at h ⊢
    rcases h with rfl | h
    · simpa only [Tm.subs, List.mem_cons] using hv
    · exact .inr (subs_tr t u v h hv)
  | .two k a b, u, v, h, hv => by
    simp only [Tm.subs, List.mem_cons, List.mem_append] at h ⊢
    rcases h with rfl | h | h
    · simpa only [Tm.subs, List.mem_cons, List.mem_append] using hv
    · exact .inr (.inl (subs_tr a u v h hv))
    · exact .inr (.inr (subs_tr b u v h hv))
theorem subs_parts {t x p : ByteArray} (h : check t = 0) (hx : x ∈ (subsOf t).1) (hp : p ∈ ps x) : p ∈ (subsOf t).1 := by
  obtain ⟨u, h1, rfl, h3, h4⟩ := (check_iff t).1 h
  rw [subsOf_str h1 h3 h4] at hx ⊢
  obtain ⟨v, hv, rfl⟩ := List.mem_map.1 hx
  obtain ⟨k1, k2, k3⟩ := subs_ok u v hv h1
  unfold ps at hp
  rw [PFg_str k1 (by omega) (by omega)] at hp
  obtain ⟨q, hq, rfl⟩ := List.mem_map.1 hp
  exact List.mem_map.2 ⟨q, subs_tr u v q hv (parts_subs hq), rfl⟩
end Go.Proofs.Ytinkkiglkjihmaa.Kw
