/- know: split. -/
import Derived.Test.YtinkkiglkjihmaaKh
set_option linter.unusedVariables false
set_option linter.unusedSimpArgs false
namespace Go.Proofs.Ytinkkiglkjihmaa.Kw
open Go.RowKit Go.Maps Go.WideMaps Go.Proofs.YtinkkiglkjihmaaW.PrintWords Go.Proofs.YtinkkiglkjihmaaW.PrintWords.Kd

/-- What changes while the queue runs: which terms are had, what is to do, how many entries. -/
structure St where
  H : List UInt8 → Option Value
  todo : List ByteArray
  N : Nat
def St.has (σ : St) (t : ByteArray) : Bool := (σ.H t.data.toList).isSome
def St.get (σ : St) (t : ByteArray) : St := if σ.has t = true then σ else ⟨put σ.H t.data.toList (.agg #[]), σ.todo ++ [t], σ.N + 1⟩
def St.split (σ : St) (k : UInt8) (l : List ByteArray) : St :=
  match l with
  | [a, b] => if k = 112 then (σ.get a).get b else if k = 115 then (if σ.has a = true then σ.get b else σ) else σ
  | _ => σ
def KX (X : Value → List ByteArray → Prop) (base wb bh bm bi : Nat) (w : World) (M I : List UInt8 → Option Value) (PF IL : List UInt8 → List ByteArray) (σ : St) : Prop :=
  base ≤ w.heap.size ∧ ∃ tv own, KS X base wb bh bm bi w σ.N σ.H M I PF IL σ.todo tv own
theorem KX.below {X : Value → List ByteArray → Prop} {base wb bh bm bi : Nat} {w w' : World} {M I : List UInt8 → Option Value} {PF IL : List UInt8 → List ByteArray} {σ : St} (h : KX X base wb bh bm bi w M I PF IL σ) (hb : RowKit.Below w.heap.size w w') : KX X base wb bh bm bi w' M I PF IL σ := by
  obtain ⟨h0, tv, own, h⟩ := h
  exact ⟨Nat.le_trans h0 hb.size, tv, own, h.below hb⟩
theorem kx_has {X : Value → List ByteArray → Prop} {base wb bh bm bi : Nat} {w : World} {M I : List UInt8 → Option Value} {PF IL : List UInt8 → List ByteArray} {σ : St} (h : KX X base wb bh bm bi w M I PF IL σ) (t : ByteArray) (ht : t.size ≤ maxLen) :
    Calls Try.prog 33 #[.pointer (some ⟨wb, 0, none⟩), .string t] w fun e w' => e = .returned (.bool (σ.has t)) ∧ RowKit.Below base w w' ∧ KX X base wb bh bm bi w' M I PF IL σ := by
  have h' := h
  obtain ⟨h0, tv, own, s⟩ := h
  refine (has_any wb bh bm bi σ.N tv σ.H t w s.st s.h ht s.hv).mono ?_
  rintro e w' ⟨rfl, hb⟩
  exact ⟨rfl, hb.mono h0, h'.below hb⟩
theorem kx_get {X : Value → List ByteArray → Prop} {base wb bh bm bi : Nat} {w : World} {M I : List UInt8 → Option Value} {PF IL : List UInt8 → List ByteArray} {σ : St} (h : KX X base wb bh bm bi w M I PF IL σ) (t : ByteArray) (ht : t.size ≤ maxLen) (hN : σ.N < 100000000) (hl : σ.todo.length + 1 ≤ 100000000) :
    Calls Try.prog 43 #[.pointer (some ⟨wb, 0, none⟩), .string t] w fun e w' => e = .returned (.tuple #[]) ∧ RowKit.Below base w w' ∧ KX X base wb bh bm bi w' M I PF IL (σ.get t) := by
  obtain ⟨h0, tv, own, s⟩ := h
  refine (get_any X base wb bh bm bi σ.N σ.H M I PF IL σ.todo tv own t w s ht hN hl h0).mono ?_
  rintro e w' ⟨rfl, hb, h⟩
  refine ⟨rfl, hb, Nat.le_trans h0 hb.size, ?_⟩
  unfold St.get St.has
  rcases h with ⟨h1, h2⟩ | ⟨h1, tv', own', h2⟩
  · rw [if_pos h1]; exact ⟨tv, own, h2⟩
  · rw [if_neg (by rw [h1]; simp)]; exact ⟨tv', own', h2⟩
theorem St.get_N (σ : St) (t : ByteArray) : (σ.get t).N ≤ σ.N + 1 := by unfold St.get; split <;> simp
theorem St.get_todo (σ : St) (t : ByteArray) : (σ.get t).todo.length ≤ σ.todo.length + 1 := by unfold St.get; split <;> simp
theorem index0 (t : ByteArray) (h : 0 < t.size) (w : World) : (Instr.index 23 (.string t) (.int .i64 0)).run Try.prog w = .ok (.int .u8 ((t[0]'h).toNat : Int)) w := by
  have e : t[0]? = some (t[0]'h) := getElem?_pos t 0 h
  have hu := Try.underlying23
  unfold Instr.index
  rw [Sem.run_bind]
  simp only [asIntOf]
  go_simp
theorem QRow.cellAt {base : Nat} {w : World} {A : Option Addr} {n c : Nat} {xs : List ByteArray} (h : QRow base w (.slice A n c) xs) : n = xs.length ∧ ∀ j x, xs[j]? = some x → ∃ g off, A = some ⟨g, off, none⟩ ∧ w.cell? ⟨g, off + j, none⟩ = some (.string x) := by
  rcases h with ⟨h, rfl⟩ | ⟨g, off, cap, cur, h, hb, hg, h1, h2, h3⟩
  · injection h with h4 h5 h6; subst h5; exact ⟨rfl, fun j x hj => by simp at hj⟩
  · injection h with h4 h5 h6; subst h4; subst h5
    refine ⟨rfl, fun j x hj => ⟨g, off, rfl, ?_⟩⟩
    simpa [World.cell?, hg] using h3 j x hj

theorem addz (a : Addr) : a.add 0 = a := by unfold Addr.add; split <;> simp_all
theorem KX.row {X : Value → List ByteArray → Prop} {base wb bh bm bi : Nat} {w : World} {M I : List UInt8 → Option Value} {PF IL : List UInt8 → List ByteArray} {σ : St} (h : KX X base wb bh bm bi w M I PF IL σ) {k : List UInt8} {A : Option Addr} {n c : Nat} (hv : M k = some (.slice A n c)) {g off : Nat} (hA : A = some ⟨g, off, none⟩) (j : Nat) (x : ByteArray) (hj : (PF k)[j]? = some x) : w.cell? ⟨g, off + j, none⟩ = some (.string x) := by
  obtain ⟨_, tv, own, s⟩ := h
  obtain ⟨g', off', e, h⟩ := (s.mr _ _ hv).1.cellAt.2 j x hj
  rw [hA] at e
  injection e with e
  injection e with e1 e2 _
  rw [e1, e2]; exact h
set_option maxRecDepth 100000 in
set_option maxHeartbeats 1000000 in
theorem split_any {X : Value → List ByteArray → Prop} {base wb bh bm bi : Nat} {w : World} {M I : List UInt8 → Option Value} {PF IL : List UInt8 → List ByteArray} {σ : St} (h : KX X base wb bh bm bi w M I PF IL σ) (t : ByteArray) (ht : t.size ≤ maxLen) (h0 : 0 < t.size)
    (hM : (M t.data.toList).isSome = true) (hsz : ∀ x ∈ PF t.data.toList, x.size ≤ maxLen)
    (hk : (t[0]'h0 = 112 ∨ t[0]'h0 = 115) → (PF t.data.toList).length = 2) (hN : σ.N + 2 < 100000000) (hl : σ.todo.length + 3 ≤ 100000000) :
    Calls Try.prog 44 #[.pointer (some ⟨wb, 0, none⟩), .string t] w fun e w' => e = .returned (.tuple #[]) ∧ RowKit.Below base w w' ∧ KX X base wb bh bm bi w' M I PF IL (σ.split (t[0]'h0) (PF t.data.toList)) := by
  have hx := index0 t h0
  obtain ⟨hb, tv, own, s⟩ := id h
  obtain ⟨c0, c1, c2, c3⟩ := s.st.cell
  obtain ⟨v, hv⟩ := Option.isSome_iff_exists.1 hM
  obtain ⟨hq, hown⟩ := s.mr _ _ hv
  have hlk := s.m.look Try.underlying59 (zeroS w) t ht
  rw [hv, Option.getD_some] at hlk
  obtain ⟨A, cp, ev⟩ := hq.form
  subst ev
  have hrow : ∀ {W : World} {σ' : St}, KX X base wb bh bm bi W M I PF IL σ' → ∀ g off, A = some ⟨g, off, none⟩ → ∀ j x, (PF t.data.toList)[j]? = some x → W.cell? ⟨g, off + j, none⟩ = some (.string x) := fun hW g off hA j x hj => hW.row hv hA j x hj
  have hcl := hq.cellAt.2
  generalize PF t.data.toList = l at hsz hk hlk hrow hcl ⊢
  generalize t[0]'h0 = k at hx hk ⊢
  clear hq hown s hM hv
  by_cases k1 : k = 112
  · have hl2 := hk (.inl k1)
    obtain ⟨a, b, rfl⟩ : ∃ a b, l = [a, b] := by
      match l, hl2 with
      | [a, b], _ => exact ⟨a, b, rfl⟩
    obtain ⟨g, off, rfl, ca⟩ := hcl 0 a rfl
    rw [Nat.add_zero] at ca
    clear hcl
    subst k1
    have hs : σ.split 112 [a, b] = (σ.get a).get b := by unfold St.split; rfl
    rw [hs]
    have g1 := kx_get (w := w) h a (hsz a (by simp)) (by omega) (by omega)
    have n1 := σ.get_N a
    have n2 := σ.get_todo a
    rw [show (112 : UInt8).toNat = 112 from rfl] at hx
    have g2 : ∀ {W : World}, KX X base wb bh bm bi W M I PF IL (σ.get a) → Calls Try.prog 43 #[.pointer (some ⟨wb, 0, none⟩), .string b] W _ := fun hW => kx_get hW b (hsz b (by simp)) (by omega) (by omega)
    go_enter Try.func44, Try.ntmps44
    go_wp2_with (first | (go_at_call 43; refine g1.mono ?_; rintro e w1 ⟨rfl, hb1, hk1⟩; have HB1 := Lib.hid hb1; have HK1 := Lib.hid hk1; have cb := hrow hk1 g off rfl 1 b rfl; clear hb1 hk1 g1) | (go_at_call 43; refine (g2 HK1.out).mono ?_; rintro e w2 ⟨rfl, hb2, hk2⟩; have HB2 := Lib.hid hb2; have HK2 := Lib.hid hk2; clear hb2 hk2))
    refine Great.bodyPost_end0 rfl rfl ?_
    exact ⟨rfl, HB1.out.trans HB2.out, HK2.out⟩
  · have e1 : ((k.toNat : Int) == 112) = false := by
      rw [beq_eq_false_iff_ne]; intro e; exact k1 (UInt8.toNat.inj (by show k.toNat = 112; omega))
    by_cases k2 : k = 115
    · have hl2 := hk (.inr k2)
      obtain ⟨a, b, rfl⟩ : ∃ a b, l = [a, b] := by
        match l, hl2 with
        | [a, b], _ => exact ⟨a, b, rfl⟩
      obtain ⟨g, off, rfl, ca⟩ := hcl 0 a rfl
      rw [Nat.add_zero] at ca
      subst k2
      clear hcl
      rw [show (115 : UInt8).toNat = 115 from rfl] at hx
      have g1 := kx_has (w := w) h a (hsz a (by simp))
      cases hb1 : σ.has a with
      | true =>
        have hs : σ.split 115 [a, b] = σ.get b := by unfold St.split; simp [hb1]
        rw [hs]
        rw [hb1] at g1
        have g2 : ∀ {W : World}, KX X base wb bh bm bi W M I PF IL σ → Calls Try.prog 43 #[.pointer (some ⟨wb, 0, none⟩), .string b] W _ := fun hW => kx_get hW b (hsz b (by simp)) (by omega) (by omega)
        clear hs e1 k1 hb1
        go_enter Try.func44, Try.ntmps44
        go_wp2_with (first | (go_at_call 33; refine g1.mono ?_; rintro e w1 ⟨rfl, hb1, hk1⟩; have HB1 := Lib.hid hb1; have HK1 := Lib.hid hk1; have cb := hrow hk1 g off rfl 1 b rfl; clear hb1 hk1 g1) | (go_at_call 43; refine (g2 HK1.out).mono ?_; rintro e w2 ⟨rfl, hb2, hk2⟩; have HB2 := Lib.hid hb2; have HK2 := Lib.hid hk2; clear hb2 hk2))
        refine Great.bodyPost_end0 rfl rfl ?_
        exact ⟨rfl, HB1.out.trans HB2.out, HK2.out⟩
      | false =>
        have hs : σ.split 115 [a, b] = σ := by unfold St.split; simp [hb1]
        rw [hs]
        rw [hb1] at g1
        clear hs e1 k1 hb1
        go_enter Try.func44, Try.ntmps44
        go_wp2_with (go_at_call 33; refine g1.mono ?_; rintro e w1 ⟨rfl, hb1, hk1⟩; have HB1 := Lib.hid hb1; have HK1 := Lib.hid hk1; clear hb1 hk1 g1)
        refine Great.bodyPost_end0 rfl rfl ?_
        exact ⟨rfl, HB1.out, HK1.out⟩
    · have e2 : ((k.toNat : Int) == 115) = false := by
        rw [beq_eq_false_iff_ne]; intro e; exact k2 (UInt8.toNat.inj (by show k.toNat = 115; omega))
      have hs : σ.split k l = σ := by
        unfold St.split
        split
        · rw [if_neg k1, if_neg k2]
        · rfl
      rw [hs]
      clear hs hcl hrow hk hsz
      go_enter Try.func44, Try.ntmps44
      go_wp2
      refine Great.bodyPost_end0 rfl rfl ?_
      exact ⟨rfl, by refine ⟨rfl, rfl, rfl, Nat.le_refl _, fun _ _ => rfl⟩, h⟩
end Go.Proofs.Ytinkkiglkjihmaa.Kw
