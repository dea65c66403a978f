/- know: what look does to the maps: a term's parts are told, a part's wholes. -/
import Derived.Test.YtinkkiglkjihmaaKs
set_option linter.unusedVariables false
set_option linter.unusedSimpArgs false
namespace Go.Proofs.Ytinkkiglkjihmaa.Kw
open Go.RowKit Go.Maps Go.WideMaps Go.Proofs.YtinkkiglkjihmaaW.PrintWords Go.Proofs.YtinkkiglkjihmaaW.PrintWords.Kd

/-- What a text is made of. -/
def PFg (k : List UInt8) : List ByteArray := (TT.partsOf (TT.strOf k)).2.1
theorem QRow.mono {base b' : Nat} {w : World} {v : Value} {xs : List ByteArray} (h : QRow b' w v xs) (hb : base ≤ b') : QRow base w v xs := by
  rcases h with h | ⟨g, off, cap, cur, h0, h1, h2⟩
  · exact .inl h
  · exact .inr ⟨g, off, cap, cur, h0, Nat.le_trans hb h1, h2⟩
abbrev Xs := Value → List ByteArray → Prop
theorem KS.reown {X : Xs} {base wb bh bm bi : Nat} {w : World} {N : Nat} {H M I : List UInt8 → Option Value} {PF IL : List UInt8 → List ByteArray} {todo : List ByteArray} {tv : Value} {own : Nat → Tag}
    (s : KS X base wb bh bm bi w N H M I PF IL todo tv own) (own' : Nat → Tag) (h : ∀ g, g < w.heap.size → own' g = own g) : KS X base wb bh bm bi w N H M I PF IL todo tv own' := by
  have lwb := (Array.getElem?_eq_some_iff.1 s.st).1
  exact ⟨s.st, s.h, s.m, s.i, s.q, fun g hg => by rw [h g (s.q.lt hg).2]; exact s.qo g hg, fun k v hk => ⟨(s.mr k v hk).1, fun g hg => by rw [h g ((s.mr k v hk).1.lt hg).2]; exact (s.mr k v hk).2 g hg⟩,
    fun k v hk => ⟨(s.ir k v hk).1, fun g hg => by rw [h g ((s.ir k v hk).1.lt hg).2]; exact (s.ir k v hk).2 g hg⟩, fun k v hk => ⟨(s.xr k v hk).1, fun g hg => by rw [h g ((s.xr k v hk).1.lt hg).2]; exact (s.xr k v hk).2 g hg⟩,
    ⟨by rw [h wb lwb]; exact s.oo.1, by rw [h bh s.h.lt]; exact s.oo.2.1, by rw [h bm s.m.lt]; exact s.oo.2.2.1, by rw [h bi s.i.lt]; exact s.oo.2.2.2⟩, s.hv, s.ne, s.bs⟩
/-- A new row is kept beside the maps. -/
theorem KX.more {X : Xs} {base wb bh bm bi : Nat} {w w1 : World} {M I : List UInt8 → Option Value} {PF IL : List UInt8 → List ByteArray} {σ : St} (h : KX X base wb bh bm bi w M I PF IL σ) (hb : RowKit.Below w.heap.size w w1) {v : Value} {xs : List ByteArray} (hv : QRow w.heap.size w1 v xs) :
    KX (fun u ys => X u ys ∨ (u = v ∧ ys = xs)) base wb bh bm bi w1 M I PF IL σ := by
  obtain ⟨h0, tv, own, s⟩ := h
  have s1 := (s.reown (fun g => if g < w.heap.size then own g else .m) (fun g hg => if_pos hg)).below hb
  refine ⟨Nat.le_trans h0 hb.size, tv, _, ⟨s1.st, s1.h, s1.m, s1.i, s1.q, s1.qo, s1.mr, s1.ir, ?_, s1.oo, s1.hv, s1.ne, s1.bs⟩⟩
  rintro u ys (hu | ⟨rfl, rfl⟩)
  · exact s1.xr u ys hu
  · exact ⟨hv.mono h0, fun g hg => if_neg (by have := (hv.lt hg).1; omega)⟩
theorem KX.less {X X' : Xs} {base wb bh bm bi : Nat} {w : World} {M I : List UInt8 → Option Value} {PF IL : List UInt8 → List ByteArray} {σ : St} (h : KX X base wb bh bm bi w M I PF IL σ) (hx : ∀ v xs, X' v xs → X v xs) : KX X' base wb bh bm bi w M I PF IL σ := by
  obtain ⟨h0, tv, own, s⟩ := h
  exact ⟨h0, tv, own, ⟨s.st, s.h, s.m, s.i, s.q, s.qo, s.mr, s.ir, fun v xs hk => s.xr v xs (hx v xs hk), s.oo, s.hv, s.ne, s.bs⟩⟩
theorem KX.xrow {X : Xs} {base wb bh bm bi : Nat} {w : World} {M I : List UInt8 → Option Value} {PF IL : List UInt8 → List ByteArray} {σ : St} (h : KX X base wb bh bm bi w M I PF IL σ) {g off n c : Nat} {xs : List ByteArray} (hv : X (.slice (some ⟨g, off, none⟩) n c) xs) (j : Nat) (x : ByteArray) (hj : xs[j]? = some x) : w.cell? ⟨g, off + j, none⟩ = some (.string x) := by
  obtain ⟨_, tv, own, s⟩ := h
  obtain ⟨g', off', e, h⟩ := (s.xr _ _ hv).1.cellAt.2 j x hj
  injection e with e
  injection e with e1 e2 _
  rw [e1, e2]; exact h
theorem KX.xform {X : Xs} {base wb bh bm bi : Nat} {w : World} {M I : List UInt8 → Option Value} {PF IL : List UInt8 → List ByteArray} {σ : St} (h : KX X base wb bh bm bi w M I PF IL σ) {v : Value} {xs : List ByteArray} (hv : X v xs) : ∃ A c, v = .slice A xs.length c := by
  obtain ⟨_, tv, own, s⟩ := h
  exact (s.xr _ _ hv).1.form
theorem KX.wat {X : Xs} {base wb bh bm bi : Nat} {w : World} {M I : List UInt8 → Option Value} {PF IL : List UInt8 → List ByteArray} {σ : St} (h : KX X base wb bh bm bi w M I PF IL σ) :
    ∃ tv, w.cell? ⟨wb, 0, none⟩ = some (.map (some bh)) ∧ w.cell? ⟨wb, 1, none⟩ = some (.map (some bm)) ∧ w.cell? ⟨wb, 2, none⟩ = some (.map (some bi)) ∧ w.cell? ⟨wb, 3, none⟩ = some tv := by
  obtain ⟨_, tv, own, s⟩ := h
  exact ⟨tv, s.st.cell⟩
def addIn (IL : List UInt8 → List ByteArray) (p s : ByteArray) : List UInt8 → List ByteArray := fun k => if k = p.data.toList then IL k ++ [s] else IL k
/-- A term's parts are told. -/
theorem KX.made {X : Xs} {base wb bh bm bi : Nat} {w : World} {M I : List UInt8 → Option Value} {PF IL : List UInt8 → List ByteArray} {σ : St} (h : KX X base wb bh bm bi w M I PF IL σ) {v : Value} {s : ByteArray} (hv : X v (PF s.data.toList)) (hs : s.size ≤ maxLen) (hN : σ.N < 100000000) :
    ∃ w2, (Instr.mapUpdate 59 (.map (some bm)) (.string s) v).run Try.prog w = .ok () w2 ∧ RowKit.Below base w w2 ∧ KX X base wb bh bm bi w2 (put M s.data.toList v) I PF IL ⟨σ.H, σ.todo, σ.N + 1⟩ := by
  have hML : maxLen = 9223372036854775807 := rfl
  obtain ⟨h0, tv, own, s0⟩ := h
  obtain ⟨w2, hrun, hm2, hg2⟩ := s0.m.update Try.underlying59 (by omega) s hs v
  have lwb := (Array.getElem?_eq_some_iff.1 s0.st).1
  have ko : ∀ g, own g ≠ .o → g ≠ bm := fun g hg e => hg (by rw [e]; exact s0.oo.2.2.1)
  have keep : ∀ b, b < w.heap.size → b ≠ bm → w2.heap[b]? = w.heap[b]? := fun b hb hn => hg2.block b hb (by intro e; injection e with e; exact hn e)
  refine ⟨w2, hrun, (RowKit.Below.refl _ _).grown hg2 h0 (fun k hk => by injection hk with hk; rw [← hk]; exact s0.bs.2.2.1), Nat.le_trans h0 hg2.size, tv, own, ⟨(keep wb lwb s0.ne.2.1).trans s0.st,
    (s0.h.same (keep bh s0.h.lt s0.ne.2.2.2.1)).mono (Nat.le_succ _), hm2, (s0.i.same (keep bi s0.i.lt (fun e => s0.ne.2.2.2.2.2 e.symm))).mono (Nat.le_succ _), s0.q.same fun g hg => keep g (s0.q.lt hg).2 (ko g (by rw [s0.qo g hg]; simp)), s0.qo, ?_, ?_, ?_, s0.oo, s0.hv, s0.ne, s0.bs⟩⟩
  · intro k u hk
    have hx : ∀ u ys, QRow base w u ys → (∀ g, u.ownBlock = some g → own g = .m) → QRow base w2 u ys ∧ ∀ g, u.ownBlock = some g → own g = .m := fun u ys r1 r2 => ⟨r1.same fun g hg => keep g (r1.lt hg).2 (ko g (by rw [r2 g hg]; simp)), r2⟩
    unfold put at hk
    split at hk
    · rename_i e
      obtain rfl := Option.some.inj hk
      rw [e]
      exact hx _ _ (s0.xr _ _ hv).1 (s0.xr _ _ hv).2
    · exact hx _ _ (s0.mr _ _ hk).1 (s0.mr _ _ hk).2
  · intro k u hk
    obtain ⟨r1, r2⟩ := s0.ir _ _ hk
    exact ⟨r1.same fun g hg => keep g (r1.lt hg).2 (ko g (by rw [r2 g hg]; simp)), r2⟩
  · intro k u hk
    obtain ⟨r1, r2⟩ := s0.xr _ _ hk
    exact ⟨r1.same fun g hg => keep g (r1.lt hg).2 (ko g (by rw [r2 g hg]; simp)), r2⟩
/-- A part's whole is told. -/
theorem KX.put {X : Xs} {base wb bh bm bi : Nat} {w : World} {M I : List UInt8 → Option Value} {PF IL : List UInt8 → List ByteArray} {σ : St} (h : KX X base wb bh bm bi w M I PF IL σ) (hI : ∀ k, I k = none → IL k = []) (p s : ByteArray) (hp : p.size ≤ maxLen) (hN : σ.N < 100000000) (hl : (IL p.data.toList).length + 1 ≤ 100000000) (ty : TypeId) :
    ∃ A n c, (Instr.lookup 59 (.map (some bi)) (.string p) false).run Try.prog w = .ok (.slice A n c) w ∧ (Instr.lookup 59 (.map (some bi)) (.string p) false).run Try.prog (w.alloc (.cells #[.string s] 23)) = .ok (.slice A n c) (w.alloc (.cells #[.string s] 23)) ∧ ∃ A2 n2 c2 w2, (Builtin.append_ #[22, 22] ty #[.slice A n c, .slice (some ⟨w.heap.size, 0, none⟩) 1 1]).run Try.prog (w.alloc (.cells #[.string s] 23)) = .ok (.slice A2 n2 c2) w2 ∧ w2.cell? ⟨wb, 2, none⟩ = some (.map (some bi)) ∧
      ∃ w3, (Instr.mapUpdate 59 (.map (some bi)) (.string p) (.slice A2 n2 c2)).run Try.prog w2 = .ok () w3 ∧ RowKit.Below base w w3 ∧ ∃ I', KX X base wb bh bm bi w3 M I' PF (addIn IL p s) ⟨σ.H, σ.todo, σ.N + 1⟩ ∧ ∀ k, I' k = none → addIn IL p s k = [] := by
  have hML : maxLen = 9223372036854775807 := rfl
  obtain ⟨h0, tv, own, s0⟩ := h
  obtain ⟨v, hvf, hvq, hvo⟩ : ∃ v, (I p.data.toList).getD (.slice none 0 0) = v ∧ QRow base w v (IL p.data.toList) ∧ ∀ g, v.ownBlock = some g → own g = .i p.data.toList := by
    cases hk : I p.data.toList with
    | none => refine ⟨_, rfl, ?_, ?_⟩
              · rw [hI _ hk]; exact QRow.nil _ _
              · intro g hg; cases hg
    | some u => exact ⟨_, rfl, s0.ir _ _ hk⟩
  have hlk := s0.i.look Try.underlying59 (zeroS w) p hp
  rw [hvf] at hlk
  have hlk2 := (s0.i.same (Below.heap_alloc w (.cells #[.string s] 23) bi s0.i.lt)).look Try.underlying59 (zeroS _) p hp
  rw [hvf] at hlk2
  obtain ⟨A, c, ev⟩ := hvq.form
  have lwb := (Array.getElem?_eq_some_iff.1 s0.st).1
  have hvk : ∀ g, v.ownBlock = some g → own g ≠ .o ∧ own g ≠ .q ∧ own g ≠ .m := fun g hg => by rw [hvo g hg]; simp
  have hsza : (w.alloc (.cells #[.string s] 23)).heap.size = w.heap.size + 1 := by simp
  have hva : QRow base (w.alloc (.cells #[.string s] 23)) v (IL p.data.toList) := hvq.same fun g hg => Below.heap_alloc _ _ g (hvq.lt hg).2
  obtain ⟨v2, w2, hrun2, hq2, hg2, hloc⟩ := hva.push s ⟨w.heap.size, 0, none⟩ 1 (World.cell?_alloc_at _ _ _ _ rfl) hl (by omega) ty
  obtain ⟨A2, c2, ev2⟩ := hq2.form
  have hsz2 := hg2.size
  have k2 : ∀ b, b < w.heap.size → v.ownBlock ≠ some b → w2.heap[b]? = w.heap[b]? := fun b hb hne => (hg2.block b (by omega) (fun e => hne e.symm)).trans (Below.heap_alloc _ _ b hb)
  have hi2 : MapAt w2 bi σ.N I := s0.i.same (k2 bi s0.i.lt (fun e => (hvk bi e).1 s0.oo.2.2.2))
  obtain ⟨w3, hrun3, hi3, hg3⟩ := hi2.update Try.underlying59 (by omega) p hp v2
  have hsz3 := hg3.size
  have keep : ∀ b, b < w.heap.size → b ≠ bi → v.ownBlock ≠ some b → w3.heap[b]? = w.heap[b]? := fun b hb h1 h2 => (hg3.block b (by omega) (by intro e; injection e with e; exact h1 e)).trans (k2 b hb h2)
  have ko : ∀ g, own g ≠ .o → g ≠ bi := fun g hg e => hg (by rw [e]; exact s0.oo.2.2.2)
  have lbi := s0.i.lt
  have hlo : ∀ g, g < w.heap.size → (if g = w.heap.size + 1 then Tag.i p.data.toList else own g) = own g := fun g hg => if_neg (by omega)
  have hnew : ∀ g, v2.ownBlock = some g → (if g = w.heap.size + 1 then Tag.i p.data.toList else own g) = .i p.data.toList ∧ g ≠ bi := by
    intro g hg
    rcases hloc with e | e
    · have e3 : v.ownBlock = some g := by rw [← e, hg]
      rw [hlo g (hvq.lt e3).2]
      exact ⟨hvo g e3, ko g (by rw [hvo g e3]; simp)⟩
    · rw [hg, hsza] at e
      injection e with e
      rw [if_pos e]
      exact ⟨rfl, by omega⟩
  have hg23 : RowKit.Below base w w3 := (((RowKit.Below.refl _ _).alloc h0 _).grown hg2 (by omega) (fun k hk => (hvq.lt hk).1)).grown hg3 (by omega) (fun k hk => by injection hk with hk; rw [← hk]; exact s0.bs.2.2.2)
  subst ev2
  subst ev
  refine ⟨A, _, c, hlk, hlk2, A2, _, c2, w2, hrun2, ?_, w3, hrun3, hg23, _, ⟨by omega, tv, fun g => if g = w.heap.size + 1 then Tag.i p.data.toList else own g, ⟨?_, ?_, ?_, hi3, ?_, ?_, ?_, ?_, ?_, ?_, s0.hv, s0.ne, s0.bs⟩⟩, ?_⟩
  · exact (WAt.cell (show WAt w2 wb bh bm bi tv from (k2 wb lwb (fun e => (hvk wb e).1 s0.oo.1)).trans s0.st)).2.2.1
  · exact (keep wb lwb s0.ne.2.2.1 (fun e => (hvk wb e).1 s0.oo.1)).trans s0.st
  · exact (s0.h.same (keep bh s0.h.lt s0.ne.2.2.2.2.1 (fun e => (hvk bh e).1 s0.oo.2.1))).mono (Nat.le_succ _)
  · exact (s0.m.same (keep bm s0.m.lt s0.ne.2.2.2.2.2 (fun e => (hvk bm e).1 s0.oo.2.2.1))).mono (Nat.le_succ _)
  · exact s0.q.same fun g hg => keep g (s0.q.lt hg).2 (ko g (by rw [s0.qo g hg]; simp)) (fun e => (hvk g e).2.1 (s0.qo g hg))
  · intro g hg
    show (if g = w.heap.size + 1 then Tag.i p.data.toList else own g) = .q
    rw [hlo g (s0.q.lt hg).2]; exact s0.qo g hg
  · intro k u hk
    obtain ⟨r1, r2⟩ := s0.mr _ _ hk
    refine ⟨r1.same fun g hg => keep g (r1.lt hg).2 (ko g (by rw [r2 g hg]; simp)) (fun e => (hvk g e).2.2 (r2 g hg)), fun g hg => ?_⟩
    show (if g = w.heap.size + 1 then Tag.i p.data.toList else own g) = .m
    rw [hlo g (r1.lt hg).2]; exact r2 g hg
  · intro k u hk
    unfold Kw.put at hk
    unfold addIn
    split at hk
    · rename_i e
      obtain rfl := Option.some.inj hk
      rw [if_pos e, e]
      refine ⟨hq2.same fun g hg => hg3.block g (hq2.lt hg).2 (by intro q; injection q with q; exact (hnew g hg).2 q), fun g hg => (hnew g hg).1⟩
    · rename_i e
      rw [if_neg e]
      obtain ⟨r1, r2⟩ := s0.ir _ _ hk
      refine ⟨r1.same fun g hg => keep g (r1.lt hg).2 (ko g (by rw [r2 g hg]; simp)) (fun q => ?_), fun g hg => ?_⟩
      · have h1 := hvo g q
        rw [r2 g hg] at h1
        injection h1 with h1
        exact e h1
      · show (if g = w.heap.size + 1 then Tag.i p.data.toList else own g) = .i k
        rw [hlo g (r1.lt hg).2]; exact r2 g hg
  · intro k u hk
    obtain ⟨r1, r2⟩ := s0.xr _ _ hk
    refine ⟨r1.same fun g hg => keep g (r1.lt hg).2 (ko g (by rw [r2 g hg]; simp)) (fun e => (hvk g e).2.2 (r2 g hg)), fun g hg => ?_⟩
    show (if g = w.heap.size + 1 then Tag.i p.data.toList else own g) = .m
    rw [hlo g (r1.lt hg).2]; exact r2 g hg
  · show (if wb = w.heap.size + 1 then Tag.i p.data.toList else own wb) = .o ∧ (if bh = w.heap.size + 1 then Tag.i p.data.toList else own bh) = .o ∧ (if bm = w.heap.size + 1 then Tag.i p.data.toList else own bm) = .o ∧ (if bi = w.heap.size + 1 then Tag.i p.data.toList else own bi) = .o
    rw [hlo wb lwb, hlo bh s0.h.lt, hlo bm s0.m.lt, hlo bi lbi]
    exact s0.oo
  · intro k hk
    unfold Kw.put at hk
    unfold addIn
    split at hk
    · cases hk
    · rename_i e
      rw [if_neg e]
      exact hI k hk
end Go.Proofs.Ytinkkiglkjihmaa.Kw
