/- know: has; the state. -/
import Derived.Test.YtinkkiglkjihmaaKm
import Derived.Great.Walk
set_option linter.unusedVariables false
set_option linter.unusedSimpArgs false
namespace Go.Proofs.Ytinkkiglkjihmaa.Kw
open Go.RowKit Go.Maps Go.WideMaps Go.Proofs.YtinkkiglkjihmaaW.PrintWords Go.Proofs.YtinkkiglkjihmaaW.PrintWords.Kd

theorem zeroU (w : World) : (zeroValue 58).run Try.prog w = .ok (.agg #[]) w := by kernel_rfl
theorem zeroS (w : World) : (zeroValue 22).run Try.prog w = .ok (.slice none 0 0) w := by kernel_rfl
/-- The struct: its four cells. -/
def WAt (w : World) (wb bh bm bi : Nat) (tv : Value) : Prop := w.heap[wb]? = some (.cells #[.map (some bh), .map (some bm), .map (some bi), tv] 61 (0, 0))
theorem WAt.cell {w : World} {wb bh bm bi : Nat} {tv : Value} (h : WAt w wb bh bm bi tv) : w.cell? ⟨wb, 0, none⟩ = some (.map (some bh)) ∧ w.cell? ⟨wb, 1, none⟩ = some (.map (some bm)) ∧ w.cell? ⟨wb, 2, none⟩ = some (.map (some bi)) ∧ w.cell? ⟨wb, 3, none⟩ = some tv := by
  unfold WAt at h
  simp [World.cell?, h]
set_option maxRecDepth 100000 in
theorem has_any (wb bh bm bi n : Nat) (tv : Value) (H : List UInt8 → Option Value) (t : ByteArray) (w : World) (hw : WAt w wb bh bm bi tv) (hm : MapAt w bh n H) (ht : t.size ≤ maxLen) (hv : ∀ k v, H k = some v → v = .agg #[]) :
    Calls Try.prog 33 #[.pointer (some ⟨wb, 0, none⟩), .string t] w fun e w' => e = .returned (.bool (H t.data.toList).isSome) ∧ RowKit.Below w.heap.size w w' := by
  obtain ⟨c0, c1, c2, c3⟩ := hw.cell
  have hl := hm.look_ok Try.underlying57 (zeroU w) t ht
  have hg : (H t.data.toList).getD (.agg #[]) = .agg #[] := by
    cases h : H t.data.toList with
    | none => rfl
    | some v => rw [hv _ _ h]; rfl
  rw [hg] at hl
  generalize (H t.data.toList).isSome = b at hl ⊢
  go_enter Try.func33, Try.ntmps33
  go_wp2
  go_ret
  exact ⟨rfl, by first | exact RowKit.Below.refl _ _ | exact (RowKit.Below.refl _ _).alloc (Nat.le_refl _) _⟩

theorem wpList_q {ops : Array Oper} {rest : List Oper} {o : Oper} {a : Act} {Q : Exit → Act → World → Prop} {W W' : World} {v v' : Value} (ad : Addr) (c : Nat) (hgd : o.guard = none) (s x : Operand)
    (ho : o.op = Op.call { callee := Callee.builtin Builtin.append, args := #[s, x], argTypes := #[22, 22] }) (hs : a.eval s = v) (hx : a.eval x = .slice (some ad) 1 c)
    (hrun : (Builtin.append_ #[22, 22] o.type #[v, .slice (some ad) 1 c]).run Try.prog W = .ok v' W') (h : wpList Try.prog ops Q rest (a.put o.dst v') W') : wpList Try.prog ops Q (o :: rest) a W := by
  refine wpList_plain hgd fun K hK => ?_
  unfold Oper.wp execOp
  simp only [ho, resolve, invoke, builtin, Sem.run_bind, Sem.run_pure, Result.andThen_ok, List.map_toArray, List.map_cons, List.map_nil, hs, hx, hrun]
  exact hK _ _ h
/-- Whose a block is. -/
inductive Tag | q | m | i (k : List UInt8) | o
/-- The state: what the struct's maps tell (H, M, I), what is to do; whose each block is (own). -/
structure KS (X : Value → List ByteArray → Prop) (base wb bh bm bi : Nat) (w : World) (N : Nat) (H M I : List UInt8 → Option Value) (PF IL : List UInt8 → List ByteArray) (todo : List ByteArray) (tv : Value) (own : Nat → Tag) : Prop where
  st : WAt w wb bh bm bi tv
  h : MapAt w bh N H
  m : MapAt w bm N M
  i : MapAt w bi N I
  q : QRow base w tv todo
  qo : ∀ g, tv.ownBlock = some g → own g = .q
  mr : ∀ k v, M k = some v → QRow base w v (PF k) ∧ ∀ g, v.ownBlock = some g → own g = .m
  ir : ∀ k v, I k = some v → QRow base w v (IL k) ∧ ∀ g, v.ownBlock = some g → own g = .i k
  xr : ∀ v xs, X v xs → QRow base w v xs ∧ ∀ g, v.ownBlock = some g → own g = .m
  oo : own wb = .o ∧ own bh = .o ∧ own bm = .o ∧ own bi = .o
  hv : ∀ k v, H k = some v → v = .agg #[]
  ne : wb ≠ bh ∧ wb ≠ bm ∧ wb ≠ bi ∧ bh ≠ bm ∧ bh ≠ bi ∧ bm ≠ bi
  bs : base ≤ wb ∧ base ≤ bh ∧ base ≤ bm ∧ base ≤ bi
theorem QRow.lt {base : Nat} {w : World} {v : Value} {xs : List ByteArray} (h : QRow base w v xs) {g : Nat} (hg : v.ownBlock = some g) : base ≤ g ∧ g < w.heap.size := by
  rcases h with ⟨rfl, _⟩ | ⟨g', off, cap, cur, rfl, hb, hh, _⟩
  · cases hg
  · obtain rfl : g' = g := by simpa [Value.ownBlock] using hg
    exact ⟨hb, (Array.getElem?_eq_some_iff.1 hh).1⟩
/-- All blocks that lay there are as they were. -/
theorem KS.below {X : Value → List ByteArray → Prop} {base wb bh bm bi : Nat} {w w' : World} {N : Nat} {H M I : List UInt8 → Option Value} {PF IL : List UInt8 → List ByteArray} {todo : List ByteArray} {tv : Value} {own : Nat → Tag}
    (s : KS X base wb bh bm bi w N H M I PF IL todo tv own) (hb : RowKit.Below w.heap.size w w') : KS X base wb bh bm bi w' N H M I PF IL todo tv own :=
  ⟨by have h := s.st; unfold WAt at h ⊢; exact (hb.block wb (Array.getElem?_eq_some_iff.1 h).1).trans h, s.h.below hb, s.m.below hb, s.i.below hb, s.q.same fun g hg => hb.block g (s.q.lt hg).2, s.qo,
    fun k v hk => ⟨(s.mr k v hk).1.same fun g hg => hb.block g ((s.mr k v hk).1.lt hg).2, (s.mr k v hk).2⟩, fun k v hk => ⟨(s.ir k v hk).1.same fun g hg => hb.block g ((s.ir k v hk).1.lt hg).2, (s.ir k v hk).2⟩, fun k v hk => ⟨(s.xr k v hk).1.same fun g hg => hb.block g ((s.xr k v hk).1.lt hg).2, (s.xr k v hk).2⟩, s.oo, s.hv, s.ne, s.bs⟩
/-- A term more is had: the worlds of 'get'. -/
theorem KS.got {X : Value → List ByteArray → Prop} {base wb bh bm bi N : Nat} {H M I : List UInt8 → Option Value} {PF IL : List UInt8 → List ByteArray} {todo : List ByteArray} {tv : Value} {own : Nat → Tag} {w1 : World} (s : KS X base wb bh bm bi w1 N H M I PF IL todo tv own) (t : ByteArray)
    (ht : t.size ≤ maxLen) (hN : N < 100000000) (hl : todo.length + 1 ≤ 100000000) (hbw : base ≤ w1.heap.size) :
    ∃ w2 w3 v2 own', (Instr.mapUpdate 57 (.map (some bh)) (.string t) (.agg #[])).run Try.prog w1 = .ok () w2 ∧ WAt w2 wb bh bm bi tv ∧
      (Builtin.append_ #[22, 22] 22 #[tv, .slice (some ⟨w2.heap.size, 0, none⟩) 1 1]).run Try.prog (w2.alloc (.cells #[.string t] 23)) = .ok v2 w3 ∧
      WAt w3 wb bh bm bi tv ∧ RowKit.Below base w1 (w3.setCell ⟨wb, 3, none⟩ v2) ∧ KS X base wb bh bm bi (w3.setCell ⟨wb, 3, none⟩ v2) (N + 1) (put H t.data.toList (.agg #[])) M I PF IL (todo ++ [t]) v2 own' := by
  have hML : maxLen = 9223372036854775807 := rfl
  obtain ⟨w2, hrun, hm2, hg2⟩ := s.h.update Try.underlying57 (by omega) t ht (.agg #[])
  have lwb := (Array.getElem?_eq_some_iff.1 s.st).1
  have hst2 : WAt w2 wb bh bm bi tv := (hg2.block wb lwb (by intro e; injection e with e; exact s.ne.1 e)).trans s.st
  have hqk : ∀ g, tv.ownBlock = some g → g ≠ wb ∧ g ≠ bh ∧ g ≠ bm ∧ g ≠ bi := by
    intro g hg
    have h1 := s.qo g hg
    refine ⟨?_, ?_, ?_, ?_⟩ <;> (intro e; rw [e] at h1)
    · rw [s.oo.1] at h1; cases h1
    · rw [s.oo.2.1] at h1; cases h1
    · rw [s.oo.2.2.1] at h1; cases h1
    · rw [s.oo.2.2.2] at h1; cases h1
  have hq2 : QRow base (w2.alloc (.cells #[.string t] 23)) tv todo := s.q.same fun g hg => (Below.heap_alloc _ _ g (Nat.lt_of_lt_of_le (s.q.lt hg).2 hg2.size)).trans (hg2.block g (s.q.lt hg).2 (by intro e; injection e with e; exact (hqk g hg).2.1 e))
  have hsz2 := hg2.size
  have hbs : base ≤ (w2.alloc (.cells #[.string t] 23)).heap.size := by simp; omega
  obtain ⟨v2, w3, hrun2, hq3, hg3, hloc⟩ := hq2.push t ⟨w2.heap.size, 0, none⟩ 1 (World.cell?_alloc_at _ _ _ _ rfl) hl hbs 22
  have hsz3 := hg3.size
  have hsza : (w2.alloc (.cells #[.string t] 23)).heap.size = w2.heap.size + 1 := by simp
  have k3 : ∀ b, b < w2.heap.size → tv.ownBlock ≠ some b → w3.heap[b]? = w2.heap[b]? := fun b hb hne => (hg3.block b (by omega) (fun e => hne e.symm)).trans (Below.heap_alloc _ _ b hb)
  have hst3 : WAt w3 wb bh bm bi tv := (k3 wb (by omega) (fun e => (hqk wb e).1 rfl)).trans hst2
  have k4 : ∀ b, b ≠ wb → (w3.setCell ⟨wb, 3, none⟩ v2).heap[b]? = w3.heap[b]? := fun b hb => Below.heap_setCell _ _ _ _ hb
  have keep : ∀ b, b < w1.heap.size → b ≠ wb → b ≠ bh → tv.ownBlock ≠ some b → (w3.setCell ⟨wb, 3, none⟩ v2).heap[b]? = w1.heap[b]? := fun b hb h1 h2 h3 =>
    (k4 b h1).trans ((k3 b (by omega) h3).trans (hg2.block b hb (by intro e; injection e with e; exact h2 e)))
  have lbh := s.h.lt
  refine ⟨w2, w3, v2, fun g => if g = w2.heap.size + 1 then .q else own g, hrun, hst2, hrun2, hst3, ?_, ?_⟩
  · have g2 : RowKit.Below base w1 w2 := (RowKit.Below.refl _ _).grown hg2 hbw (fun k hk => by injection hk with hk; rw [← hk]; exact s.bs.2.1)
    have g3 := ((g2.alloc (by omega) (.cells #[.string t] 23)).grown hg3 hbs (fun k hk => (s.q.lt hk).1))
    exact g3.setCell s.bs.1 v2
  · have hqo : ∀ g, v2.ownBlock = some g → (tv.ownBlock = some g ∨ g = w2.heap.size + 1) := by
      intro g hg
      rcases hloc with h | h
      · exact .inl (by rw [← h, hg])
      · right; rw [hg, hsza] at h; injection h
    have hlo : ∀ g, g < w1.heap.size → (if g = w2.heap.size + 1 then Tag.q else own g) = own g := fun g hg => if_neg (by omega)
    refine ⟨?_, ?_, ?_, ?_, ?_, ?_, ?_, ?_, ?_, ?_, ?_, s.ne, s.bs⟩
    · exact blk_set hst3 3 v2
    · exact hm2.same ((k4 bh (fun e => s.ne.1 e.symm)).trans (k3 bh (by omega) (fun e => (hqk bh e).2.1 rfl)))
    · exact (s.m.same (keep bm s.m.lt (fun e => s.ne.2.1 e.symm) (fun e => s.ne.2.2.2.1 e.symm) (fun e => (hqk bm e).2.2.1 rfl))).mono (Nat.le_succ _)
    · exact (s.i.same (keep bi s.i.lt (fun e => s.ne.2.2.1 e.symm) (fun e => s.ne.2.2.2.2.1 e.symm) (fun e => (hqk bi e).2.2.2 rfl))).mono (Nat.le_succ _)
    · refine hq3.same fun g hg => k4 g ?_
      rcases hqo g hg with h | h
      · exact (hqk g h).1
      · omega
    · intro g hg
      rcases hqo g hg with h | h
      · by_cases e : g = w2.heap.size + 1
        · rw [if_pos e]
        · rw [if_neg e]; exact s.qo g h
      · rw [if_pos h]
    · intro k v hk
      obtain ⟨r1, r2⟩ := s.mr k v hk
      refine ⟨r1.same fun g hg => ?_, fun g hg => by rw [hlo g (r1.lt hg).2]; exact r2 g hg⟩
      have ho := r2 g hg
      refine keep g (r1.lt hg).2 ?_ ?_ ?_
      · intro e; rw [e, s.oo.1] at ho; cases ho
      · intro e; rw [e, s.oo.2.1] at ho; cases ho
      · intro e; rw [s.qo g e] at ho; cases ho
    · intro k v hk
      obtain ⟨r1, r2⟩ := s.ir k v hk
      refine ⟨r1.same fun g hg => ?_, fun g hg => by rw [hlo g (r1.lt hg).2]; exact r2 g hg⟩
      have ho := r2 g hg
      refine keep g (r1.lt hg).2 ?_ ?_ ?_
      · intro e; rw [e, s.oo.1] at ho; cases ho
      · intro e; rw [e, s.oo.2.1] at ho; cases ho
      · intro e; rw [s.qo g e] at ho; cases ho
    · intro k v hk
      obtain ⟨r1, r2⟩ := s.xr k v hk
      refine ⟨r1.same fun g hg => ?_, fun g hg => by rw [hlo g (r1.lt hg).2]; exact r2 g hg⟩
      have ho := r2 g hg
      refine keep g (r1.lt hg).2 ?_ ?_ ?_
      · intro e; rw [e, s.oo.1] at ho; cases ho
      · intro e; rw [e, s.oo.2.1] at ho; cases ho
      · intro e; rw [s.qo g e] at ho; cases ho
    · exact ⟨by rw [hlo wb lwb]; exact s.oo.1, by rw [hlo bh lbh]; exact s.oo.2.1, by rw [hlo bm s.m.lt]; exact s.oo.2.2.1, by rw [hlo bi s.i.lt]; exact s.oo.2.2.2⟩
    · intro k v hk
      unfold put at hk
      split at hk
      · exact (Option.some.inj hk).symm
      · exact s.hv k v hk
set_option maxRecDepth 100000 in
set_option maxHeartbeats 1000000 in
theorem get_any (X : Value → List ByteArray → Prop) (base wb bh bm bi N : Nat) (H M I : List UInt8 → Option Value) (PF IL : List UInt8 → List ByteArray) (todo : List ByteArray) (tv : Value) (own : Nat → Tag) (t : ByteArray) (w : World) (s : KS X base wb bh bm bi w N H M I PF IL todo tv own)
    (ht : t.size ≤ maxLen) (hN : N < 100000000) (hl : todo.length + 1 ≤ 100000000) (hbw : base ≤ w.heap.size) :
    Calls Try.prog 43 #[.pointer (some ⟨wb, 0, none⟩), .string t] w fun e w' => e = .returned (.tuple #[]) ∧ RowKit.Below base w w' ∧
      ((H t.data.toList).isSome = true ∧ KS X base wb bh bm bi w' N H M I PF IL todo tv own ∨ (H t.data.toList).isSome = false ∧ ∃ tv' own', KS X base wb bh bm bi w' (N + 1) (put H t.data.toList (.agg #[])) M I PF IL (todo ++ [t]) tv' own') := by
  have hhas := has_any wb bh bm bi N tv H t w s.st s.h ht s.hv
  obtain ⟨b, hb⟩ : ∃ b, (H t.data.toList).isSome = b := ⟨_, rfl⟩
  rw [hb] at hhas ⊢
  cases b with
  | true =>
    go_enter Try.func43, Try.ntmps43
    go_wp2_with (go_at_call 33; refine hhas.mono ?_; rintro e w1 ⟨rfl, hb1⟩)
    refine Great.bodyPost_end0 rfl rfl ?_
    exact ⟨rfl, hb1.mono hbw, .inl ⟨trivial, s.below hb1⟩⟩
  | false =>
    go_enter Try.func43, Try.ntmps43
    go_wp2_with (first | (go_at_call 33; refine hhas.mono ?_; rintro e w1 ⟨rfl, hb1⟩; obtain ⟨w2, w3, v2, own', hrun, hst2, hrun2, hst3, hbel, hks⟩ := (s.below hb1).got t ht hN hl (Nat.le_trans hbw hb1.size); obtain ⟨A2, cp2, e2⟩ := hks.q.form; (rw [List.length_append, List.length_singleton] at e2); subst e2; obtain ⟨c0, c1, c2, c3⟩ := (s.below hb1).st.cell; obtain ⟨d0, d1, d2, d3⟩ := hst2.cell; obtain ⟨f0, f1, f2, f3⟩ := hst3.cell; have fz := blk_frozen hst3 3; have HRUN2 := Lib.hid hrun2; have HB := Lib.hid ((hb1.mono hbw).trans hbel); have HKS := Lib.hid hks; clear hst2 hst3 hrun2 hbel hks hb1) | (at_builtin; refine wpList_q ⟨w2.heap.size, 0, none⟩ 1 rfl (.tmp 18) (.tmp 20) rfl rfl rfl HRUN2.out ?_))
    refine Great.bodyPost_end0 rfl rfl ?_
    exact ⟨rfl, HB.out, .inr ⟨trivial, _, own', HKS.out⟩⟩
end Go.Proofs.Ytinkkiglkjihmaa.Kw
