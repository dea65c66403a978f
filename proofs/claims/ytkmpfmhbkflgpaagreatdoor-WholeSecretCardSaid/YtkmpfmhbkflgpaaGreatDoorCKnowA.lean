import Derived.Test.YtkmpfmhbkflgpaaGreatDoorCParts
import Derived.Maps.OwnSet
import Derived.Deep.AppendSrc
import Derived.Great.Walk
import Derived.Deep.RegionLaw
import Derived.BigRegion
/- know: maps that hold values as they are; a queue of strings. -/
set_option linter.unusedVariables false
set_option linter.unusedSimpArgs false
namespace Go.Proofs.YtkmpfmhbkflgpaaGreatDoor.Kw
open Go.RowKit Go.Maps Go.WideMaps Go.Proofs.YtkmpfmhbkflgpaaGreatDoorW.PrintWords Go.Proofs.YtkmpfmhbkflgpaaGreatDoorW.PrintWords.Kd

/-- How an element reads: as a token that is the value itself. -/
def raw (v : Value) : Option (DataW Value × List MemPlace) := some (.held v, [])
theorem law : Keyed Tryz.prog 26 := string_keyed Tryz.underlying26

structure Reads (D : DataW Value) (f : List UInt8 → Option Value) : Prop where
  isMap : IsMap D
  has : ∀ k, Maps.has D (.string k) = (f k).isSome
  at_ : ∀ k v, f k = some v → ∀ z, D.atKey (.string k) z = .held v
  out : ∀ k, f k = none → ∀ z, D.atKey (.string k) z = z
/-- Block b of w is a map of at most n entries, which tells f's values. -/
def MapAt (w : World) (b n : Nat) (f : List UInt8 → Option Value) : Prop := ∃ D, w.ownsMap Tryz.prog 26 raw b n D ∧ Reads D f

theorem MapAt.made (w : World) : MapAt (w.alloc (.map #[] 0)) w.heap.size 0 (fun _ => none) :=
  ⟨.map [], World.ownsMap_made _ _ _ _, ⟨isMap_empty, fun k => rfl, fun k v h => by (cases h), fun k _ z => by first | rfl | simp [DataW.atKey]⟩⟩
theorem MapAt.lt {w : World} {b n : Nat} {f : List UInt8 → Option Value} (h : MapAt w b n f) : b < w.heap.size := by
  obtain ⟨D, h, _⟩ := h; exact h.lt
theorem MapAt.kept {w w' : World} {b n : Nat} {f : List UInt8 → Option Value} {row : Option Nat} (h : MapAt w b n f) (hg : w.grownBy w' row) (hne : some b ≠ row) : MapAt w' b n f := by
  obtain ⟨D, h, r⟩ := h; exact ⟨D, h.kept hg hne, r⟩
theorem MapAt.below {w w' : World} {b n : Nat} {f : List UInt8 → Option Value} (h : MapAt w b n f) (hb : RowKit.Below w.heap.size w w') : MapAt w' b n f := by
  have hlt := h.lt
  obtain ⟨D, ⟨es, clock, h1, h2⟩, r⟩ := h
  exact ⟨D, ⟨es, clock, (hb.block b hlt).trans h1, h2⟩, r⟩
theorem MapAt.same {w w' : World} {b n : Nat} {f : List UInt8 → Option Value} (h : MapAt w b n f) (hb : w'.heap[b]? = w.heap[b]?) : MapAt w' b n f := by
  obtain ⟨D, ⟨es, clock, h1, h2⟩, r⟩ := h
  exact ⟨D, ⟨es, clock, hb.trans h1, h2⟩, r⟩
theorem MapAt.mono {w : World} {b n n' : Nat} {f : List UInt8 → Option Value} (h : MapAt w b n f) (hn : n ≤ n') : MapAt w b n' f := by
  obtain ⟨D, h, r⟩ := h; exact ⟨D, h.mono hn, r⟩
theorem held_inj {a b : Value} {p : List MemPlace} (h : raw a = some (DataW.held b, p)) : a = b := by
  unfold raw at h
  have := Option.some.inj h
  injection this with h1 _
  injection h1
theorem MapAt.look {w : World} {b n : Nat} {f : List UInt8 → Option Value} (h : MapAt w b n f) {t e : TypeId} (ht : Tryz.prog.underlying t = some (.map 26 e)) {z : Value} (hz : (zeroValue e).run Tryz.prog w = .ok z w) (s : ByteArray) (hs : s.size ≤ maxLen) :
    (Instr.lookup t (.map (some b)) (.string s) false).run Tryz.prog w = .ok ((f s.data.toList).getD z) w := by
  obtain ⟨D, h, r⟩ := h
  obtain ⟨v, ps, hrun, hv⟩ := h.lookup law ht hz (zd := .held z) (zp := []) rfl (keyOf_string_mk Tryz.underlying26 hs)
  rw [hrun]
  cases hf : f s.data.toList with
  | none => rw [r.out _ hf] at hv; rw [held_inj hv]; rfl
  | some u => rw [r.at_ _ _ hf] at hv; rw [held_inj hv]; rfl
theorem MapAt.look_ok {w : World} {b n : Nat} {f : List UInt8 → Option Value} (h : MapAt w b n f) {t e : TypeId} (ht : Tryz.prog.underlying t = some (.map 26 e)) {z : Value} (hz : (zeroValue e).run Tryz.prog w = .ok z w) (s : ByteArray) (hs : s.size ≤ maxLen) :
    (Instr.lookup t (.map (some b)) (.string s) true).run Tryz.prog w = .ok (.tuple #[(f s.data.toList).getD z, .bool (f s.data.toList).isSome]) w := by
  obtain ⟨D, h, r⟩ := h
  obtain ⟨v, ps, hrun, hv⟩ := h.look_ok law ht hz (zd := .held z) (zp := []) rfl (keyOf_string_mk Tryz.underlying26 hs)
  rw [hrun, r.has]
  cases hf : f s.data.toList with
  | none => rw [r.out _ hf] at hv; rw [held_inj hv]; rfl
  | some u => rw [r.at_ _ _ hf] at hv; rw [held_inj hv]; rfl
def put (f : List UInt8 → Option Value) (k : List UInt8) (v : Value) : List UInt8 → Option Value := fun x => if x = k then some v else f x
theorem string_key (k : List UInt8) : WideAt.IsKeyLit (.string k) := trivial
theorem MapAt.update {w : World} {b n : Nat} {f : List UInt8 → Option Value} (h : MapAt w b n f) {t e : TypeId} (ht : Tryz.prog.underlying t = some (.map 26 e)) (hn : n < maxLen) (s : ByteArray) (hs : s.size ≤ maxLen) (v : Value) :
    ∃ w', (Instr.mapUpdate t (.map (some b)) (.string s) v).run Tryz.prog w = .ok () w' ∧ MapAt w' b (n + 1) (put f s.data.toList v) ∧ w.grownBy w' (some b) := by
  obtain ⟨D, h, r⟩ := h
  obtain ⟨w', hrun, h', hg⟩ := h.update law ht hn (val := v) (d := .held v) (ps := []) (keyOf_string_mk Tryz.underlying26 hs) rfl
  refine ⟨w', hrun, ⟨_, h', ⟨r.isMap.put _ _, fun k => ?_, fun k u hu z => ?_, fun k hk z => ?_⟩⟩, hg⟩
  · unfold put
    by_cases e : k = s.data.toList
    · subst e; rw [has_put_same r.isMap (string_key _), if_pos rfl]; rfl
    · rw [has_put_other (by intro q; injection q with q; exact e q), r.has, if_neg e]
  · unfold put at hu
    by_cases e : k = s.data.toList
    · subst e; rw [if_pos rfl] at hu; rw [atKey_put_same r.isMap (string_key _), Option.some.inj hu]
    · rw [if_neg e] at hu; rw [atKey_put_other (by intro q; injection q with q; exact e q), r.at_ _ _ hu]
  · unfold put at hk
    by_cases e : k = s.data.toList
    · rw [if_pos e] at hk; cases hk
    · rw [if_neg e] at hk; rw [atKey_put_other (by intro q; injection q with q; exact e q), r.out _ hk]

/-! ### A queue of strings: a slice of a block of its own, from whatever place on -/
def QRow (base : Nat) (w : World) (v : Value) (xs : List ByteArray) : Prop :=
  (v = .slice none 0 0 ∧ xs = []) ∨ ∃ g off cap cur, v = .slice (some ⟨g, off, none⟩) xs.length cap ∧ base ≤ g ∧ w.heap[g]? = some (.cells cur 26 (0, 0)) ∧ xs.length ≤ cap ∧ off + cap ≤ cur.size ∧ ∀ j x, xs[j]? = some x → cur[off + j]? = some (.string x)
theorem QRow.nil (base : Nat) (w : World) : QRow base w (.slice none 0 0) [] := .inl ⟨rfl, rfl⟩
theorem QRow.same {base : Nat} {w w' : World} {v : Value} {xs : List ByteArray} (h : QRow base w v xs) (hk : ∀ g, v.ownBlock = some g → w'.heap[g]? = w.heap[g]?) : QRow base w' v xs := by
  rcases h with h | ⟨g, off, cap, cur, rfl, hb, hg, r⟩
  · exact .inl h
  · exact .inr ⟨g, off, cap, cur, rfl, hb, (hk g rfl).trans hg, r⟩
theorem QRow.form {base : Nat} {w : World} {v : Value} {xs : List ByteArray} (h : QRow base w v xs) : ∃ A cap, v = .slice A xs.length cap := by
  rcases h with ⟨rfl, rfl⟩ | ⟨g, off, cap, cur, rfl, _⟩
  · exact ⟨none, 0, rfl⟩
  · exact ⟨_, _, rfl⟩
/-- Without its first. -/
theorem QRow.rest {base : Nat} {w : World} {x : ByteArray} {xs : List ByteArray} {v : Value} (h : QRow base w v (x :: xs)) : ∃ g off cap, v = .slice (some ⟨g, off, none⟩) (xs.length + 1) (cap + 1) ∧ w.cell? ⟨g, off, none⟩ = some (.string x) ∧ base ≤ g ∧ QRow base w (.slice (some ⟨g, off + 1, none⟩) xs.length cap) xs := by
  rcases h with ⟨_, h⟩ | ⟨g, off, cap, cur, rfl, hb, hg, h1, h2, h3⟩
  · cases h
  · obtain ⟨c, rfl⟩ : ∃ c, cap = c + 1 := ⟨cap - 1, by simp at h1; omega⟩
    refine ⟨g, off, c, rfl, ?_, hb, .inr ⟨g, off + 1, c, cur, rfl, hb, hg, by simp at h1; omega, by omega, fun j y hj => ?_⟩⟩
    · have := h3 0 x rfl
      rw [Nat.add_zero] at this
      simpa [World.cell?, hg] using this
    · have := h3 (j + 1) y (by simpa using hj)
      rw [show off + 1 + j = off + (j + 1) by omega]
      exact this

theorem QRow.of_own {base : Nat} {w : World} {v : Value} {n : Nat} {ys : List Value} {xs : List ByteArray} (h : w.ownsRow base 26 1 v n ys) (hy : ys = xs.map Value.string) (hn : n = xs.length) : QRow base w v xs := by
  subst hy; subst hn
  rcases h.2 with ⟨rfl, hz⟩ | ⟨g, cap, cur, rfl, hb, hg, h1, h2, h3, h4⟩
  · exact .inl ⟨rfl, List.eq_nil_of_length_eq_zero hz⟩
  · refine .inr ⟨g, 0, cap, cur, rfl, hb, hg, h1, by omega, fun j x hj => ?_⟩
    have hl := (List.getElem?_eq_some_iff.1 hj).1
    have e1 : (cur.toList.take xs.length)[j]? = (xs.map Value.string)[j]? := by rw [← h4, Nat.mul_one]
    rw [List.getElem?_take_of_lt hl, Array.getElem?_toList, List.getElem?_map, hj] at e1
    rw [Nat.zero_add, e1]; rfl
theorem QRow.push {base : Nat} {W : World} {v : Value} {xs : List ByteArray} (h : QRow base W v xs) (x : ByteArray) (a : Addr) (c : Nat) (ha : W.cell? a = some (.string x)) (hlen : xs.length + 1 ≤ 100000000) (hbase : base ≤ W.heap.size) (ty : TypeId) :
    ∃ v' W', (Builtin.append_ #[31, 31] ty #[v, .slice (some a) 1 c]).run Tryz.prog W = .ok v' W' ∧ QRow base W' v' (xs ++ [x]) ∧ W.grownBy W' v.ownBlock ∧ (v'.ownBlock = v.ownBlock ∨ v'.ownBlock = some W.heap.size) := by
  obtain ⟨i0, hi, hz0, hz1, hz2⟩ := info_parts Rdr.infoT
  have hnews : ∀ j u, ([Value.string x] : List Value)[j]? = some u → W.cell? (a.add j) = some u := by
    intro j u hj
    rcases j with _ | j
    · have e : a.add 0 = a := by unfold Addr.add; split <;> simp_all
      rw [e, ha]; simpa using hj
    · simp at hj
  have h1 : ∀ u ∈ ([Value.string x] : List Value), u.oneCell' = true := by intro u hu; rw [List.mem_singleton.1 hu]; rfl
  have h63 : maxLen = 9223372036854775807 := rfl
  rcases h with ⟨rfl, rfl⟩ | ⟨g, off, cap, cur, rfl, hb, hg, hc, hfit, hcell⟩
  · obtain ⟨g, cap, w', hr, hown, hgrow, hloc, hlt⟩ := run_append_lies (P := Tryz.prog) W 31 ty base 26 i0 (.string ⟨#[]⟩) 1 16 Tryz.underlying31 hi hz0 hz1 hz2 rfl (by decide) (.slice none 0 0) 0 [] (World.ownsRow_nil _ _ _ _) a 1 c [.string x] rfl hnews h1 (by decide) (by omega) (by omega) hbase _ rfl
    refine ⟨_, w', hr, QRow.of_own hown rfl rfl, hgrow, ?_⟩
    rcases hloc with h | h
    · cases h
    · right; rw [h]; rfl
  · by_cases hroom : xs.length + 1 ≤ cap
    · have hsrc : Src Tryz.prog i0.size 31 (.slice (some a) 1 c) 1 [.string x] W := by
        rw [hz1]
        exact Src.ofSlice W Tryz.underlying31 a 1 c [.string x] rfl hnews h1
      have hcells : ∀ j, j < cur.size → (W.cell? ⟨g, j, none⟩).isSome = true := fun j hj => by simp [World.cell?, hg, hj]
      have hr := run_append_room_src (P := Tryz.prog) W 31 31 ty 26 i0 Tryz.underlying31 hi g off xs.length cap (.slice (some a) 1 c) 1 [.string x] hsrc hroom
        (by rw [hz1]; intro j hj; simp at hj; subst hj; exact hcells _ (by omega)) (by intro j hj; simp [World.frozen?, hg])
      obtain ⟨cur', k1, k2, k3⟩ := setCells_row [.string x] (off + xs.length * i0.size) W cur hg (by rw [hz1]; simp; omega)
      refine ⟨_, _, hr, .inr ⟨g, off, cap, cur', by simp, hb, k1, by simpa using hroom, by omega, fun j y hj => ?_⟩, ?_, .inl rfl⟩
      · rw [← Array.getElem?_toList, k3, hz1, Nat.mul_one]
        have hl := (List.getElem?_eq_some_iff.1 hj).1
        rw [List.length_append, List.length_singleton] at hl
        have hcl : off + xs.length < cur.toList.length := by
          have : cur.toList.length = cur.size := Array.length_toList
          omega
        have ht : (cur.toList.take (off + xs.length)).length = off + xs.length := by rw [List.length_take]; exact Nat.min_eq_left (Nat.le_of_lt hcl)
        rcases Nat.lt_or_ge j xs.length with g1 | g1
        · rw [List.append_assoc, List.getElem?_append_left (by rw [ht]; exact Nat.add_lt_add_left g1 off), List.getElem?_take_of_lt (Nat.add_lt_add_left g1 off), Array.getElem?_toList]
          rw [List.getElem?_append_left g1] at hj
          exact hcell j y hj
        · obtain rfl : j = xs.length := by omega
          rw [List.getElem?_append_right (Nat.le_refl _), Nat.sub_self] at hj
          rw [List.append_assoc, List.getElem?_append_right (by rw [ht]; exact Nat.le_refl _), ht, Nat.sub_self]
          simpa using hj
      · obtain ⟨e1, e2, e3, e4⟩ := setCells_same g [.string x] (off + xs.length * i0.size) W
        exact ⟨e1, e2, e3, by omega, fun k hk hne => setCells_far [.string x] _ k (fun e => hne (by rw [e]; rfl))⟩
    · have holds : ∀ j u, (xs.map Value.string)[j]? = some u → W.cell? ((⟨g, off, none⟩ : Addr).add j) = some u := by
        intro j u hj
        rw [List.getElem?_map] at hj
        obtain ⟨y, hy, rfl⟩ := Option.map_eq_some_iff.1 hj
        rw [show ((⟨g, off, none⟩ : Addr).add j) = ⟨g, off + j, none⟩ by unfold Addr.add; split <;> simp_all]
        have := hcell j y hy
        simpa [World.cell?, hg] using this
      have hr := run_append_grow (P := Tryz.prog) W 31 ty 26 i0 (.string ⟨#[]⟩) Tryz.underlying31 hi hz0 ⟨g, off, none⟩ xs.length cap (xs.map Value.string) (by rw [hz1]; simp) holds a 1 c [.string x] (by rw [hz1]; rfl) hnews (by omega) (by omega) (growslice_fits (by omega) (by rw [hz2]; omega))
      refine ⟨_, _, hr, .inr ⟨W.heap.size, 0, grownCap W (xs.length + 1) cap 26, _, by simp, hbase, heap_alloc_new W.drew _, ?_, ?_, fun j y hj => ?_⟩, ⟨rfl, rfl, rfl, by simp, fun k hk _ => heap_alloc_old W.drew _ hk⟩, .inr rfl⟩
      · have := grownCap_ge W (xs.length + 1) cap 26; simpa using this
      · have := grownCap_ge W (xs.length + 1) cap 26
        simp [size_zeroCells, Value.cells]; omega
      · have hl := (List.getElem?_eq_some_iff.1 hj).1
        rw [Nat.zero_add, ← Array.getElem?_toList]
        simp only [Array.toList_append]
        have e : (xs.map Value.string ++ [Value.string x]) = (xs ++ [x]).map Value.string := by simp
        rw [List.getElem?_append_left (by simpa using hl), e, List.getElem?_map, hj]
        rfl
end Go.Proofs.YtkmpfmhbkflgpaaGreatDoor.Kw

/- know: has; the state. -/
set_option linter.unusedVariables false
set_option linter.unusedSimpArgs false
namespace Go.Proofs.YtkmpfmhbkflgpaaGreatDoor.Kw
open Go.RowKit Go.Maps Go.WideMaps Go.Proofs.YtkmpfmhbkflgpaaGreatDoorW.PrintWords Go.Proofs.YtkmpfmhbkflgpaaGreatDoorW.PrintWords.Kd

theorem zeroU (w : World) : (zeroValue 129).run Tryz.prog w = .ok (.agg #[]) w := by kernel_rfl
theorem zeroS (w : World) : (zeroValue 31).run Tryz.prog w = .ok (.slice none 0 0) w := by kernel_rfl
/-- The struct: its four cells. -/
def WAt (w : World) (wb bh bm bi : Nat) (tv : Value) : Prop := w.heap[wb]? = some (.cells #[.map (some bh), .map (some bm), .map (some bi), tv] 126 (0, 0))
theorem WAt.cell {w : World} {wb bh bm bi : Nat} {tv : Value} (h : WAt w wb bh bm bi tv) : w.cell? ⟨wb, 0, none⟩ = some (.map (some bh)) ∧ w.cell? ⟨wb, 1, none⟩ = some (.map (some bm)) ∧ w.cell? ⟨wb, 2, none⟩ = some (.map (some bi)) ∧ w.cell? ⟨wb, 3, none⟩ = some tv := by
  unfold WAt at h
  simp [World.cell?, h]
set_option maxRecDepth 100000 in
theorem has_any (wb bh bm bi n : Nat) (tv : Value) (H : List UInt8 → Option Value) (t : ByteArray) (w : World) (hw : WAt w wb bh bm bi tv) (hm : MapAt w bh n H) (ht : t.size ≤ maxLen) (hv : ∀ k v, H k = some v → v = .agg #[]) :
    Calls Tryz.prog 45 #[.pointer (some ⟨wb, 0, none⟩), .string t] w fun e w' => e = .returned (.bool (H t.data.toList).isSome) ∧ RowKit.Below w.heap.size w w' := by
  obtain ⟨c0, c1, c2, c3⟩ := hw.cell
  have hl := hm.look_ok Tryz.underlying123 (zeroU w) t ht
  have hg : (H t.data.toList).getD (.agg #[]) = .agg #[] := by
    cases h : H t.data.toList with
    | none => rfl
    | some v => rw [hv _ _ h]; rfl
  rw [hg] at hl
  generalize (H t.data.toList).isSome = b at hl ⊢
  go_enter Tryz.func45, Tryz.ntmps45
  go_wp2
  go_ret
  exact ⟨rfl, by first | exact RowKit.Below.refl _ _ | exact (RowKit.Below.refl _ _).alloc (Nat.le_refl _) _⟩

theorem wpList_q {ops : Array Oper} {rest : List Oper} {o : Oper} {a : Act} {Q : Exit → Act → World → Prop} {W W' : World} {v v' : Value} (ad : Addr) (c : Nat) (hgd : o.guard = none) (s x : Operand)
    (ho : o.op = Op.call { callee := Callee.builtin Builtin.append, args := #[s, x], argTypes := #[31, 31] }) (hs : a.eval s = v) (hx : a.eval x = .slice (some ad) 1 c)
    (hrun : (Builtin.append_ #[31, 31] o.type #[v, .slice (some ad) 1 c]).run Tryz.prog W = .ok v' W') (h : wpList Tryz.prog ops Q rest (a.put o.dst v') W') : wpList Tryz.prog ops Q (o :: rest) a W := by
  refine wpList_plain hgd fun K hK => ?_
  unfold Oper.wp execOp
  simp only [ho, resolve, invoke, builtin, Sem.run_bind, Sem.run_pure, Result.andThen_ok, List.map_toArray, List.map_cons, List.map_nil, hs, hx, hrun]
  exact hK _ _ h
/-- Whose a block is. -/
inductive Tag | q | m | i (k : List UInt8) | o
/-- The state: what the struct's maps tell (H, M, I), what is to do; whose each block is (own). -/
structure KS (X : Value → List ByteArray → Prop) (base wb bh bm bi : Nat) (w : World) (N : Nat) (H M I : List UInt8 → Option Value) (PF IL : List UInt8 → List ByteArray) (todo : List ByteArray) (tv : Value) (own : Nat → Tag) : Prop where
  st : WAt w wb bh bm bi tv
  h : MapAt w bh N H
  m : MapAt w bm N M
  i : MapAt w bi N I
  q : QRow base w tv todo
  qo : ∀ g, tv.ownBlock = some g → own g = .q
  mr : ∀ k v, M k = some v → QRow base w v (PF k) ∧ ∀ g, v.ownBlock = some g → own g = .m
  ir : ∀ k v, I k = some v → QRow base w v (IL k) ∧ ∀ g, v.ownBlock = some g → own g = .i k
  xr : ∀ v xs, X v xs → QRow base w v xs ∧ ∀ g, v.ownBlock = some g → own g = .m
  oo : own wb = .o ∧ own bh = .o ∧ own bm = .o ∧ own bi = .o
  hv : ∀ k v, H k = some v → v = .agg #[]
  ne : wb ≠ bh ∧ wb ≠ bm ∧ wb ≠ bi ∧ bh ≠ bm ∧ bh ≠ bi ∧ bm ≠ bi
  bs : base ≤ wb ∧ base ≤ bh ∧ base ≤ bm ∧ base ≤ bi
theorem QRow.lt {base : Nat} {w : World} {v : Value} {xs : List ByteArray} (h : QRow base w v xs) {g : Nat} (hg : v.ownBlock = some g) : base ≤ g ∧ g < w.heap.size := by
  rcases h with ⟨rfl, _⟩ | ⟨g', off, cap, cur, rfl, hb, hh, _⟩
  · cases hg
  · obtain rfl : g' = g := by simpa [Value.ownBlock] using hg
    exact ⟨hb, (Array.getElem?_eq_some_iff.1 hh).1⟩
/-- All blocks that lay there are as they were. -/
theorem KS.below {X : Value → List ByteArray → Prop} {base wb bh bm bi : Nat} {w w' : World} {N : Nat} {H M I : List UInt8 → Option Value} {PF IL : List UInt8 → List ByteArray} {todo : List ByteArray} {tv : Value} {own : Nat → Tag}
    (s : KS X base wb bh bm bi w N H M I PF IL todo tv own) (hb : RowKit.Below w.heap.size w w') : KS X base wb bh bm bi w' N H M I PF IL todo tv own :=
  ⟨by have h := s.st; unfold WAt at h ⊢; exact (hb.block wb (Array.getElem?_eq_some_iff.1 h).1).trans h, s.h.below hb, s.m.below hb, s.i.below hb, s.q.same fun g hg => hb.block g (s.q.lt hg).2, s.qo,
    fun k v hk => ⟨(s.mr k v hk).1.same fun g hg => hb.block g ((s.mr k v hk).1.lt hg).2, (s.mr k v hk).2⟩, fun k v hk => ⟨(s.ir k v hk).1.same fun g hg => hb.block g ((s.ir k v hk).1.lt hg).2, (s.ir k v hk).2⟩, fun k v hk => ⟨(s.xr k v hk).1.same fun g hg => hb.block g ((s.xr k v hk).1.lt hg).2, (s.xr k v hk).2⟩, s.oo, s.hv, s.ne, s.bs⟩
/-- A term more is had: the worlds of 'get'. -/
theorem KS.got {X : Value → List ByteArray → Prop} {base wb bh bm bi N : Nat} {H M I : List UInt8 → Option Value} {PF IL : List UInt8 → List ByteArray} {todo : List ByteArray} {tv : Value} {own : Nat → Tag} {w1 : World} (s : KS X base wb bh bm bi w1 N H M I PF IL todo tv own) (t : ByteArray)
    (ht : t.size ≤ maxLen) (hN : N < 100000000) (hl : todo.length + 1 ≤ 100000000) (hbw : base ≤ w1.heap.size) :
    ∃ w2 w3 v2 own', (Instr.mapUpdate 123 (.map (some bh)) (.string t) (.agg #[])).run Tryz.prog w1 = .ok () w2 ∧ WAt w2 wb bh bm bi tv ∧
      (Builtin.append_ #[31, 31] 31 #[tv, .slice (some ⟨w2.heap.size, 0, none⟩) 1 1]).run Tryz.prog (w2.alloc (.cells #[.string t] 26)) = .ok v2 w3 ∧
      WAt w3 wb bh bm bi tv ∧ RowKit.Below base w1 (w3.setCell ⟨wb, 3, none⟩ v2) ∧ KS X base wb bh bm bi (w3.setCell ⟨wb, 3, none⟩ v2) (N + 1) (put H t.data.toList (.agg #[])) M I PF IL (todo ++ [t]) v2 own' := by
  have hML : maxLen = 9223372036854775807 := rfl
  obtain ⟨w2, hrun, hm2, hg2⟩ := s.h.update Tryz.underlying123 (by omega) t ht (.agg #[])
  have lwb := (Array.getElem?_eq_some_iff.1 s.st).1
  have hst2 : WAt w2 wb bh bm bi tv := (hg2.block wb lwb (by intro e; injection e with e; exact s.ne.1 e)).trans s.st
  have hqk : ∀ g, tv.ownBlock = some g → g ≠ wb ∧ g ≠ bh ∧ g ≠ bm ∧ g ≠ bi := by
    intro g hg
    have h1 := s.qo g hg
    refine ⟨?_, ?_, ?_, ?_⟩ <;> (intro e; rw [e] at h1)
    · rw [s.oo.1] at h1; cases h1
    · rw [s.oo.2.1] at h1; cases h1
    · rw [s.oo.2.2.1] at h1; cases h1
    · rw [s.oo.2.2.2] at h1; cases h1
  have hq2 : QRow base (w2.alloc (.cells #[.string t] 26)) tv todo := s.q.same fun g hg => (Below.heap_alloc _ _ g (Nat.lt_of_lt_of_le (s.q.lt hg).2 hg2.size)).trans (hg2.block g (s.q.lt hg).2 (by intro e; injection e with e; exact (hqk g hg).2.1 e))
  have hsz2 := hg2.size
  have hbs : base ≤ (w2.alloc (.cells #[.string t] 26)).heap.size := by simp; omega
  obtain ⟨v2, w3, hrun2, hq3, hg3, hloc⟩ := hq2.push t ⟨w2.heap.size, 0, none⟩ 1 (World.cell?_alloc_at _ _ _ _ rfl) hl hbs 31
  have hsz3 := hg3.size
  have hsza : (w2.alloc (.cells #[.string t] 26)).heap.size = w2.heap.size + 1 := by simp
  have k3 : ∀ b, b < w2.heap.size → tv.ownBlock ≠ some b → w3.heap[b]? = w2.heap[b]? := fun b hb hne => (hg3.block b (by omega) (fun e => hne e.symm)).trans (Below.heap_alloc _ _ b hb)
  have hst3 : WAt w3 wb bh bm bi tv := (k3 wb (by omega) (fun e => (hqk wb e).1 rfl)).trans hst2
  have k4 : ∀ b, b ≠ wb → (w3.setCell ⟨wb, 3, none⟩ v2).heap[b]? = w3.heap[b]? := fun b hb => Below.heap_setCell _ _ _ _ hb
  have keep : ∀ b, b < w1.heap.size → b ≠ wb → b ≠ bh → tv.ownBlock ≠ some b → (w3.setCell ⟨wb, 3, none⟩ v2).heap[b]? = w1.heap[b]? := fun b hb h1 h2 h3 =>
    (k4 b h1).trans ((k3 b (by omega) h3).trans (hg2.block b hb (by intro e; injection e with e; exact h2 e)))
  have lbh := s.h.lt
  refine ⟨w2, w3, v2, fun g => if g = w2.heap.size + 1 then .q else own g, hrun, hst2, hrun2, hst3, ?_, ?_⟩
  · have g2 : RowKit.Below base w1 w2 := (RowKit.Below.refl _ _).grown hg2 hbw (fun k hk => by injection hk with hk; rw [← hk]; exact s.bs.2.1)
    have g3 := ((g2.alloc (by omega) (.cells #[.string t] 26)).grown hg3 hbs (fun k hk => (s.q.lt hk).1))
    exact g3.setCell s.bs.1 v2
  · have hqo : ∀ g, v2.ownBlock = some g → (tv.ownBlock = some g ∨ g = w2.heap.size + 1) := by
      intro g hg
      rcases hloc with h | h
      · exact .inl (by rw [← h, hg])
      · right; rw [hg, hsza] at h; injection h
    have hlo : ∀ g, g < w1.heap.size → (if g = w2.heap.size + 1 then Tag.q else own g) = own g := fun g hg => if_neg (by omega)
    refine ⟨?_, ?_, ?_, ?_, ?_, ?_, ?_, ?_, ?_, ?_, ?_, s.ne, s.bs⟩
    · exact blk_set hst3 3 v2
    · exact hm2.same ((k4 bh (fun e => s.ne.1 e.symm)).trans (k3 bh (by omega) (fun e => (hqk bh e).2.1 rfl)))
    · exact (s.m.same (keep bm s.m.lt (fun e => s.ne.2.1 e.symm) (fun e => s.ne.2.2.2.1 e.symm) (fun e => (hqk bm e).2.2.1 rfl))).mono (Nat.le_succ _)
    · exact (s.i.same (keep bi s.i.lt (fun e => s.ne.2.2.1 e.symm) (fun e => s.ne.2.2.2.2.1 e.symm) (fun e => (hqk bi e).2.2.2 rfl))).mono (Nat.le_succ _)
    · refine hq3.same fun g hg => k4 g ?_
      rcases hqo g hg with h | h
      · exact (hqk g h).1
      · omega
    · intro g hg
      rcases hqo g hg with h | h
      · by_cases e : g = w2.heap.size + 1
        · rw [if_pos e]
        · rw [if_neg e]; exact s.qo g h
      · rw [if_pos h]
    · intro k v hk
      obtain ⟨r1, r2⟩ := s.mr k v hk
      refine ⟨r1.same fun g hg => ?_, fun g hg => by rw [hlo g (r1.lt hg).2]; exact r2 g hg⟩
      have ho := r2 g hg
      refine keep g (r1.lt hg).2 ?_ ?_ ?_
      · intro e; rw [e, s.oo.1] at ho; cases ho
      · intro e; rw [e, s.oo.2.1] at ho; cases ho
      · intro e; rw [s.qo g e] at ho; cases ho
    · intro k v hk
      obtain ⟨r1, r2⟩ := s.ir k v hk
      refine ⟨r1.same fun g hg => ?_, fun g hg => by rw [hlo g (r1.lt hg).2]; exact r2 g hg⟩
      have ho := r2 g hg
      refine keep g (r1.lt hg).2 ?_ ?_ ?_
      · intro e; rw [e, s.oo.1] at ho; cases ho
      · intro e; rw [e, s.oo.2.1] at ho; cases ho
      · intro e; rw [s.qo g e] at ho; cases ho
    · intro k v hk
      obtain ⟨r1, r2⟩ := s.xr k v hk
      refine ⟨r1.same fun g hg => ?_, fun g hg => by rw [hlo g (r1.lt hg).2]; exact r2 g hg⟩
      have ho := r2 g hg
      refine keep g (r1.lt hg).2 ?_ ?_ ?_
      · intro e; rw [e, s.oo.1] at ho; cases ho
      · intro e; rw [e, s.oo.2.1] at ho; cases ho
      · intro e; rw [s.qo g e] at ho; cases ho
    · exact ⟨by rw [hlo wb lwb]; exact s.oo.1, by rw [hlo bh lbh]; exact s.oo.2.1, by rw [hlo bm s.m.lt]; exact s.oo.2.2.1, by rw [hlo bi s.i.lt]; exact s.oo.2.2.2⟩
    · intro k v hk
      unfold put at hk
      split at hk
      · exact (Option.some.inj hk).symm
      · exact s.hv k v hk
set_option maxRecDepth 100000 in
set_option maxHeartbeats 1000000 in
theorem get_any (X : Value → List ByteArray → Prop) (base wb bh bm bi N : Nat) (H M I : List UInt8 → Option Value) (PF IL : List UInt8 → List ByteArray) (todo : List ByteArray) (tv : Value) (own : Nat → Tag) (t : ByteArray) (w : World) (s : KS X base wb bh bm bi w N H M I PF IL todo tv own)
    (ht : t.size ≤ maxLen) (hN : N < 100000000) (hl : todo.length + 1 ≤ 100000000) (hbw : base ≤ w.heap.size) :
    Calls Tryz.prog 68 #[.pointer (some ⟨wb, 0, none⟩), .string t] w fun e w' => e = .returned (.tuple #[]) ∧ RowKit.Below base w w' ∧
      ((H t.data.toList).isSome = true ∧ KS X base wb bh bm bi w' N H M I PF IL todo tv own ∨ (H t.data.toList).isSome = false ∧ ∃ tv' own', KS X base wb bh bm bi w' (N + 1) (put H t.data.toList (.agg #[])) M I PF IL (todo ++ [t]) tv' own') := by
  have hhas := has_any wb bh bm bi N tv H t w s.st s.h ht s.hv
  obtain ⟨b, hb⟩ : ∃ b, (H t.data.toList).isSome = b := ⟨_, rfl⟩
  rw [hb] at hhas ⊢
  cases b with
  | true =>
    go_enter Tryz.func68, Tryz.ntmps68
    go_wp2_with (go_at_call 45; refine hhas.mono ?_; rintro e w1 ⟨rfl, hb1⟩)
    refine Great.bodyPost_end0 rfl rfl ?_
    exact ⟨rfl, hb1.mono hbw, .inl ⟨trivial, s.below hb1⟩⟩
  | false =>
    go_enter Tryz.func68, Tryz.ntmps68
    go_wp2_with (first | (go_at_call 45; refine hhas.mono ?_; rintro e w1 ⟨rfl, hb1⟩; obtain ⟨w2, w3, v2, own', hrun, hst2, hrun2, hst3, hbel, hks⟩ := (s.below hb1).got t ht hN hl (Nat.le_trans hbw hb1.size); obtain ⟨A2, cp2, e2⟩ := hks.q.form; (rw [List.length_append, List.length_singleton] at e2); subst e2; obtain ⟨c0, c1, c2, c3⟩ := (s.below hb1).st.cell; obtain ⟨d0, d1, d2, d3⟩ := hst2.cell; obtain ⟨f0, f1, f2, f3⟩ := hst3.cell; have fz := blk_frozen hst3 3; have HRUN2 := Lib.hid hrun2; have HB := Lib.hid ((hb1.mono hbw).trans hbel); have HKS := Lib.hid hks; clear hst2 hst3 hrun2 hbel hks hb1) | (at_builtin; refine wpList_q ⟨w2.heap.size, 0, none⟩ 1 rfl (.tmp 18) (.tmp 20) rfl rfl rfl HRUN2.out ?_))
    refine Great.bodyPost_end0 rfl rfl ?_
    exact ⟨rfl, HB.out, .inr ⟨trivial, _, own', HKS.out⟩⟩
end Go.Proofs.YtkmpfmhbkflgpaaGreatDoor.Kw

/- know: split. -/
set_option linter.unusedVariables false
set_option linter.unusedSimpArgs false
namespace Go.Proofs.YtkmpfmhbkflgpaaGreatDoor.Kw
open Go.RowKit Go.Maps Go.WideMaps Go.Proofs.YtkmpfmhbkflgpaaGreatDoorW.PrintWords Go.Proofs.YtkmpfmhbkflgpaaGreatDoorW.PrintWords.Kd

/-- What changes while the queue runs: which terms are had, what is to do, how many entries. -/
structure St where
  H : List UInt8 → Option Value
  todo : List ByteArray
  N : Nat
def St.has (σ : St) (t : ByteArray) : Bool := (σ.H t.data.toList).isSome
def St.get (σ : St) (t : ByteArray) : St := if σ.has t = true then σ else ⟨put σ.H t.data.toList (.agg #[]), σ.todo ++ [t], σ.N + 1⟩
def St.split (σ : St) (k : UInt8) (l : List ByteArray) : St :=
  match l with
  | [a, b] => if k = 112 then (σ.get a).get b else if k = 115 then (if σ.has a = true then σ.get b else σ) else σ
  | _ => σ
def KX (X : Value → List ByteArray → Prop) (base wb bh bm bi : Nat) (w : World) (M I : List UInt8 → Option Value) (PF IL : List UInt8 → List ByteArray) (σ : St) : Prop :=
  base ≤ w.heap.size ∧ ∃ tv own, KS X base wb bh bm bi w σ.N σ.H M I PF IL σ.todo tv own
theorem KX.below {X : Value → List ByteArray → Prop} {base wb bh bm bi : Nat} {w w' : World} {M I : List UInt8 → Option Value} {PF IL : List UInt8 → List ByteArray} {σ : St} (h : KX X base wb bh bm bi w M I PF IL σ) (hb : RowKit.Below w.heap.size w w') : KX X base wb bh bm bi w' M I PF IL σ := by
  obtain ⟨h0, tv, own, h⟩ := h
  exact ⟨Nat.le_trans h0 hb.size, tv, own, h.below hb⟩
theorem kx_has {X : Value → List ByteArray → Prop} {base wb bh bm bi : Nat} {w : World} {M I : List UInt8 → Option Value} {PF IL : List UInt8 → List ByteArray} {σ : St} (h : KX X base wb bh bm bi w M I PF IL σ) (t : ByteArray) (ht : t.size ≤ maxLen) :
    Calls Tryz.prog 45 #[.pointer (some ⟨wb, 0, none⟩), .string t] w fun e w' => e = .returned (.bool (σ.has t)) ∧ RowKit.Below base w w' ∧ KX X base wb bh bm bi w' M I PF IL σ := by
  have h' := h
  obtain ⟨h0, tv, own, s⟩ := h
  refine (has_any wb bh bm bi σ.N tv σ.H t w s.st s.h ht s.hv).mono ?_
  rintro e w' ⟨rfl, hb⟩
  exact ⟨rfl, hb.mono h0, h'.below hb⟩
theorem kx_get {X : Value → List ByteArray → Prop} {base wb bh bm bi : Nat} {w : World} {M I : List UInt8 → Option Value} {PF IL : List UInt8 → List ByteArray} {σ : St} (h : KX X base wb bh bm bi w M I PF IL σ) (t : ByteArray) (ht : t.size ≤ maxLen) (hN : σ.N < 100000000) (hl : σ.todo.length + 1 ≤ 100000000) :
    Calls Tryz.prog 68 #[.pointer (some ⟨wb, 0, none⟩), .string t] w fun e w' => e = .returned (.tuple #[]) ∧ RowKit.Below base w w' ∧ KX X base wb bh bm bi w' M I PF IL (σ.get t) := by
  obtain ⟨h0, tv, own, s⟩ := h
  refine (get_any X base wb bh bm bi σ.N σ.H M I PF IL σ.todo tv own t w s ht hN hl h0).mono ?_
  rintro e w' ⟨rfl, hb, h⟩
  refine ⟨rfl, hb, Nat.le_trans h0 hb.size, ?_⟩
  unfold St.get St.has
  rcases h with ⟨h1, h2⟩ | ⟨h1, tv', own', h2⟩
  · rw [if_pos h1]; exact ⟨tv, own, h2⟩
  · rw [if_neg (by rw [h1]; simp)]; exact ⟨tv', own', h2⟩
theorem St.get_N (σ : St) (t : ByteArray) : (σ.get t).N ≤ σ.N + 1 := by unfold St.get; split <;> simp
theorem St.get_todo (σ : St) (t : ByteArray) : (σ.get t).todo.length ≤ σ.todo.length + 1 := by unfold St.get; split <;> simp
theorem index0 (t : ByteArray) (h : 0 < t.size) (w : World) : (Instr.index 26 (.string t) (.int .i64 0)).run Tryz.prog w = .ok (.int .u8 ((t[0]'h).toNat : Int)) w := by
  have e : t[0]? = some (t[0]'h) := getElem?_pos t 0 h
  have hu := Tryz.underlying26
  unfold Instr.index
  rw [Sem.run_bind]
  simp only [asIntOf]
  go_simp
theorem QRow.cellAt {base : Nat} {w : World} {A : Option Addr} {n c : Nat} {xs : List ByteArray} (h : QRow base w (.slice A n c) xs) : n = xs.length ∧ ∀ j x, xs[j]? = some x → ∃ g off, A = some ⟨g, off, none⟩ ∧ w.cell? ⟨g, off + j, none⟩ = some (.string x) := by
  rcases h with ⟨h, rfl⟩ | ⟨g, off, cap, cur, h, hb, hg, h1, h2, h3⟩
  · injection h with h4 h5 h6; subst h5; exact ⟨rfl, fun j x hj => by simp at hj⟩
  · injection h with h4 h5 h6; subst h4; subst h5
    refine ⟨rfl, fun j x hj => ⟨g, off, rfl, ?_⟩⟩
    simpa [World.cell?, hg] using h3 j x hj

theorem addz (a : Addr) : a.add 0 = a := by unfold Addr.add; split <;> simp_all
theorem KX.row {X : Value → List ByteArray → Prop} {base wb bh bm bi : Nat} {w : World} {M I : List UInt8 → Option Value} {PF IL : List UInt8 → List ByteArray} {σ : St} (h : KX X base wb bh bm bi w M I PF IL σ) {k : List UInt8} {A : Option Addr} {n c : Nat} (hv : M k = some (.slice A n c)) {g off : Nat} (hA : A = some ⟨g, off, none⟩) (j : Nat) (x : ByteArray) (hj : (PF k)[j]? = some x) : w.cell? ⟨g, off + j, none⟩ = some (.string x) := by
  obtain ⟨_, tv, own, s⟩ := h
  obtain ⟨g', off', e, h⟩ := (s.mr _ _ hv).1.cellAt.2 j x hj
  rw [hA] at e
  injection e with e
  injection e with e1 e2 _
  rw [e1, e2]; exact h
set_option maxRecDepth 100000 in
set_option maxHeartbeats 1000000 in
theorem split_any {X : Value → List ByteArray → Prop} {base wb bh bm bi : Nat} {w : World} {M I : List UInt8 → Option Value} {PF IL : List UInt8 → List ByteArray} {σ : St} (h : KX X base wb bh bm bi w M I PF IL σ) (t : ByteArray) (ht : t.size ≤ maxLen) (h0 : 0 < t.size)
    (hM : (M t.data.toList).isSome = true) (hsz : ∀ x ∈ PF t.data.toList, x.size ≤ maxLen)
    (hk : (t[0]'h0 = 112 ∨ t[0]'h0 = 115) → (PF t.data.toList).length = 2) (hN : σ.N + 2 < 100000000) (hl : σ.todo.length + 3 ≤ 100000000) :
    Calls Tryz.prog 70 #[.pointer (some ⟨wb, 0, none⟩), .string t] w fun e w' => e = .returned (.tuple #[]) ∧ RowKit.Below base w w' ∧ KX X base wb bh bm bi w' M I PF IL (σ.split (t[0]'h0) (PF t.data.toList)) := by
  have hx := index0 t h0
  obtain ⟨hb, tv, own, s⟩ := id h
  obtain ⟨c0, c1, c2, c3⟩ := s.st.cell
  obtain ⟨v, hv⟩ := Option.isSome_iff_exists.1 hM
  obtain ⟨hq, hown⟩ := s.mr _ _ hv
  have hlk := s.m.look Tryz.underlying124 (zeroS w) t ht
  rw [hv, Option.getD_some] at hlk
  obtain ⟨A, cp, ev⟩ := hq.form
  subst ev
  have hrow : ∀ {W : World} {σ' : St}, KX X base wb bh bm bi W M I PF IL σ' → ∀ g off, A = some ⟨g, off, none⟩ → ∀ j x, (PF t.data.toList)[j]? = some x → W.cell? ⟨g, off + j, none⟩ = some (.string x) := fun hW g off hA j x hj => hW.row hv hA j x hj
  have hcl := hq.cellAt.2
  generalize PF t.data.toList = l at hsz hk hlk hrow hcl ⊢
  generalize t[0]'h0 = k at hx hk ⊢
  clear hq hown s hM hv
  by_cases k1 : k = 112
  · have hl2 := hk (.inl k1)
    obtain ⟨a, b, rfl⟩ : ∃ a b, l = [a, b] := by
      match l, hl2 with
      | [a, b], _ => exact ⟨a, b, rfl⟩
    obtain ⟨g, off, rfl, ca⟩ := hcl 0 a rfl
    rw [Nat.add_zero] at ca
    clear hcl
    subst k1
    have hs : σ.split 112 [a, b] = (σ.get a).get b := by unfold St.split; rfl
    rw [hs]
    have g1 := kx_get (w := w) h a (hsz a (by simp)) (by omega) (by omega)
    have n1 := σ.get_N a
    have n2 := σ.get_todo a
    rw [show (112 : UInt8).toNat = 112 from rfl] at hx
    have g2 : ∀ {W : World}, KX X base wb bh bm bi W M I PF IL (σ.get a) → Calls Tryz.prog 68 #[.pointer (some ⟨wb, 0, none⟩), .string b] W _ := fun hW => kx_get hW b (hsz b (by simp)) (by omega) (by omega)
    go_enter Tryz.func70, Tryz.ntmps70
    go_wp2_with (first | (go_at_call 68; refine g1.mono ?_; rintro e w1 ⟨rfl, hb1, hk1⟩; have HB1 := Lib.hid hb1; have HK1 := Lib.hid hk1; have cb := hrow hk1 g off rfl 1 b rfl; clear hb1 hk1 g1) | (go_at_call 68; refine (g2 HK1.out).mono ?_; rintro e w2 ⟨rfl, hb2, hk2⟩; have HB2 := Lib.hid hb2; have HK2 := Lib.hid hk2; clear hb2 hk2))
    refine Great.bodyPost_end0 rfl rfl ?_
    exact ⟨rfl, HB1.out.trans HB2.out, HK2.out⟩
  · have e1 : ((k.toNat : Int) == 112) = false := by
      rw [beq_eq_false_iff_ne]; intro e; exact k1 (UInt8.toNat.inj (by show k.toNat = 112; omega))
    by_cases k2 : k = 115
    · have hl2 := hk (.inr k2)
      obtain ⟨a, b, rfl⟩ : ∃ a b, l = [a, b] := by
        match l, hl2 with
        | [a, b], _ => exact ⟨a, b, rfl⟩
      obtain ⟨g, off, rfl, ca⟩ := hcl 0 a rfl
      rw [Nat.add_zero] at ca
      subst k2
      clear hcl
      rw [show (115 : UInt8).toNat = 115 from rfl] at hx
      have g1 := kx_has (w := w) h a (hsz a (by simp))
      cases hb1 : σ.has a with
      | true =>
        have hs : σ.split 115 [a, b] = σ.get b := by unfold St.split; simp [hb1]
        rw [hs]
        rw [hb1] at g1
        have g2 : ∀ {W : World}, KX X base wb bh bm bi W M I PF IL σ → Calls Tryz.prog 68 #[.pointer (some ⟨wb, 0, none⟩), .string b] W _ := fun hW => kx_get hW b (hsz b (by simp)) (by omega) (by omega)
        clear hs e1 k1 hb1
        go_enter Tryz.func70, Tryz.ntmps70
        go_wp2_with (first | (go_at_call 45; refine g1.mono ?_; rintro e w1 ⟨rfl, hb1, hk1⟩; have HB1 := Lib.hid hb1; have HK1 := Lib.hid hk1; have cb := hrow hk1 g off rfl 1 b rfl; clear hb1 hk1 g1) | (go_at_call 68; refine (g2 HK1.out).mono ?_; rintro e w2 ⟨rfl, hb2, hk2⟩; have HB2 := Lib.hid hb2; have HK2 := Lib.hid hk2; clear hb2 hk2))
        refine Great.bodyPost_end0 rfl rfl ?_
        exact ⟨rfl, HB1.out.trans HB2.out, HK2.out⟩
      | false =>
        have hs : σ.split 115 [a, b] = σ := by unfold St.split; simp [hb1]
        rw [hs]
        rw [hb1] at g1
        clear hs e1 k1 hb1
        go_enter Tryz.func70, Tryz.ntmps70
        go_wp2_with (go_at_call 45; refine g1.mono ?_; rintro e w1 ⟨rfl, hb1, hk1⟩; have HB1 := Lib.hid hb1; have HK1 := Lib.hid hk1; clear hb1 hk1 g1)
        refine Great.bodyPost_end0 rfl rfl ?_
        exact ⟨rfl, HB1.out, HK1.out⟩
    · have e2 : ((k.toNat : Int) == 115) = false := by
        rw [beq_eq_false_iff_ne]; intro e; exact k2 (UInt8.toNat.inj (by show k.toNat = 115; omega))
      have hs : σ.split k l = σ := by
        unfold St.split
        split
        · rw [if_neg k1, if_neg k2]
        · rfl
      rw [hs]
      clear hs hcl hrow hk hsz
      go_enter Tryz.func70, Tryz.ntmps70
      go_wp2
      refine Great.bodyPost_end0 rfl rfl ?_
      exact ⟨rfl, by refine ⟨rfl, rfl, rfl, Nat.le_refl _, fun _ _ => rfl⟩, h⟩
end Go.Proofs.YtkmpfmhbkflgpaaGreatDoor.Kw

/- know: what look does to the maps: a term's parts are told, a part's wholes. -/
set_option linter.unusedVariables false
set_option linter.unusedSimpArgs false
namespace Go.Proofs.YtkmpfmhbkflgpaaGreatDoor.Kw
open Go.RowKit Go.Maps Go.WideMaps Go.Proofs.YtkmpfmhbkflgpaaGreatDoorW.PrintWords Go.Proofs.YtkmpfmhbkflgpaaGreatDoorW.PrintWords.Kd

/-- What a text is made of. -/
def PFg (k : List UInt8) : List ByteArray := (TT.partsOf (TT.strOf k)).2.1
theorem QRow.mono {base b' : Nat} {w : World} {v : Value} {xs : List ByteArray} (h : QRow b' w v xs) (hb : base ≤ b') : QRow base w v xs := by
  rcases h with h | ⟨g, off, cap, cur, h0, h1, h2⟩
  · exact .inl h
  · exact .inr ⟨g, off, cap, cur, h0, Nat.le_trans hb h1, h2⟩
abbrev Xs := Value → List ByteArray → Prop
theorem KS.reown {X : Xs} {base wb bh bm bi : Nat} {w : World} {N : Nat} {H M I : List UInt8 → Option Value} {PF IL : List UInt8 → List ByteArray} {todo : List ByteArray} {tv : Value} {own : Nat → Tag}
    (s : KS X base wb bh bm bi w N H M I PF IL todo tv own) (own' : Nat → Tag) (h : ∀ g, g < w.heap.size → own' g = own g) : KS X base wb bh bm bi w N H M I PF IL todo tv own' := by
  have lwb := (Array.getElem?_eq_some_iff.1 s.st).1
  exact ⟨s.st, s.h, s.m, s.i, s.q, fun g hg => by rw [h g (s.q.lt hg).2]; exact s.qo g hg, fun k v hk => ⟨(s.mr k v hk).1, fun g hg => by rw [h g ((s.mr k v hk).1.lt hg).2]; exact (s.mr k v hk).2 g hg⟩,
    fun k v hk => ⟨(s.ir k v hk).1, fun g hg => by rw [h g ((s.ir k v hk).1.lt hg).2]; exact (s.ir k v hk).2 g hg⟩, fun k v hk => ⟨(s.xr k v hk).1, fun g hg => by rw [h g ((s.xr k v hk).1.lt hg).2]; exact (s.xr k v hk).2 g hg⟩,
    ⟨by rw [h wb lwb]; exact s.oo.1, by rw [h bh s.h.lt]; exact s.oo.2.1, by rw [h bm s.m.lt]; exact s.oo.2.2.1, by rw [h bi s.i.lt]; exact s.oo.2.2.2⟩, s.hv, s.ne, s.bs⟩
/-- A new row is kept beside the maps. -/
theorem KX.more {X : Xs} {base wb bh bm bi : Nat} {w w1 : World} {M I : List UInt8 → Option Value} {PF IL : List UInt8 → List ByteArray} {σ : St} (h : KX X base wb bh bm bi w M I PF IL σ) (hb : RowKit.Below w.heap.size w w1) {v : Value} {xs : List ByteArray} (hv : QRow w.heap.size w1 v xs) :
    KX (fun u ys => X u ys ∨ (u = v ∧ ys = xs)) base wb bh bm bi w1 M I PF IL σ := by
  obtain ⟨h0, tv, own, s⟩ := h
  have s1 := (s.reown (fun g => if g < w.heap.size then own g else .m) (fun g hg => if_pos hg)).below hb
  refine ⟨Nat.le_trans h0 hb.size, tv, _, ⟨s1.st, s1.h, s1.m, s1.i, s1.q, s1.qo, s1.mr, s1.ir, ?_, s1.oo, s1.hv, s1.ne, s1.bs⟩⟩
  rintro u ys (hu | ⟨rfl, rfl⟩)
  · exact s1.xr u ys hu
  · exact ⟨hv.mono h0, fun g hg => if_neg (by have := (hv.lt hg).1; omega)⟩
theorem KX.less {X X' : Xs} {base wb bh bm bi : Nat} {w : World} {M I : List UInt8 → Option Value} {PF IL : List UInt8 → List ByteArray} {σ : St} (h : KX X base wb bh bm bi w M I PF IL σ) (hx : ∀ v xs, X' v xs → X v xs) : KX X' base wb bh bm bi w M I PF IL σ := by
  obtain ⟨h0, tv, own, s⟩ := h
  exact ⟨h0, tv, own, ⟨s.st, s.h, s.m, s.i, s.q, s.qo, s.mr, s.ir, fun v xs hk => s.xr v xs (hx v xs hk), s.oo, s.hv, s.ne, s.bs⟩⟩
theorem KX.xrow {X : Xs} {base wb bh bm bi : Nat} {w : World} {M I : List UInt8 → Option Value} {PF IL : List UInt8 → List ByteArray} {σ : St} (h : KX X base wb bh bm bi w M I PF IL σ) {g off n c : Nat} {xs : List ByteArray} (hv : X (.slice (some ⟨g, off, none⟩) n c) xs) (j : Nat) (x : ByteArray) (hj : xs[j]? = some x) : w.cell? ⟨g, off + j, none⟩ = some (.string x) := by
  obtain ⟨_, tv, own, s⟩ := h
  obtain ⟨g', off', e, h⟩ := (s.xr _ _ hv).1.cellAt.2 j x hj
  injection e with e
  injection e with e1 e2 _
  rw [e1, e2]; exact h
theorem KX.xform {X : Xs} {base wb bh bm bi : Nat} {w : World} {M I : List UInt8 → Option Value} {PF IL : List UInt8 → List ByteArray} {σ : St} (h : KX X base wb bh bm bi w M I PF IL σ) {v : Value} {xs : List ByteArray} (hv : X v xs) : ∃ A c, v = .slice A xs.length c := by
  obtain ⟨_, tv, own, s⟩ := h
  exact (s.xr _ _ hv).1.form
theorem KX.wat {X : Xs} {base wb bh bm bi : Nat} {w : World} {M I : List UInt8 → Option Value} {PF IL : List UInt8 → List ByteArray} {σ : St} (h : KX X base wb bh bm bi w M I PF IL σ) :
    ∃ tv, w.cell? ⟨wb, 0, none⟩ = some (.map (some bh)) ∧ w.cell? ⟨wb, 1, none⟩ = some (.map (some bm)) ∧ w.cell? ⟨wb, 2, none⟩ = some (.map (some bi)) ∧ w.cell? ⟨wb, 3, none⟩ = some tv := by
  obtain ⟨_, tv, own, s⟩ := h
  exact ⟨tv, s.st.cell⟩
def addIn (IL : List UInt8 → List ByteArray) (p s : ByteArray) : List UInt8 → List ByteArray := fun k => if k = p.data.toList then IL k ++ [s] else IL k
/-- A term's parts are told. -/
theorem KX.made {X : Xs} {base wb bh bm bi : Nat} {w : World} {M I : List UInt8 → Option Value} {PF IL : List UInt8 → List ByteArray} {σ : St} (h : KX X base wb bh bm bi w M I PF IL σ) {v : Value} {s : ByteArray} (hv : X v (PF s.data.toList)) (hs : s.size ≤ maxLen) (hN : σ.N < 100000000) :
    ∃ w2, (Instr.mapUpdate 124 (.map (some bm)) (.string s) v).run Tryz.prog w = .ok () w2 ∧ RowKit.Below base w w2 ∧ KX X base wb bh bm bi w2 (put M s.data.toList v) I PF IL ⟨σ.H, σ.todo, σ.N + 1⟩ := by
  have hML : maxLen = 9223372036854775807 := rfl
  obtain ⟨h0, tv, own, s0⟩ := h
  obtain ⟨w2, hrun, hm2, hg2⟩ := s0.m.update Tryz.underlying124 (by omega) s hs v
  have lwb := (Array.getElem?_eq_some_iff.1 s0.st).1
  have ko : ∀ g, own g ≠ .o → g ≠ bm := fun g hg e => hg (by rw [e]; exact s0.oo.2.2.1)
  have keep : ∀ b, b < w.heap.size → b ≠ bm → w2.heap[b]? = w.heap[b]? := fun b hb hn => hg2.block b hb (by intro e; injection e with e; exact hn e)
  refine ⟨w2, hrun, (RowKit.Below.refl _ _).grown hg2 h0 (fun k hk => by injection hk with hk; rw [← hk]; exact s0.bs.2.2.1), Nat.le_trans h0 hg2.size, tv, own, ⟨(keep wb lwb s0.ne.2.1).trans s0.st,
    (s0.h.same (keep bh s0.h.lt s0.ne.2.2.2.1)).mono (Nat.le_succ _), hm2, (s0.i.same (keep bi s0.i.lt (fun e => s0.ne.2.2.2.2.2 e.symm))).mono (Nat.le_succ _), s0.q.same fun g hg => keep g (s0.q.lt hg).2 (ko g (by rw [s0.qo g hg]; simp)), s0.qo, ?_, ?_, ?_, s0.oo, s0.hv, s0.ne, s0.bs⟩⟩
  · intro k u hk
    have hx : ∀ u ys, QRow base w u ys → (∀ g, u.ownBlock = some g → own g = .m) → QRow base w2 u ys ∧ ∀ g, u.ownBlock = some g → own g = .m := fun u ys r1 r2 => ⟨r1.same fun g hg => keep g (r1.lt hg).2 (ko g (by rw [r2 g hg]; simp)), r2⟩
    unfold put at hk
    split at hk
    · rename_i e
      obtain rfl := Option.some.inj hk
      rw [e]
      exact hx _ _ (s0.xr _ _ hv).1 (s0.xr _ _ hv).2
    · exact hx _ _ (s0.mr _ _ hk).1 (s0.mr _ _ hk).2
  · intro k u hk
    obtain ⟨r1, r2⟩ := s0.ir _ _ hk
    exact ⟨r1.same fun g hg => keep g (r1.lt hg).2 (ko g (by rw [r2 g hg]; simp)), r2⟩
  · intro k u hk
    obtain ⟨r1, r2⟩ := s0.xr _ _ hk
    exact ⟨r1.same fun g hg => keep g (r1.lt hg).2 (ko g (by rw [r2 g hg]; simp)), r2⟩
/-- A part's whole is told. -/
theorem KX.put {X : Xs} {base wb bh bm bi : Nat} {w : World} {M I : List UInt8 → Option Value} {PF IL : List UInt8 → List ByteArray} {σ : St} (h : KX X base wb bh bm bi w M I PF IL σ) (hI : ∀ k, I k = none → IL k = []) (p s : ByteArray) (hp : p.size ≤ maxLen) (hN : σ.N < 100000000) (hl : (IL p.data.toList).length + 1 ≤ 100000000) (ty : TypeId) :
    ∃ A n c, (Instr.lookup 124 (.map (some bi)) (.string p) false).run Tryz.prog w = .ok (.slice A n c) w ∧ (Instr.lookup 124 (.map (some bi)) (.string p) false).run Tryz.prog (w.alloc (.cells #[.string s] 26)) = .ok (.slice A n c) (w.alloc (.cells #[.string s] 26)) ∧ ∃ A2 n2 c2 w2, (Builtin.append_ #[31, 31] ty #[.slice A n c, .slice (some ⟨w.heap.size, 0, none⟩) 1 1]).run Tryz.prog (w.alloc (.cells #[.string s] 26)) = .ok (.slice A2 n2 c2) w2 ∧ w2.cell? ⟨wb, 2, none⟩ = some (.map (some bi)) ∧
      ∃ w3, (Instr.mapUpdate 124 (.map (some bi)) (.string p) (.slice A2 n2 c2)).run Tryz.prog w2 = .ok () w3 ∧ RowKit.Below base w w3 ∧ ∃ I', KX X base wb bh bm bi w3 M I' PF (addIn IL p s) ⟨σ.H, σ.todo, σ.N + 1⟩ ∧ ∀ k, I' k = none → addIn IL p s k = [] := by
  have hML : maxLen = 9223372036854775807 := rfl
  obtain ⟨h0, tv, own, s0⟩ := h
  obtain ⟨v, hvf, hvq, hvo⟩ : ∃ v, (I p.data.toList).getD (.slice none 0 0) = v ∧ QRow base w v (IL p.data.toList) ∧ ∀ g, v.ownBlock = some g → own g = .i p.data.toList := by
    cases hk : I p.data.toList with
    | none => refine ⟨_, rfl, ?_, ?_⟩
              · rw [hI _ hk]; exact QRow.nil _ _
              · intro g hg; cases hg
    | some u => exact ⟨_, rfl, s0.ir _ _ hk⟩
  have hlk := s0.i.look Tryz.underlying124 (zeroS w) p hp
  rw [hvf] at hlk
  have hlk2 := (s0.i.same (Below.heap_alloc w (.cells #[.string s] 26) bi s0.i.lt)).look Tryz.underlying124 (zeroS _) p hp
  rw [hvf] at hlk2
  obtain ⟨A, c, ev⟩ := hvq.form
  have lwb := (Array.getElem?_eq_some_iff.1 s0.st).1
  have hvk : ∀ g, v.ownBlock = some g → own g ≠ .o ∧ own g ≠ .q ∧ own g ≠ .m := fun g hg => by rw [hvo g hg]; simp
  have hsza : (w.alloc (.cells #[.string s] 26)).heap.size = w.heap.size + 1 := by simp
  have hva : QRow base (w.alloc (.cells #[.string s] 26)) v (IL p.data.toList) := hvq.same fun g hg => Below.heap_alloc _ _ g (hvq.lt hg).2
  obtain ⟨v2, w2, hrun2, hq2, hg2, hloc⟩ := hva.push s ⟨w.heap.size, 0, none⟩ 1 (World.cell?_alloc_at _ _ _ _ rfl) hl (by omega) ty
  obtain ⟨A2, c2, ev2⟩ := hq2.form
  have hsz2 := hg2.size
  have k2 : ∀ b, b < w.heap.size → v.ownBlock ≠ some b → w2.heap[b]? = w.heap[b]? := fun b hb hne => (hg2.block b (by omega) (fun e => hne e.symm)).trans (Below.heap_alloc _ _ b hb)
  have hi2 : MapAt w2 bi σ.N I := s0.i.same (k2 bi s0.i.lt (fun e => (hvk bi e).1 s0.oo.2.2.2))
  obtain ⟨w3, hrun3, hi3, hg3⟩ := hi2.update Tryz.underlying124 (by omega) p hp v2
  have hsz3 := hg3.size
  have keep : ∀ b, b < w.heap.size → b ≠ bi → v.ownBlock ≠ some b → w3.heap[b]? = w.heap[b]? := fun b hb h1 h2 => (hg3.block b (by omega) (by intro e; injection e with e; exact h1 e)).trans (k2 b hb h2)
  have ko : ∀ g, own g ≠ .o → g ≠ bi := fun g hg e => hg (by rw [e]; exact s0.oo.2.2.2)
  have lbi := s0.i.lt
  have hlo : ∀ g, g < w.heap.size → (if g = w.heap.size + 1 then Tag.i p.data.toList else own g) = own g := fun g hg => if_neg (by omega)
  have hnew : ∀ g, v2.ownBlock = some g → (if g = w.heap.size + 1 then Tag.i p.data.toList else own g) = .i p.data.toList ∧ g ≠ bi := by
    intro g hg
    rcases hloc with e | e
    · have e3 : v.ownBlock = some g := by rw [← e, hg]
      rw [hlo g (hvq.lt e3).2]
      exact ⟨hvo g e3, ko g (by rw [hvo g e3]; simp)⟩
    · rw [hg, hsza] at e
      injection e with e
      rw [if_pos e]
      exact ⟨rfl, by omega⟩
  have hg23 : RowKit.Below base w w3 := (((RowKit.Below.refl _ _).alloc h0 _).grown hg2 (by omega) (fun k hk => (hvq.lt hk).1)).grown hg3 (by omega) (fun k hk => by injection hk with hk; rw [← hk]; exact s0.bs.2.2.2)
  subst ev2
  subst ev
  refine ⟨A, _, c, hlk, hlk2, A2, _, c2, w2, hrun2, ?_, w3, hrun3, hg23, _, ⟨by omega, tv, fun g => if g = w.heap.size + 1 then Tag.i p.data.toList else own g, ⟨?_, ?_, ?_, hi3, ?_, ?_, ?_, ?_, ?_, ?_, s0.hv, s0.ne, s0.bs⟩⟩, ?_⟩
  · exact (WAt.cell (show WAt w2 wb bh bm bi tv from (k2 wb lwb (fun e => (hvk wb e).1 s0.oo.1)).trans s0.st)).2.2.1
  · exact (keep wb lwb s0.ne.2.2.1 (fun e => (hvk wb e).1 s0.oo.1)).trans s0.st
  · exact (s0.h.same (keep bh s0.h.lt s0.ne.2.2.2.2.1 (fun e => (hvk bh e).1 s0.oo.2.1))).mono (Nat.le_succ _)
  · exact (s0.m.same (keep bm s0.m.lt s0.ne.2.2.2.2.2 (fun e => (hvk bm e).1 s0.oo.2.2.1))).mono (Nat.le_succ _)
  · exact s0.q.same fun g hg => keep g (s0.q.lt hg).2 (ko g (by rw [s0.qo g hg]; simp)) (fun e => (hvk g e).2.1 (s0.qo g hg))
  · intro g hg
    show (if g = w.heap.size + 1 then Tag.i p.data.toList else own g) = .q
    rw [hlo g (s0.q.lt hg).2]; exact s0.qo g hg
  · intro k u hk
    obtain ⟨r1, r2⟩ := s0.mr _ _ hk
    refine ⟨r1.same fun g hg => keep g (r1.lt hg).2 (ko g (by rw [r2 g hg]; simp)) (fun e => (hvk g e).2.2 (r2 g hg)), fun g hg => ?_⟩
    show (if g = w.heap.size + 1 then Tag.i p.data.toList else own g) = .m
    rw [hlo g (r1.lt hg).2]; exact r2 g hg
  · intro k u hk
    unfold Kw.put at hk
    unfold addIn
    split at hk
    · rename_i e
      obtain rfl := Option.some.inj hk
      rw [if_pos e, e]
      refine ⟨hq2.same fun g hg => hg3.block g (hq2.lt hg).2 (by intro q; injection q with q; exact (hnew g hg).2 q), fun g hg => (hnew g hg).1⟩
    · rename_i e
      rw [if_neg e]
      obtain ⟨r1, r2⟩ := s0.ir _ _ hk
      refine ⟨r1.same fun g hg => keep g (r1.lt hg).2 (ko g (by rw [r2 g hg]; simp)) (fun q => ?_), fun g hg => ?_⟩
      · have h1 := hvo g q
        rw [r2 g hg] at h1
        injection h1 with h1
        exact e h1
      · show (if g = w.heap.size + 1 then Tag.i p.data.toList else own g) = .i k
        rw [hlo g (r1.lt hg).2]; exact r2 g hg
  · intro k u hk
    obtain ⟨r1, r2⟩ := s0.xr _ _ hk
    refine ⟨r1.same fun g hg => keep g (r1.lt hg).2 (ko g (by rw [r2 g hg]; simp)) (fun e => (hvk g e).2.2 (r2 g hg)), fun g hg => ?_⟩
    show (if g = w.heap.size + 1 then Tag.i p.data.toList else own g) = .m
    rw [hlo g (r1.lt hg).2]; exact r2 g hg
  · show (if wb = w.heap.size + 1 then Tag.i p.data.toList else own wb) = .o ∧ (if bh = w.heap.size + 1 then Tag.i p.data.toList else own bh) = .o ∧ (if bm = w.heap.size + 1 then Tag.i p.data.toList else own bm) = .o ∧ (if bi = w.heap.size + 1 then Tag.i p.data.toList else own bi) = .o
    rw [hlo wb lwb, hlo bh s0.h.lt, hlo bm s0.m.lt, hlo bi lbi]
    exact s0.oo
  · intro k hk
    unfold Kw.put at hk
    unfold addIn
    split at hk
    · cases hk
    · rename_i e
      rw [if_neg e]
      exact hI k hk
end Go.Proofs.YtkmpfmhbkflgpaaGreatDoor.Kw

/- know: plain facts on terms' texts and on what look gathers. No program in sight but for the texts' parts. -/
set_option linter.unusedVariables false
set_option linter.unusedSimpArgs false
namespace Go.Proofs.YtkmpfmhbkflgpaaGreatDoor.Kw
open Go.RowKit TT

theorem subs_ok : ∀ (t : Tm) (u : Tm), u ∈ t.subs → t.ok → u.ok ∧ u.depth ≤ t.depth ∧ u.enc.length ≤ t.enc.length
  | .nonce a b, u, h, ho => by simp only [Tm.subs, List.mem_singleton] at h; subst h; exact ⟨ho, Nat.le_refl _, Nat.le_refl _⟩
  | .const l, u, h, ho => by simp only [Tm.subs, List.mem_singleton] at h; subst h; exact ⟨ho, Nat.le_refl _, Nat.le_refl _⟩
  | .hash t, u, h, ho => by
    simp only [Tm.subs, List.mem_cons] at h
    rcases h with rfl | h
    · exact ⟨ho, Nat.le_refl _, Nat.le_refl _⟩
    · obtain ⟨h1, h2, h3⟩ := subs_ok t u h ho
      exact ⟨h1, by simp only [Tm.depth]; omega, by simp only [Tm.enc, List.length_cons]; omega⟩
  | .two k a b, u, h, ho => by
    simp only [Tm.subs, List.mem_cons, List.mem_append] at h
    rcases h with rfl | h | h
    · exact ⟨ho, Nat.le_refl _, Nat.le_refl _⟩
    · obtain ⟨h1, h2, h3⟩ := subs_ok a u h ho.2.1
      exact ⟨h1, by simp only [Tm.depth]; omega, by simp only [Tm.enc, List.length_cons, List.length_append]; omega⟩
    · obtain ⟨h1, h2, h3⟩ := subs_ok b u h ho.2.2
      exact ⟨h1, by simp only [Tm.depth]; omega, by simp only [Tm.enc, List.length_cons, List.length_append]; omega⟩
theorem check_iff (s : ByteArray) : check s = 0 ↔ ∃ t : Tm, t.ok ∧ s = t.str ∧ t.depth ≤ 60 ∧ t.enc.length ≤ 2000 := by
  constructor
  · intro h
    obtain ⟨t, _, h1, h2, h3, h4⟩ := check_ok h
    exact ⟨t, h1, h2, h3, h4⟩
  · rintro ⟨t, h1, rfl, h3, h4⟩
    exact check_str h1 h3 h4
theorem subsOf_str {t : Tm} (ho : t.ok) (hd : t.depth ≤ 60) (hl : t.enc.length ≤ 2000) : subsOf t.str = (t.subs.map Tm.str, 0) := subsOf_ok (check_str ho hd hl) (read_str t ho)
theorem partsOf_str {t : Tm} (ho : t.ok) (hd : t.depth ≤ 60) (hl : t.enc.length ≤ 2000) : partsOf t.str = ((t.kind.toNat : Int), t.parts.map Tm.str, 0) := partsOf_ok (check_str ho hd hl) (read_str t ho)
theorem PFg_of (s : ByteArray) : PFg s.data.toList = (partsOf s).2.1 := by unfold PFg; rw [strOf_of]
theorem PFg_str {t : Tm} (ho : t.ok) (hd : t.depth ≤ 60) (hl : t.enc.length ≤ 2000) : PFg t.str.data.toList = t.parts.map Tm.str := by rw [PFg_of, partsOf_str ho hd hl]
theorem check_subs {s x : ByteArray} (h : check s = 0) (hx : x ∈ (subsOf s).1) : check x = 0 := by
  obtain ⟨t, h1, rfl, h3, h4⟩ := (check_iff s).1 h
  rw [subsOf_str h1 h3 h4] at hx
  obtain ⟨u, hu, rfl⟩ := List.mem_map.1 hx
  obtain ⟨k1, k2, k3⟩ := subs_ok t u hu h1
  exact check_str k1 (by omega) (by omega)
theorem subs_count {s : ByteArray} (h : check s = 0) : (subsOf s).1.length ≤ 2000 := by
  obtain ⟨t, h1, rfl, h3, h4⟩ := (check_iff s).1 h
  rw [subsOf_str h1 h3 h4, List.length_map]
  have := t.subs_len
  omega
theorem parts_subs {t u : Tm} (h : u ∈ t.parts) : u ∈ t.subs := by
  obtain ⟨r, h1, h2⟩ := t.subs_eq
  rw [h1, h2]
  refine List.mem_cons_of_mem _ (List.mem_flatten.2 ⟨u.subs, List.mem_map.2 ⟨u, h, rfl⟩, ?_⟩)
  obtain ⟨r', h1', _⟩ := u.subs_eq
  rw [h1']; exact List.mem_cons_self
theorem check_part {s x : ByteArray} (h : check s = 0) (hx : x ∈ PFg s.data.toList) : check x = 0 := by
  obtain ⟨t, h1, rfl, h3, h4⟩ := (check_iff s).1 h
  rw [PFg_str h1 h3 h4] at hx
  obtain ⟨u, hu, rfl⟩ := List.mem_map.1 hx
  obtain ⟨k1, k2, k3⟩ := subs_ok t u (parts_subs hu) h1
  exact check_str k1 (by omega) (by omega)
theorem check_size {s : ByteArray} (h : check s = 0) : 0 < s.size ∧ s.size ≤ 2000 := by
  obtain ⟨t, h1, rfl, h3, h4⟩ := (check_iff s).1 h
  have := t.enc_pos
  rw [Tm.str, strOf_size]; omega
theorem parts_count {s : ByteArray} (h : check s = 0) : (PFg s.data.toList).length ≤ 2 := by
  obtain ⟨t, h1, rfl, h3, h4⟩ := (check_iff s).1 h
  rw [PFg_str h1 h3 h4, List.length_map]
  cases t <;> simp [Tm.parts]
/-- A text's first byte. -/
def b0 (s : ByteArray) : UInt8 := s.data.toList.headD 0
theorem b0_str (t : Tm) : b0 t.str = t.kind := by
  unfold b0
  rw [Tm.str, strOf_data]
  obtain ⟨r, hr⟩ := enc_kind t
  rw [hr]; rfl
theorem b0_at (s : ByteArray) (h : 0 < s.size) : s[0]'h = b0 s := by
  obtain ⟨⟨l⟩⟩ := s
  cases l with
  | nil => exact absurd h (by simp [ByteArray.size])
  | cons x l => rfl
theorem parts_two {s : ByteArray} (h : check s = 0) (hk : b0 s = 112 ∨ b0 s = 115) : (PFg s.data.toList).length = 2 := by
  obtain ⟨t, h1, rfl, h3, h4⟩ := (check_iff s).1 h
  rw [PFg_str h1 h3 h4, List.length_map]
  rw [b0_str] at hk
  cases t with
  | nonce a b => simp [Tm.kind] at hk
  | const l => simp [Tm.kind] at hk
  | hash t => simp [Tm.kind] at hk
  | two k a b => rfl

instance decText : DecidableEq ByteArray := fun a b => decidable_of_iff (a.data = b.data) ⟨fun h => ByteArray.ext h, fun h => by rw [h]⟩
instance decMem (s : ByteArray) (l : List ByteArray) : Decidable (s ∈ l) := decidable_of_iff (l.any (fun x => decide (x = s)) = true) (by rw [List.any_eq_true]; exact ⟨fun ⟨x, h1, h2⟩ => by rw [← of_decide_eq_true h2]; exact h1, fun h => ⟨s, h, decide_eq_true rfl⟩⟩)
/-! ### What look gathers -/
structure Lk where
  σ : St
  U : List ByteArray
  IL : List UInt8 → List ByteArray
def Lk.wholes (a : Lk) (s : ByteArray) (ps : List ByteArray) : List UInt8 → List ByteArray := ps.foldl (fun f p => addIn f p s) a.IL
def Lk.one (a : Lk) (s : ByteArray) : Lk :=
  if s ∈ a.U then a
  else ⟨if b0 s = 99 then (⟨a.σ.H, a.σ.todo, a.σ.N + 1 + (PFg s.data.toList).length⟩ : St).get s else ⟨a.σ.H, a.σ.todo, a.σ.N + 1 + (PFg s.data.toList).length⟩, a.U ++ [s], a.wholes s (PFg s.data.toList)⟩
def Lk.look (a : Lk) (l : List ByteArray) : Lk := l.foldl Lk.one a
theorem addIn_len (f : List UInt8 → List ByteArray) (p s : ByteArray) (k : List UInt8) : (addIn f p s k).length ≤ (f k).length + 1 := by unfold addIn; split <;> simp
theorem wholes_len (f : List UInt8 → List ByteArray) (s : ByteArray) (ps : List ByteArray) (k : List UInt8) : (ps.foldl (fun f p => addIn f p s) f k).length ≤ (f k).length + ps.length := by
  induction ps generalizing f with
  | nil => simp
  | cons p ps ih => rw [List.foldl_cons]; have := ih (addIn f p s); have := addIn_len f p s k; simp; omega
/-- How far it has come. -/
structure Lk.Fits (a : Lk) : Prop where
  il : ∀ k, (a.IL k).length ≤ a.σ.N
  todo : a.σ.todo.length ≤ a.σ.N
theorem Lk.one_N (a : Lk) (s : ByteArray) (h : check s = 0) : (a.one s).σ.N ≤ a.σ.N + 4 := by
  have h1 := parts_count h
  unfold Lk.one
  split
  · omega
  · split
    · have := (⟨a.σ.H, a.σ.todo, a.σ.N + 1 + (PFg s.data.toList).length⟩ : St).get_N s
      simp only at this ⊢; omega
    · simp only; omega
theorem Lk.Fits.one {a : Lk} (h : a.Fits) (s : ByteArray) (hc : check s = 0) : (a.one s).Fits := by
  have h1 := h.il
  have h2 := h.todo
  have h3 := parts_count hc
  unfold Lk.one
  split
  · exact h
  · have key : ∀ k, (a.wholes s (PFg s.data.toList) k).length ≤ a.σ.N + (PFg s.data.toList).length := fun k => by have := wholes_len a.IL s (PFg s.data.toList) k; have := h1 k; unfold Lk.wholes; omega
    split
    · unfold St.get
      split
      · exact ⟨fun k => by have := key k; simp only; omega, by simp only; omega⟩
      · exact ⟨fun k => by have := key k; simp only; omega, by simp only [List.length_append, List.length_singleton]; omega⟩
    · exact ⟨fun k => by have := key k; simp only; omega, by simp only; omega⟩
theorem Lk.look_N (a : Lk) (l : List ByteArray) (h : ∀ s ∈ l, check s = 0) : (a.look l).σ.N ≤ a.σ.N + 4 * l.length := by
  induction l generalizing a with
  | nil => simp [Lk.look]
  | cons s l ih =>
    have h1 := a.one_N s (h s List.mem_cons_self)
    have h2 := ih (a.one s) (fun x hx => h x (List.mem_cons_of_mem _ hx))
    simp only [Lk.look, List.foldl_cons, List.length_cons] at h2 ⊢
    omega
theorem Lk.Fits.look {a : Lk} (h : a.Fits) (l : List ByteArray) (hc : ∀ s ∈ l, check s = 0) : (a.look l).Fits := by
  induction l generalizing a with
  | nil => exact h
  | cons s l ih => exact ih (h.one s (hc s List.mem_cons_self)) (fun x hx => hc x (List.mem_cons_of_mem _ hx))
/-- The state: what was gathered. -/
def KU (X : Xs) (base wb bh bm bi : Nat) (w : World) (a : Lk) : Prop :=
  ∃ M I, KX X base wb bh bm bi w M I PFg a.IL a.σ ∧ (∀ s : ByteArray, (M s.data.toList).isSome = decide (s ∈ a.U)) ∧ ∀ k, I k = none → a.IL k = []
theorem KU.below {X : Xs} {base wb bh bm bi : Nat} {w w' : World} {a : Lk} (h : KU X base wb bh bm bi w a) (hb : RowKit.Below w.heap.size w w') : KU X base wb bh bm bi w' a := by
  obtain ⟨M, I, h1, h2, h3⟩ := h
  exact ⟨M, I, h1.below hb, h2, h3⟩
theorem KU.less {X X' : Xs} {base wb bh bm bi : Nat} {w : World} {a : Lk} (h : KU X base wb bh bm bi w a) (hx : ∀ v xs, X' v xs → X v xs) : KU X' base wb bh bm bi w a := by
  obtain ⟨M, I, h1, h2, h3⟩ := h
  exact ⟨M, I, h1.less hx, h2, h3⟩
theorem KU.more {X : Xs} {base wb bh bm bi : Nat} {w w1 : World} {a : Lk} (h : KU X base wb bh bm bi w a) (hb : RowKit.Below w.heap.size w w1) {v : Value} {xs : List ByteArray} (hv : QRow w.heap.size w1 v xs) :
    KU (fun u ys => X u ys ∨ (u = v ∧ ys = xs)) base wb bh bm bi w1 a := by
  obtain ⟨M, I, h1, h2, h3⟩ := h
  exact ⟨M, I, h1.more hb hv, h2, h3⟩
end Go.Proofs.YtkmpfmhbkflgpaaGreatDoor.Kw

/- know: look. -/
set_option linter.unusedVariables false
set_option linter.unusedSimpArgs false
namespace Go.Proofs.YtkmpfmhbkflgpaaGreatDoor.Kw
open Go.RowKit Go.Maps Go.WideMaps Go.Proofs.YtkmpfmhbkflgpaaGreatDoorW.PrintWords Go.Proofs.YtkmpfmhbkflgpaaGreatDoorW.PrintWords.Kd

theorem subs_in (t : ByteArray) (w : World) : Calls Tryz.prog 69 #[.string t] w fun e w' => ∃ v : Value, e = .returned (.tuple #[v, .int .i64 (TT.subsOf t).2]) ∧ QRow w.heap.size w' v (TT.subsOf t).1 ∧ RowKit.Below w.heap.size w w' := by
  have hc := term_subs.calls t (TT.subsOf t).1 (TT.subsOf t).2 w rfl
  go_enter Tryz.func69, Tryz.ntmps69
  go_wp2_with (go_at_call 61; refine hc.mono ?_; rintro e w1 ⟨v, rfl, hr, hb⟩; have HR := Lib.hid hr; have HB := Lib.hid hb; clear hr hb)
  go_ret2
  exact ⟨v, rfl, QRow.of_own (Rdr.R_elems HR.out) rfl rfl, HB.out⟩
theorem parts_in (t : ByteArray) (w : World) : Calls Tryz.prog 37 #[.string t] w fun e w' => ∃ v : Value, e = .returned (.tuple #[.int .u8 (TT.partsOf t).1, v, .int .i64 (TT.partsOf t).2.2]) ∧ QRow w.heap.size w' v (PFg t.data.toList) ∧ RowKit.Below w.heap.size w w' := by
  refine (term_Parts.calls t (TT.partsOf t).1 (TT.partsOf t).2.1 (TT.partsOf t).2.2 w rfl).mono ?_
  rintro e w' ⟨v, rfl, hr, hb⟩
  exact ⟨v, rfl, by rw [PFg_of]; exact QRow.of_own (Rdr.R_elems hr) rfl rfl, hb⟩
theorem index_b0 (t : ByteArray) (h : 0 < t.size) (w : World) : (Instr.index 26 (.string t) (.int .i64 0)).run Tryz.prog w = .ok (.int .u8 ((b0 t).toNat : Int)) w := by
  rw [index0 t h w, b0_at t h]
theorem KU.ok {X : Xs} {base wb bh bm bi : Nat} {w : World} {a : Lk} (h : KU X base wb bh bm bi w a) (s : ByteArray) (hs : s.size ≤ maxLen) :
    ∃ A n c, (Instr.lookup 124 (.map (some bm)) (.string s) true).run Tryz.prog w = .ok (.tuple #[.slice A n c, .bool (decide (s ∈ a.U))]) w := by
  obtain ⟨M, I, ⟨_, tv, own, s0⟩, h2, _⟩ := h
  have hl := s0.m.look_ok Tryz.underlying124 (zeroS w) s hs
  rw [h2 s] at hl
  cases hk : M s.data.toList with
  | none => rw [hk] at hl; exact ⟨_, _, _, hl⟩
  | some v =>
    rw [hk] at hl
    obtain ⟨A, c, e⟩ := (s0.mr _ _ hk).1.form
    subst e
    exact ⟨_, _, _, hl⟩
theorem KU.wat {X : Xs} {base wb bh bm bi : Nat} {w : World} {a : Lk} (h : KU X base wb bh bm bi w a) :
    ∃ tv, w.cell? ⟨wb, 0, none⟩ = some (.map (some bh)) ∧ w.cell? ⟨wb, 1, none⟩ = some (.map (some bm)) ∧ w.cell? ⟨wb, 2, none⟩ = some (.map (some bi)) ∧ w.cell? ⟨wb, 3, none⟩ = some tv := by
  obtain ⟨M, I, h1, _⟩ := h; exact h1.wat
theorem KU.base {X : Xs} {base wb bh bm bi : Nat} {w : World} {a : Lk} (h : KU X base wb bh bm bi w a) : base ≤ w.heap.size := by
  obtain ⟨M, I, h1, _⟩ := h; exact h1.1
/-- In the midst of a term's parts. -/
def KV (X : Xs) (base wb bh bm bi : Nat) (w : World) (a : Lk) (s : ByteArray) (j : Nat) : Prop :=
  ∃ M I, KX X base wb bh bm bi w M I PFg (a.wholes s ((PFg s.data.toList).take j)) ⟨a.σ.H, a.σ.todo, a.σ.N + 1 + j⟩ ∧ (∀ x : ByteArray, (M x.data.toList).isSome = decide (x ∈ a.U ++ [s])) ∧ ∀ k, I k = none → a.wholes s ((PFg s.data.toList).take j) k = []
theorem KV.wat {X : Xs} {base wb bh bm bi : Nat} {w : World} {a : Lk} {s : ByteArray} {j : Nat} (h : KV X base wb bh bm bi w a s j) :
    ∃ tv, w.cell? ⟨wb, 0, none⟩ = some (.map (some bh)) ∧ w.cell? ⟨wb, 1, none⟩ = some (.map (some bm)) ∧ w.cell? ⟨wb, 2, none⟩ = some (.map (some bi)) ∧ w.cell? ⟨wb, 3, none⟩ = some tv := by
  obtain ⟨M, I, h1, _⟩ := h; exact h1.wat
theorem KV.base {X : Xs} {base wb bh bm bi : Nat} {w : World} {a : Lk} {s : ByteArray} {j : Nat} (h : KV X base wb bh bm bi w a s j) : base ≤ w.heap.size := by
  obtain ⟨M, I, h1, _⟩ := h; exact h1.1
theorem KV.drew {X : Xs} {base wb bh bm bi : Nat} {w : World} {a : Lk} {s : ByteArray} {j : Nat} (h : KV X base wb bh bm bi w a s j) : KV X base wb bh bm bi w.drew a s j := by
  obtain ⟨M, I, h1, h2, h3⟩ := h; exact ⟨M, I, h1.below (RowKit.Below.refl _ _).drew, h2, h3⟩
theorem KV.xrow {X : Xs} {base wb bh bm bi : Nat} {w : World} {a : Lk} {s : ByteArray} {j : Nat} (h : KV X base wb bh bm bi w a s j) {g off n c : Nat} {xs : List ByteArray} (hv : X (.slice (some ⟨g, off, none⟩) n c) xs) (i : Nat) (x : ByteArray) (hi : xs[i]? = some x) : w.cell? ⟨g, off + i, none⟩ = some (.string x) := by
  obtain ⟨M, I, h1, _⟩ := h; exact h1.xrow hv i x hi
theorem KU.xrow {X : Xs} {base wb bh bm bi : Nat} {w : World} {a : Lk} (h : KU X base wb bh bm bi w a) {g off n c : Nat} {xs : List ByteArray} (hv : X (.slice (some ⟨g, off, none⟩) n c) xs) (i : Nat) (x : ByteArray) (hi : xs[i]? = some x) : w.cell? ⟨g, off + i, none⟩ = some (.string x) := by
  obtain ⟨M, I, h1, _⟩ := h; exact h1.xrow hv i x hi
theorem data_inj {a b : ByteArray} (h : a.data.toList = b.data.toList) : a = b := ByteArray.ext (Array.ext' h)
theorem KU.made {X : Xs} {base wb bh bm bi : Nat} {w : World} {a : Lk} (h : KU X base wb bh bm bi w a) {v : Value} {s : ByteArray} (hv : X v (PFg s.data.toList)) (hs : s.size ≤ maxLen) (hN : a.σ.N < 100000000) :
    ∃ w2, (Instr.mapUpdate 124 (.map (some bm)) (.string s) v).run Tryz.prog w = .ok () w2 ∧ RowKit.Below base w w2 ∧ KV X base wb bh bm bi w2 a s 0 := by
  obtain ⟨M, I, h1, h2, h3⟩ := h
  obtain ⟨w2, hrun, hb, h4⟩ := h1.made hv hs hN
  refine ⟨w2, hrun, hb, _, I, h4, fun x => ?_, h3⟩
  unfold put
  by_cases e : x = s
  · subst e; rw [if_pos rfl]; simp
  · rw [if_neg (fun q => e (data_inj q)), h2 x]
    simp only [List.mem_append, List.mem_singleton, e, or_false]
theorem KV.next {X : Xs} {base wb bh bm bi : Nat} {w : World} {a : Lk} {s : ByteArray} {j : Nat} (h : KV X base wb bh bm bi w a s j) {p : ByteArray} (hp : (PFg s.data.toList)[j]? = some p) (hps : p.size ≤ maxLen) (hN : a.σ.N + 1 + j < 100000000) (hf : a.Fits) (ty : TypeId) :
    ∃ A n c, (Instr.lookup 124 (.map (some bi)) (.string p) false).run Tryz.prog w = .ok (.slice A n c) w ∧ (Instr.lookup 124 (.map (some bi)) (.string p) false).run Tryz.prog (w.alloc (.cells #[.string s] 26)) = .ok (.slice A n c) (w.alloc (.cells #[.string s] 26)) ∧ ∃ A2 n2 c2 w2, (Builtin.append_ #[31, 31] ty #[.slice A n c, .slice (some ⟨w.heap.size, 0, none⟩) 1 1]).run Tryz.prog (w.alloc (.cells #[.string s] 26)) = .ok (.slice A2 n2 c2) w2 ∧ w2.cell? ⟨wb, 2, none⟩ = some (.map (some bi)) ∧
      ∃ w3, (Instr.mapUpdate 124 (.map (some bi)) (.string p) (.slice A2 n2 c2)).run Tryz.prog w2 = .ok () w3 ∧ RowKit.Below base w w3 ∧ KV X base wb bh bm bi w3 a s (j + 1) := by
  obtain ⟨M, I, h1, h2, h3⟩ := h
  have hl : (a.wholes s ((PFg s.data.toList).take j) p.data.toList).length + 1 ≤ 100000000 := by
    have := wholes_len a.IL s ((PFg s.data.toList).take j) p.data.toList
    have := hf.il p.data.toList
    have : ((PFg s.data.toList).take j).length ≤ j := by rw [List.length_take]; omega
    unfold Lk.wholes; omega
  obtain ⟨A, n, c, hlk, hlk2, A2, n2, c2, w2, hr2, hcb, w3, hr3, hb, I', h4, h5⟩ := h1.put h3 p s hps hN hl ty
  have e : addIn (a.wholes s ((PFg s.data.toList).take j)) p s = a.wholes s ((PFg s.data.toList).take (j + 1)) := by
    obtain ⟨hj, rfl⟩ := List.getElem?_eq_some_iff.1 hp
    unfold Lk.wholes
    rw [List.take_succ_eq_append_getElem hj, List.foldl_append]
    rfl
  rw [e] at h4 h5
  exact ⟨A, n, c, hlk, hlk2, A2, n2, c2, w2, hr2, hcb, w3, hr3, hb, M, I', h4, h2, h5⟩
theorem step_q {ops : Array Oper} {o : Oper} {a : Act} {w w' : World} {K : Act → World → Prop} {Q : Exit → Act → World → Prop} {E : Prop} {v v' x : Value} (hg : o.guard = none) (s q : Operand)
    (hop : o.op = Op.call { callee := Callee.builtin Builtin.append, args := #[s, q], argTypes := #[31, 31] }) (hs : a.eval s = v) (hx : a.eval q = x)
    (hrun : (Builtin.append_ #[31, 31] o.type #[v, x]).run Tryz.prog w = .ok v' w') (hK : K (a.put o.dst v') w') :
    if Region.wanted o (yielded ops a.tmps) = true then Oper.wp Tryz.prog o a w K Q else E := by
  have hw : Region.wanted o (yielded ops a.tmps) = true := by simp [Region.wanted, hg]
  rw [if_pos hw]
  unfold Oper.wp
  simp [execOp, hop, resolve, invoke, builtin, hs, hx, hrun, Result.andThen]
  exact hK
set_option maxHeartbeats 4000000 in
set_option maxRecDepth 100000 in
theorem look_any {X : Xs} {base wb bh bm bi : Nat} {w : World} {a : Lk} (h : KU X base wb bh bm bi w a) (hf : a.Fits) (t : ByteArray) (hN : a.σ.N + 10000 < 100000000) :
    Calls Tryz.prog 43 #[.pointer (some ⟨wb, 0, none⟩), .string t] w fun e w' => e = .returned (.int .i64 (TT.check t)) ∧ RowKit.Below base w w' ∧ (TT.check t = 0 → KU X base wb bh bm bi w' (a.look (TT.subsOf t).1)) := by
  have hsub := subs_in t w
  by_cases hc : TT.check t = 0
  case neg =>
    have hc2 : (TT.check t == 0) = false := by rw [beq_eq_false_iff_ne]; exact hc
    have hc3 : (TT.check t != 0) = true := bne_iff_ne.mpr hc
    have hb0 := Lib.hid h.base
    rw [TT.subsOf_bad hc] at hsub
    clear h
    go_enter Tryz.func43, Tryz.ntmps43
    go_wp2_with (go_at_call 69; refine hsub.mono ?_; rintro e w1 ⟨v, rfl, hr, hb⟩; have HB := Lib.hid hb; clear hr hb hsub)
    go_ret
    exact ⟨rfl, HB.out.mono hb0.out, fun q => absurd q hc⟩
  case pos =>
    have hall : ∀ s ∈ (TT.subsOf t).1, TT.check s = 0 := fun s hs => check_subs hc hs
    have hcnt := subs_count hc
    have hs2 : (TT.subsOf t).2 = 0 := by
      obtain ⟨t', _, rfl, _⟩ := (check_iff t).1 hc
      unfold TT.subsOf; rw [if_pos hc]
    rw [hs2] at hsub
    rw [hc]
    clear hs2 hc
    generalize (TT.subsOf t).1 = l at hsub hall hcnt ⊢
    have HK := Lib.hid h; have HF := Lib.hid hf; have HA := Lib.hid hall
    clear h hf hall
    go_enter Tryz.func43, Tryz.ntmps43
    go_wp2_with (go_at_call 69; refine hsub.mono ?_; clear hsub; rintro e w1 ⟨v, rfl, hr, hb⟩; have HB := Lib.hid (hb.mono HK.out.base); have HK1 := Lib.hid (HK.out.more hb hr); obtain ⟨A, cp, ev⟩ := hr.form; subst ev; have HR := Lib.hid hr; clear hr hb HK)
    obtain ⟨Y, hY⟩ : ∃ Y : Xs, Y = (fun u ys => X u ys ∨ (u = .slice A l.length cp ∧ ys = l)) := ⟨_, rfl⟩
    rw [← hY] at HK1
    have hYl : Y (.slice A l.length cp) l := by rw [hY]; exact .inr ⟨rfl, rfl⟩
    have hYX : ∀ v xs, X v xs → Y v xs := by rw [hY]; exact fun v xs h => .inl h
    clear hY
    have hoff : A = none ∨ ∃ g off, A = some ⟨g, off, none⟩ := by
      rcases HR.out with ⟨q, _⟩ | ⟨g, off, cap, cur, q, _⟩
      · injection q with q; exact .inl q
      · injection q with q; exact .inr ⟨g, off, q⟩
    have hlen : 0 < l.length → A ≠ none := by
      intro h0 q
      rcases HR.out with ⟨_, q⟩ | ⟨g, off, cap, cur, q', _⟩
      · rw [q] at h0; exact absurd h0 (by simp)
      · injection q' with q'; rw [q'] at q; cases q
    have HL := Lib.hid hlen; have HO := Lib.hid hoff
    clear hlen hoff HR
    go_loopw [26] (fun i wr => ∃ j : Nat, j ≤ l.length ∧ i = .int .i64 j ∧ RowKit.Below base w wr ∧ KU Y base wb bh bm bi wr (a.look (l.take j))) (fun i _ => l.length - (intOf i).toNat)
    case atStart => exact ⟨0, Nat.zero_le _, rfl, HB.out, HK1.out⟩
    case round =>
      obtain ⟨j, hj, rfl, hbel, hku⟩ := hrel
      have HBEL := Lib.hid hbel; have HKU := Lib.hid hku
      clear hbel hku
      by_cases hlt : j < l.length
      · have hA := HL.out (by omega)
        obtain ⟨g, off, rfl⟩ : ∃ g off, A = some ⟨g, off, none⟩ := by rcases HO.out with q | q; exact absurd q hA; exact q
        clear hA HL HO
        obtain ⟨s, hs⟩ : ∃ s, l[j]? = some s := ⟨_, List.getElem?_eq_getElem hlt⟩
        have hcs := HA.out s (List.mem_of_getElem? hs)
        have hcl := HKU.out.xrow hYl j s hs
        have hnx : a.look (l.take (j + 1)) = (a.look (l.take j)).one s := by
          obtain ⟨_, rfl⟩ := List.getElem?_eq_some_iff.1 hs
          rw [List.take_succ_eq_append_getElem hlt]; unfold Lk.look; rw [List.foldl_append]; rfl
        have hfit := HF.out.look (l.take j) (fun x hx => HA.out x (List.mem_of_mem_take hx))
        have hNb : (a.look (l.take j)).σ.N + 100 < 100000000 := by
          have := a.look_N (l.take j) (fun x hx => HA.out x (List.mem_of_mem_take hx))
          rw [List.length_take] at this; omega
        generalize a.look (l.take j) = b at HKU hnx hfit hNb
        have HNX := Lib.hid hnx; have HFIT := Lib.hid hfit; have HCS := Lib.hid hcs
        clear hnx hfit hcs hs
        obtain ⟨hz0, hz1⟩ := check_size HCS.out
        obtain ⟨A1, n1, c1, hlk⟩ := HKU.out.ok s (by unfold maxLen; omega)
        obtain ⟨tv, e0, e1, e2, e3⟩ := HKU.out.wat
        cases hmem : decide (s ∈ b.U) with
        | true =>
          rw [hmem] at hlk
          have hone : b.one s = b := by unfold Lk.one; rw [if_pos (of_decide_eq_true hmem)]
          rw [hone] at HNX
          clear hone hmem
          go_wp2
          go_roundw
          case rel => exact ⟨j + 1, by omega, by simp, HBEL.out, by rw [HNX.out]; exact HKU.out⟩
          case measure => simp [intOf]; omega
        | false =>
          rw [hmem] at hlk
          have hpt := parts_in s wr
          have hpc := parts_count HCS.out
          have HPC := Lib.hid (fun p (hp : p ∈ PFg s.data.toList) => check_part HCS.out hp)
          have hps : (s.size : Nat) ≤ maxLen := by unfold maxLen; omega
          have hone : b.one s = ⟨if b0 s = 99 then (⟨b.σ.H, b.σ.todo, b.σ.N + 1 + (PFg s.data.toList).length⟩ : St).get s else ⟨b.σ.H, b.σ.todo, b.σ.N + 1 + (PFg s.data.toList).length⟩, b.U ++ [s], b.wholes s (PFg s.data.toList)⟩ := by unfold Lk.one; rw [if_neg (of_decide_eq_false hmem)]
          have HONE := Lib.hid hone
          clear hone hmem
          obtain ⟨ps, hpsd⟩ : ∃ ps, ps = PFg s.data.toList := ⟨_, rfl⟩
          have HPS := Lib.hid hpsd
          rw [← hpsd] at hpt hpc
          clear hpsd
          obtain ⟨np, hnp⟩ : ∃ np, np = ps.length := ⟨_, rfl⟩
          rw [← hnp] at hpc
          have HNP := Lib.hid hnp
          clear hnp
          go_wp2_with (go_at_call 37; refine hpt.mono ?_; clear hpt; rintro e w2 ⟨v2, rfl, hr, hb⟩; obtain ⟨A2, cp2, ev2⟩ := hr.form; (rw [← HNP.out] at ev2); subst ev2; have HK2 := Lib.hid (HKU.out.more hb hr); obtain ⟨w3, hrun3, hb3, hk3⟩ := HK2.out.made (s := s) (v := .slice A2 np cp2) (.inr ⟨rfl, HPS.out.symm⟩) hps (by omega); have HK3 := Lib.hid hk3; have HB3 := Lib.hid ((HBEL.out.trans (hb.mono HKU.out.base)).trans hb3); obtain ⟨tv2, f0, f1, f2, f3⟩ := HK2.out.wat; clear hk3 hb3 hb HKU HBEL HK2; have HR2 := Lib.hid hr; clear hr)
          obtain ⟨Z, hZ⟩ : ∃ Z : Xs, Z = (fun u ys => Y u ys ∨ (u = .slice A2 np cp2 ∧ ys = ps)) := ⟨_, rfl⟩
          rw [← hZ] at HK3
          have hZl : Z (.slice A2 np cp2) ps := by rw [hZ]; exact .inr ⟨rfl, rfl⟩
          have hZY : ∀ v xs, Y v xs → Z v xs := by rw [hZ]; exact fun v xs h => .inl h
          clear hZ
          have hA2 : 0 < np → ∃ g2 off2, A2 = some ⟨g2, off2, none⟩ := by
            intro h0
            rcases HR2.out with ⟨q', q⟩ | ⟨g2, off2, cap, cur, q', _⟩
            · have := HNP.out; rw [q] at this; simp at this; omega
            · injection q' with q'; exact ⟨g2, off2, q'⟩
          have HA2 := Lib.hid hA2
          clear hA2 HR2 f0 f1 f2 f3 e0 e1 e2 e3 hlk hcl hrun3
          have hnm : (np : Int) ≤ 2 := by omega
          go_loopw [54] (fun i wq => ∃ q : Nat, q ≤ np ∧ i = .int .i64 q ∧ RowKit.Below base w wq ∧ KV Z base wb bh bm bi wq b s q) (fun i _ => np - (intOf i).toNat)
          case atStart => exact ⟨0, Nat.zero_le _, rfl, HB3.out, HK3.out⟩
          case round =>
            obtain ⟨q, hq, rfl, hbel, hkv⟩ := hrel
            have HBEL := Lib.hid hbel; have HKV := Lib.hid hkv
            clear hbel hkv
            by_cases hql : q < np
            · obtain ⟨g2, off2, rfl⟩ := HA2.out (by omega)
              obtain ⟨p, hp⟩ : ∃ p, ps[q]? = some p := ⟨_, List.getElem?_eq_getElem (by have := HNP.out; omega)⟩
              have hcl := HKV.out.xrow hZl q p hp
              have hpz := check_size (HPC.out p (by rw [← HPS.out]; exact List.mem_of_getElem? hp))
              have HKD := Lib.hid HKV.out.drew
              obtain ⟨tv, e0, e1, e2, e3⟩ := HKD.out.wat
              obtain ⟨A4, n4, c4, hlk, hlk2, A5, n5, c5, w5, hr5, hcb, w6, hr6, hb6, hk6⟩ := HKD.out.next (p := p) (by rw [← HPS.out]; exact hp) (by unfold maxLen; omega) (by omega) HFIT.out 31
              have hwbl : wb < wr.heap.size := by
                have hn : wb < wr.drew.heap.size := by
                  rcases Nat.lt_or_ge wb wr.drew.heap.size with h | h
                  · exact h
                  · simp [World.cell?, Array.getElem?_eq_none h] at e0
                simpa using hn
              have hlk3 : (Instr.lookup 124 (.map (some bi)) (.string p) false).run Tryz.prog (wr.alloc (.cells #[.string s] 26)).drew = .ok (.slice A4 n4 c4) (wr.alloc (.cells #[.string s] 26)).drew := hlk2
              clear hlk2
              have d2 : (wr.alloc (.cells #[.string s] 26)).cell? ⟨wb, 2, none⟩ = some (.map (some bi)) := by rw [World.cell?_alloc_past _ _ _ (by simpa using hwbl)]; exact e2
              have HB6 := Lib.hid (HBEL.out.drew.trans hb6)
              have HK6 := Lib.hid hk6
              have HR5 := Lib.hid hr5
              clear hb6 hk6 hp HKD HKV hr5
              go_wp2_with fail
              go_region_law (refine step_q rfl (.tmp 68) (.tmp 70) rfl rfl rfl HR5.out ?_)
              all_goals
                go_wp2_with fail
                go_roundw
                case rel => exact ⟨q + 1, by omega, by simp, HB6.out, HK6.out⟩
                case measure => simp [intOf]; omega
            · obtain rfl : q = np := by omega
              have hidx := index_b0 s hz0
              obtain ⟨M, I, hkx, hM, hI⟩ := HKV.out
              rw [HNP.out, HPS.out] at hkx hI
              rw [List.take_length] at hkx hI
              have HMX := Lib.hid hkx; have HMM := Lib.hid hM; have HII := Lib.hid hI
              by_cases h99 : b0 s = 99
              · have hget := kx_get HMX.out s (by unfold maxLen; omega) (by simp only; have := HNP.out; rw [HPS.out] at this; omega) (by simp only; have := HFIT.out.todo; omega)
                rw [h99, show (((99 : UInt8).toNat : Nat) : Int) = 99 from rfl] at hidx
                clear hkx hM hI HKV
                go_wp2_with (go_at_call 68; refine hget.mono ?_; clear hget; rintro e w7 ⟨rfl, hb7, hk7⟩; have HB7 := Lib.hid (HBEL.out.trans hb7); have HK7 := Lib.hid hk7; clear hb7 hk7)
                go_roundw
                case rel => exact ⟨j + 1, by omega, by simp, HB7.out, by rw [HNX.out, HONE.out, if_pos h99]; exact ⟨M, I, HK7.out.less hZY, HMM.out, HII.out⟩⟩
                case measure => simp [intOf]; omega
              · have hne : (((b0 s).toNat : Int) == 99) = false := by
                  rw [beq_eq_false_iff_ne]; intro e; exact h99 (UInt8.toNat.inj (by show (b0 s).toNat = 99; omega))
                clear hkx hM hI HKV
                go_wp2_with fail
                go_roundw
                case rel => exact ⟨j + 1, by omega, by simp, HBEL.out, by rw [HNX.out, HONE.out, if_neg h99]; exact ⟨M, I, HMX.out.less hZY, HMM.out, HII.out⟩⟩
                case measure => simp [intOf]; omega
      · obtain rfl : j = l.length := by omega
        rw [List.take_length] at HKU
        go_wp2_with fail
        go_ret
        exact ⟨rfl, HBEL.out, fun _ => HKU.out.less hYX⟩
end Go.Proofs.YtkmpfmhbkflgpaaGreatDoor.Kw
