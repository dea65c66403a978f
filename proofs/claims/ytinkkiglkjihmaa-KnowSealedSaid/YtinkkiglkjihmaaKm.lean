/- know: maps that hold values as they are; a queue of strings. -/
import Derived.Test.YtinkkiglkjihmaaParts
import Derived.Maps.OwnSet
import Derived.Deep.AppendSrc
set_option linter.unusedVariables false
set_option linter.unusedSimpArgs false
namespace Go.Proofs.Ytinkkiglkjihmaa.Kw
open Go.RowKit Go.Maps Go.WideMaps Go.Proofs.YtinkkiglkjihmaaW.PrintWords Go.Proofs.YtinkkiglkjihmaaW.PrintWords.Kd

/-- How an element reads: as a token that is the value itself. -/
def raw (v : Value) : Option (DataW Value × List MemPlace) := some (.held v, [])
theorem law : Keyed Try.prog 23 := string_keyed Try.underlying23

structure Reads (D : DataW Value) (f : List UInt8 → Option Value) : Prop where
  isMap : IsMap D
  has : ∀ k, Maps.has D (.string k) = (f k).isSome
  at_ : ∀ k v, f k = some v → ∀ z, D.atKey (.string k) z = .held v
  out : ∀ k, f k = none → ∀ z, D.atKey (.string k) z = z
/-- Block b of w is a map of at most n entries, which tells f's values. -/
def MapAt (w : World) (b n : Nat) (f : List UInt8 → Option Value) : Prop := ∃ D, w.ownsMap Try.prog 23 raw b n D ∧ Reads D f

theorem MapAt.made (w : World) : MapAt (w.alloc (.map #[] 0)) w.heap.size 0 (fun _ => none) :=
  ⟨.map [], World.ownsMap_made _ _ _ _, ⟨isMap_empty, fun k => rfl, fun k v h => by (cases h), fun k _ z => by first | rfl | simp [DataW.atKey]⟩⟩
theorem MapAt.lt {w : World} {b n : Nat} {f : List UInt8 → Option Value} (h : MapAt w b n f) : b < w.heap.size := by
  obtain ⟨D, h, _⟩ := h; exact h.lt
theorem MapAt.kept {w w' : World} {b n : Nat} {f : List UInt8 → Option Value} {row : Option Nat} (h : MapAt w b n f) (hg : w.grownBy w' row) (hne : some b ≠ row) : MapAt w' b n f := by
  obtain ⟨D, h, r⟩ := h; exact ⟨D, h.kept hg hne, r⟩
theorem MapAt.below {w w' : World} {b n : Nat} {f : List UInt8 → Option Value} (h : MapAt w b n f) (hb : RowKit.Below w.heap.size w w') : MapAt w' b n f := by
  have hlt := h.lt
  obtain ⟨D, ⟨es, clock, h1, h2⟩, r⟩ := h
  exact ⟨D, ⟨es, clock, (hb.block b hlt).trans h1, h2⟩, r⟩
theorem MapAt.same {w w' : World} {b n : Nat} {f : List UInt8 → Option Value} (h : MapAt w b n f) (hb : w'.heap[b]? = w.heap[b]?) : MapAt w' b n f := by
  obtain ⟨D, ⟨es, clock, h1, h2⟩, r⟩ := h
  exact ⟨D, ⟨es, clock, hb.trans h1, h2⟩, r⟩
theorem MapAt.mono {w : World} {b n n' : Nat} {f : List UInt8 → Option Value} (h : MapAt w b n f) (hn : n ≤ n') : MapAt w b n' f := by
  obtain ⟨D, h, r⟩ := h; exact ⟨D, h.mono hn, r⟩
theorem held_inj {a b : Value} {p : List MemPlace} (h : raw a = some (DataW.held b, p)) : a = b := by
  unfold raw at h
  have := Option.some.inj h
  injection this with h1 _
  injection h1
theorem MapAt.look {w : World} {b n : Nat} {f : List UInt8 → Option Value} (h : MapAt w b n f) {t e : TypeId} (ht : Try.prog.underlying t = some (.map 23 e)) {z : Value} (hz : (zeroValue e).run Try.prog w = .ok z w) (s : ByteArray) (hs : s.size ≤ maxLen) :
    (Instr.lookup t (.map (some b)) (.string s) false).run Try.prog w = .ok ((f s.data.toList).getD z) w := by
  obtain ⟨D, h, r⟩ := h
  obtain ⟨v, ps, hrun, hv⟩ := h.lookup law ht hz (zd := .held z) (zp := []) rfl (keyOf_string_mk Try.underlying23 hs)
  rw [hrun]
  cases hf : f s.data.toList with
  | none => rw [r.out _ hf] at hv; rw [held_inj hv]; rfl
  | some u => rw [r.at_ _ _ hf] at hv; rw [held_inj hv]; rfl
theorem MapAt.look_ok {w : World} {b n : Nat} {f : List UInt8 → Option Value} (h : MapAt w b n f) {t e : TypeId} (ht : Try.prog.underlying t = some (.map 23 e)) {z : Value} (hz : (zeroValue e).run Try.prog w = .ok z w) (s : ByteArray) (hs : s.size ≤ maxLen) :
    (Instr.lookup t (.map (some b)) (.string s) true).run Try.prog w = .ok (.tuple #[(f s.data.toList).getD z, .bool (f s.data.toList).isSome]) w := by
  obtain ⟨D, h, r⟩ := h
  obtain ⟨v, ps, hrun, hv⟩ := h.look_ok law ht hz (zd := .held z) (zp := []) rfl (keyOf_string_mk Try.underlying23 hs)
  rw [hrun, r.has]
  cases hf : f s.data.toList with
  | none => rw [r.out _ hf] at hv; rw [held_inj hv]; rfl
  | some u => rw [r.at_ _ _ hf] at hv; rw [held_inj hv]; rfl
def put (f : List UInt8 → Option Value) (k : List UInt8) (v : Value) : List UInt8 → Option Value := fun x => if x = k then some v else f x
theorem string_key (k : List UInt8) : WideAt.IsKeyLit (.string k) := trivial
theorem MapAt.update {w : World} {b n : Nat} {f : List UInt8 → Option Value} (h : MapAt w b n f) {t e : TypeId} (ht : Try.prog.underlying t = some (.map 23 e)) (hn : n < maxLen) (s : ByteArray) (hs : s.size ≤ maxLen) (v : Value) :
    ∃ w', (Instr.mapUpdate t (.map (some b)) (.string s) v).run Try.prog w = .ok () w' ∧ MapAt w' b (n + 1) (put f s.data.toList v) ∧ w.grownBy w' (some b) := by
  obtain ⟨D, h, r⟩ := h
  obtain ⟨w', hrun, h', hg⟩ := h.update law ht hn (val := v) (d := .held v) (ps := []) (keyOf_string_mk Try.underlying23 hs) rfl
  refine ⟨w', hrun, ⟨_, h', ⟨r.isMap.put _ _, fun k => ?_, fun k u hu z => ?_, fun k hk z => ?_⟩⟩, hg⟩
  · unfold put
    by_cases e : k = s.data.toList
    · subst e; rw [has_put_same r.isMap (string_key _), if_pos rfl]; rfl
    · rw [has_put_other (by intro q; injection q with q; exact e q), r.has, if_neg e]
  · unfold put at hu
    by_cases e : k = s.data.toList
    · subst e; rw [if_pos rfl] at hu; rw [atKey_put_same r.isMap (string_key _), Option.some.inj hu]
    · rw [if_neg e] at hu; rw [atKey_put_other (by intro q; injection q with q; exact e q), r.at_ _ _ hu]
  · unfold put at hk
    by_cases e : k = s.data.toList
    · rw [if_pos e] at hk; cases hk
    · rw [if_neg e] at hk; rw [atKey_put_other (by intro q; injection q with q; exact e q), r.out _ hk]

/-! ### A queue of strings: a slice of a block of its own, from whatever place on -/
def QRow (base : Nat) (w : World) (v : Value) (xs : List ByteArray) : Prop :=
  (v = .slice none 0 0 ∧ xs = []) ∨ ∃ g off cap cur, v = .slice (some ⟨g, off, none⟩) xs.length cap ∧ base ≤ g ∧ w.heap[g]? = some (.cells cur 23 (0, 0)) ∧ xs.length ≤ cap ∧ off + cap ≤ cur.size ∧ ∀ j x, xs[j]? = some x → cur[off + j]? = some (.string x)
theorem QRow.nil (base : Nat) (w : World) : QRow base w (.slice none 0 0) [] := .inl ⟨rfl, rfl⟩
theorem QRow.same {base : Nat} {w w' : World} {v : Value} {xs : List ByteArray} (h : QRow base w v xs) (hk : ∀ g, v.ownBlock = some g → w'.heap[g]? = w.heap[g]?) : QRow base w' v xs := by
  rcases h with h | ⟨g, off, cap, cur, rfl, hb, hg, r⟩
  · exact .inl h
  · exact .inr ⟨g, off, cap, cur, rfl, hb, (hk g rfl).trans hg, r⟩
theorem QRow.form {base : Nat} {w : World} {v : Value} {xs : List ByteArray} (h : QRow base w v xs) : ∃ A cap, v = .slice A xs.length cap := by
  rcases h with ⟨rfl, rfl⟩ | ⟨g, off, cap, cur, rfl, _⟩
  · exact ⟨none, 0, rfl⟩
  · exact ⟨_, _, rfl⟩
/-- Without its first. -/
theorem QRow.rest {base : Nat} {w : World} {x : ByteArray} {xs : List ByteArray} {v : Value} (h : QRow base w v (x :: xs)) : ∃ g off cap, v = .slice (some ⟨g, off, none⟩) (xs.length + 1) (cap + 1) ∧ w.cell? ⟨g, off, none⟩ = some (.string x) ∧ base ≤ g ∧ QRow base w (.slice (some ⟨g, off + 1, none⟩) xs.length cap) xs := by
  rcases h with ⟨_, h⟩ | ⟨g, off, cap, cur, rfl, hb, hg, h1, h2, h3⟩
  · cases h
  · obtain ⟨c, rfl⟩ : ∃ c, cap = c + 1 := ⟨cap - 1, by simp at h1; omega⟩
    refine ⟨g, off, c, rfl, ?_, hb, .inr ⟨g, off + 1, c, cur, rfl, hb, hg, by simp at h1; omega, by omega, fun j y hj => ?_⟩⟩
    · have := h3 0 x rfl
      rw [Nat.add_zero] at this
      simpa [World.cell?, hg] using this
    · have := h3 (j + 1) y (by simpa using hj)
      rw [show off + 1 + j = off + (j + 1) by omega]
      exact this

theorem QRow.of_own {base : Nat} {w : World} {v : Value} {n : Nat} {ys : List Value} {xs : List ByteArray} (h : w.ownsRow base 23 1 v n ys) (hy : ys = xs.map Value.string) (hn : n = xs.length) : QRow base w v xs := by
  subst hy; subst hn
  rcases h.2 with ⟨rfl, hz⟩ | ⟨g, cap, cur, rfl, hb, hg, h1, h2, h3, h4⟩
  · exact .inl ⟨rfl, List.eq_nil_of_length_eq_zero hz⟩
  · refine .inr ⟨g, 0, cap, cur, rfl, hb, hg, h1, by omega, fun j x hj => ?_⟩
    have hl := (List.getElem?_eq_some_iff.1 hj).1
    have e1 : (cur.toList.take xs.length)[j]? = (xs.map Value.string)[j]? := by rw [← h4, Nat.mul_one]
    rw [List.getElem?_take_of_lt hl, Array.getElem?_toList, List.getElem?_map, hj] at e1
    rw [Nat.zero_add, e1]; rfl
theorem QRow.push {base : Nat} {W : World} {v : Value} {xs : List ByteArray} (h : QRow base W v xs) (x : ByteArray) (a : Addr) (c : Nat) (ha : W.cell? a = some (.string x)) (hlen : xs.length + 1 ≤ 100000000) (hbase : base ≤ W.heap.size) (ty : TypeId) :
    ∃ v' W', (Builtin.append_ #[22, 22] ty #[v, .slice (some a) 1 c]).run Try.prog W = .ok v' W' ∧ QRow base W' v' (xs ++ [x]) ∧ W.grownBy W' v.ownBlock ∧ (v'.ownBlock = v.ownBlock ∨ v'.ownBlock = some W.heap.size) := by
  obtain ⟨i0, hi, hz0, hz1, hz2⟩ := info_parts Rdr.infoT
  have hnews : ∀ j u, ([Value.string x] : List Value)[j]? = some u → W.cell? (a.add j) = some u := by
    intro j u hj
    rcases j with _ | j
    · have e : a.add 0 = a := by unfold Addr.add; split <;> simp_all
      rw [e, ha]; simpa using hj
    · simp at hj
  have h1 : ∀ u ∈ ([Value.string x] : List Value), u.oneCell' = true := by intro u hu; rw [List.mem_singleton.1 hu]; rfl
  have h63 : maxLen = 9223372036854775807 := rfl
  rcases h with ⟨rfl, rfl⟩ | ⟨g, off, cap, cur, rfl, hb, hg, hc, hfit, hcell⟩
  · obtain ⟨g, cap, w', hr, hown, hgrow, hloc, hlt⟩ := run_append_lies (P := Try.prog) W 22 ty base 23 i0 (.string ⟨#[]⟩) 1 16 Try.underlying22 hi hz0 hz1 hz2 rfl (by decide) (.slice none 0 0) 0 [] (World.ownsRow_nil _ _ _ _) a 1 c [.string x] rfl hnews h1 (by decide) (by omega) (by omega) hbase _ rfl
    refine ⟨_, w', hr, QRow.of_own hown rfl rfl, hgrow, ?_⟩
    rcases hloc with h | h
    · cases h
    · right; rw [h]; rfl
  · by_cases hroom : xs.length + 1 ≤ cap
    · have hsrc : Src Try.prog i0.size 22 (.slice (some a) 1 c) 1 [.string x] W := by
        rw [hz1]
        exact Src.ofSlice W Try.underlying22 a 1 c [.string x] rfl hnews h1
      have hcells : ∀ j, j < cur.size → (W.cell? ⟨g, j, none⟩).isSome = true := fun j hj => by simp [World.cell?, hg, hj]
      have hr := run_append_room_src (P := Try.prog) W 22 22 ty 23 i0 Try.underlying22 hi g off xs.length cap (.slice (some a) 1 c) 1 [.string x] hsrc hroom
        (by rw [hz1]; intro j hj; simp at hj; subst hj; exact hcells _ (by omega)) (by intro j hj; simp [World.frozen?, hg])
      obtain ⟨cur', k1, k2, k3⟩ := setCells_row [.string x] (off + xs.length * i0.size) W cur hg (by rw [hz1]; simp; omega)
      refine ⟨_, _, hr, .inr ⟨g, off, cap, cur', by simp, hb, k1, by simpa using hroom, by omega, fun j y hj => ?_⟩, ?_, .inl rfl⟩
      · rw [← Array.getElem?_toList, k3, hz1, Nat.mul_one]
        have hl := (List.getElem?_eq_some_iff.1 hj).1
        rw [List.length_append, List.length_singleton] at hl
        have hcl : off + xs.length < cur.toList.length := by
          have : cur.toList.length = cur.size := Array.length_toList
          omega
        have ht : (cur.toList.take (off + xs.length)).length = off + xs.length := by rw [List.length_take]; exact Nat.min_eq_left (Nat.le_of_lt hcl)
        rcases Nat.lt_or_ge j xs.length with g1 | g1
        · rw [List.append_assoc, List.getElem?_append_left (by rw [ht]; exact Nat.add_lt_add_left g1 off), List.getElem?_take_of_lt (Nat.add_lt_add_left g1 off), Array.getElem?_toList]
          rw [List.getElem?_append_left g1] at hj
          exact hcell j y hj
        · obtain rfl : j = xs.length := by omega
          rw [List.getElem?_append_right (Nat.le_refl _), Nat.sub_self] at hj
          rw [List.append_assoc, List.getElem?_append_right (by rw [ht]; exact Nat.le_refl _), ht, Nat.sub_self]
          simpa using hj
      · obtain ⟨e1, e2, e3, e4⟩ := setCells_same g [.string x] (off + xs.length * i0.size) W
        exact ⟨e1, e2, e3, by omega, fun k hk hne => setCells_far [.string x] _ k (fun e => hne (by rw [e]; rfl))⟩
    · have holds : ∀ j u, (xs.map Value.string)[j]? = some u → W.cell? ((⟨g, off, none⟩ : Addr).add j) = some u := by
        intro j u hj
        rw [List.getElem?_map] at hj
        obtain ⟨y, hy, rfl⟩ := Option.map_eq_some_iff.1 hj
        rw [show ((⟨g, off, none⟩ : Addr).add j) = ⟨g, off + j, none⟩ by unfold Addr.add; split <;> simp_all]
        have := hcell j y hy
        simpa [World.cell?, hg] using this
      have hr := run_append_grow (P := Try.prog) W 22 ty 23 i0 (.string ⟨#[]⟩) Try.underlying22 hi hz0 ⟨g, off, none⟩ xs.length cap (xs.map Value.string) (by rw [hz1]; simp) holds a 1 c [.string x] (by rw [hz1]; rfl) hnews (by omega) (by omega) (growslice_fits (by omega) (by rw [hz2]; omega))
      refine ⟨_, _, hr, .inr ⟨W.heap.size, 0, grownCap W (xs.length + 1) cap 23, _, by simp, hbase, heap_alloc_new W.drew _, ?_, ?_, fun j y hj => ?_⟩, ⟨rfl, rfl, rfl, by simp, fun k hk _ => heap_alloc_old W.drew _ hk⟩, .inr rfl⟩
      · have := grownCap_ge W (xs.length + 1) cap 23; simpa using this
      · have := grownCap_ge W (xs.length + 1) cap 23
        simp [size_zeroCells, Value.cells]; omega
      · have hl := (List.getElem?_eq_some_iff.1 hj).1
        rw [Nat.zero_add, ← Array.getElem?_toList]
        simp only [Array.toList_append]
        have e : (xs.map Value.string ++ [Value.string x]) = (xs ++ [x]).map Value.string := by simp
        rw [List.getElem?_append_left (by simpa using hl), e, List.getElem?_map, hj]
        rfl
end Go.Proofs.Ytinkkiglkjihmaa.Kw
