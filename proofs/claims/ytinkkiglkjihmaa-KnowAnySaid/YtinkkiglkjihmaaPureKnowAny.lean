/- KnowAny: the plain law. -/
import Derived.Test.YtinkkiglkjihmaaLw04
import Derived.Test.YtinkkiglkjihmaaPrxAny
set_option linter.unusedVariables false
set_option linter.unusedSimpArgs false
namespace Go.Proofs.Ytinkkiglkjihmaa.Pure
open Go.RowKit Go.Proofs.Ytinkkiglkjihmaa.Pr Go.Proofs.YtinkkiglkjihmaaW.PrintWords Go.Proofs.YtinkkiglkjihmaaW.PrintLast Go.Proofs.YtinkkiglkjihmaaW.PrintMore Go.Proofs.Ytinkkiglkjihmaa.TT Go.Proofs.Ytinkkiglkjihmaa.Ev03 Go.Proofs.Ytinkkiglkjihmaa.Kw Go.Proofs.Ytinkkiglkjihmaa.Ev04

/-- The turned list, as far as it has come. -/
def turnL (l : List ByteArray) (a : Nat) (n : Nat) : List ByteArray := (List.range n).map fun i => l.getD ((i + a) % l.length) ByteArray.empty
theorem turn_mem {l : List ByteArray} (h0 : 0 < l.length) (a : Nat) (x : ByteArray) : x ∈ turnL l a l.length ↔ x ∈ l := by
  unfold turnL
  rw [List.mem_map]
  constructor
  · rintro ⟨i, hi, rfl⟩
    have hm : (i + a) % l.length < l.length := Nat.mod_lt _ h0
    rw [List.getD_eq_getElem?_getD, List.getElem?_eq_getElem hm, Option.getD_some]
    exact List.getElem_mem hm
  · intro hx
    obtain ⟨j, hj, rfl⟩ := List.mem_iff_getElem.1 hx
    refine ⟨(j + (l.length - a % l.length)) % l.length, List.mem_range.2 (Nat.mod_lt _ h0), ?_⟩
    have h1 : ((j + (l.length - a % l.length)) % l.length + a) % l.length = j := by
      have ha := Nat.mod_lt a h0
      rw [Nat.mod_add_mod, Nat.add_assoc, Nat.add_mod, Nat.add_mod (l.length - a % l.length) a]
      have e : ((l.length - a % l.length) % l.length + a % l.length) % l.length = 0 := by
        by_cases q : a % l.length = 0
        · rw [q]; simp
        · rw [Nat.mod_eq_of_lt (show l.length - a % l.length < l.length by omega), Nat.sub_add_cancel (Nat.le_of_lt ha), Nat.mod_self]
      rw [e, Nat.add_zero, Nat.mod_mod, Nat.mod_eq_of_lt hj]
    rw [h1, List.getD_eq_getElem?_getD, List.getElem?_eq_getElem hj, Option.getD_some]
theorem any_loop {l : List ByteArray} (h0 : 0 < l.length) (hl : l.length ≤ 1000) (a : Nat) (ha : a < 256) (g : ByteArray) : ∀ (d k i : Nat), l.length - i = d → i ≤ l.length →
    chantrylaw04_KnowAny.l0 (k + d) l g (a : Int) (turnL l a i) (l.length : Int) (i : Int) = chantrylaw04_KnowAny.l0 k l g (a : Int) (turnL l a l.length) (l.length : Int) (l.length : Int) := by
  intro d
  induction d with
  | zero =>
    intro k i hd hi
    obtain rfl : i = l.length := by omega
    rfl
  | succ d ih =>
    intro k i hd hi
    have hlt : i < l.length := by omega
    have E := Lib.hid (succ_wrap i (by omega))
    have e1 : wrap64 ((i : Int) + wrap64 (a : Int)) = ((i + a : Nat) : Int) := by unfold wrap64; omega
    have e2 : Int.tmod ((i + a : Nat) : Int) (l.length : Int) = (((i + a) % l.length : Nat) : Int) := by rw [Int.tmod_eq_emod_of_nonneg (by omega)]; exact (Int.natCast_emod _ _).symm
    have hm : (i + a) % l.length < l.length := Nat.mod_lt _ h0
    have h3 : turnL l a (i + 1) = turnL l a i ++ [rdOf ByteArray.empty l (((i + a) % l.length : Nat) : Int)] := by
      unfold turnL rdOf
      rw [List.range_succ, List.map_append, Int.toNat_natCast]
      rfl
    have h4 : (turnL l a i).length = i := by unfold turnL; simp
    rw [show k + (d + 1) = (k + d) + 1 by omega]
    conv => lhs; unfold chantrylaw04_KnowAny.l0
    rw [if_pos (by omega), if_neg (by omega), e1, e2, if_pos (by omega), if_pos (by omega), if_pos (by omega), ← h3, E.out]
    exact ih k (i + 1) (by omega) (by omega)
theorem KnowAny (l : List ByteArray) (hl : l.length ≤ maxLen) (g : ByteArray) (x : Int) (hx0 : 0 ≤ x) (hx1 : x < 256) : ∃ k, chantrylaw04_KnowAny.f k l g x = some true := by
  obtain ⟨a, rfl⟩ : ∃ a : Nat, x = (a : Int) := ⟨x.toNat, by omega⟩
  obtain ⟨K1, f, f1, f2⟩ := few_spec l hl
  obtain ⟨n, hnn⟩ : ∃ n, n = K1 + 100000 := ⟨_, rfl⟩
  refine ⟨n + 1 + l.length + 1, ?_⟩
  have jt : chantrylaw04_KnowAny.j0 (n + 1 + l.length + 1) l g (a : Int) true = some true := by
    simp only [chantrylaw04_KnowAny.j0]
    rw [if_pos trivial]
  unfold chantrylaw04_KnowAny.f
  rw [alive_spec, Option.bind_some, if_pos rfl, f1 _ (by omega), Option.bind_some]
  cases f with
  | false => rw [if_neg (by simp)]; exact jt
  | true =>
    have hn := f2 rfl
    rw [if_pos rfl, right_spec _ (by omega), Option.bind_some]
    by_cases hr : checkL l = 0
    · obtain ⟨_, hv⟩ := ck_of hr
      rw [if_pos (decide_eq_true hr)]
      by_cases hs : (g.size : Int) > 400
      · rw [if_pos hs]; exact jt
      rw [if_neg hs, check_spec _ (by omega), Option.bind_some]
      by_cases hc : check g = 0
      · rw [if_pos hc]
        by_cases h0 : l.length = 0
        · have : ((l.length : Int) == 0) = true := by rw [beq_iff_eq]; omega
          rw [this]; exact jt
        · have : ((l.length : Int) == 0) = false := by rw [beq_eq_false_iff_ne]; omega
          rw [this]
          have hp : 0 < l.length := by omega
          simp only [chantrylaw04_KnowAny.j0]
          rw [if_neg (by simp)]
          have hlp := any_loop hp (by omega) a (by omega) g l.length (n + 1) 0 (by omega) (by omega)
          refine Eq.trans hlp ?_
          have hrd : rdOf ByteArray.empty l 0 = l[0] := rd_at l 0 hp
          have hlen : (turnL l a l.length).length = l.length := by unfold turnL; simp
          have hmm : ∀ y, y ∈ turnL l a l.length ++ [l[0]] ↔ y ∈ l := by
            intro y
            rw [List.mem_append, turn_mem hp, List.mem_singleton]
            exact ⟨fun h => h.elim id (fun e => by rw [e]; exact List.getElem_mem hp), .inl⟩
          have hm : checkL (turnL l a l.length ++ [l[0]]) = 0 := checkL_of (by rw [List.length_append, hlen]; simp; omega) (fun s hs => hv s ((hmm s).1 hs))
          have hsm := knL_small hr 20 hn
          have hkk := knL_congr hr hm (fun y => (hmm y).symm)
          conv => lhs; unfold chantrylaw04_KnowAny.l0
          rw [if_neg (by omega), if_pos (by omega), if_pos (by omega), Option.bind_some, hrd, der_ok hr hc, Option.bind_some, der_ok hm hc, Option.bind_some, known_ok hr, Option.bind_some, known_ok hm, Option.bind_some,
            dvL_eq hr hm hc hc (dv_congr (fun y => (hmm y).symm) g), if_pos (by simp), if_pos rfl, if_pos rfl, if_pos rfl, if_pos rfl, ← hkk]
          show (chantrylaw03_Same.f n (knL l) (knL l)).bind _ = some true
          rw [same_self n (knL l) (by omega) (by omega)]
          rfl
      · rw [if_neg hc]; exact jt
    · rw [if_neg (by simpa using hr)]; exact jt
end Go.Proofs.Ytinkkiglkjihmaa.Pure
