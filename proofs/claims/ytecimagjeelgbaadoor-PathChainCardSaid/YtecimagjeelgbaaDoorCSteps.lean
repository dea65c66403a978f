import Derived.Test.YtecimagjeelgbaaDoorCFresh
import Derived.Test.YtecimagjeelgbaaDoorCPrxV
import Derived.Test.YtecimagjeelgbaaDoorCPrxS
/- The reference's functions on trees, in closed form. -/
set_option linter.unusedVariables false
set_option linter.unusedSimpArgs false
namespace Go.Proofs.YtecimagjeelgbaaDoor.Pr
open Go.RowKit Go.Proofs.YtecimagjeelgbaaDoorW.PrintWords

theorem rpath_f (id : Int) (h0 : 0 ≤ id) (h1 : id ≤ 255) : Ev (fun k => chantryref14_Path.f k id) (pathI id) := by
  by_cases h : id < 16
  · have hid : id = 0 ∨ id = 1 ∨ id = 2 ∨ id = 3 ∨ id = 4 ∨ id = 5 ∨ id = 6 ∨ id = 7 ∨ id = 8 ∨ id = 9 ∨ id = 10 ∨ id = 11 ∨ id = 12 ∨ id = 13 ∨ id = 14 ∨ id = 15 := by omega
    rcases hid with rfl | rfl | rfl | rfl | rfl | rfl | rfl | rfl | rfl | rfl | rfl | rfl | rfl | rfl | rfl | rfl <;> exact Ev.of (fun k => chantryref14_Path.mono _ k) (k := 6) (by kernel_rfl)
  · have e : pathI id = [] := by unfold pathI; rw [if_neg (by omega)]
    rw [e]
    refine ⟨1, fun k hk => ?_⟩
    obtain ⟨k, rfl⟩ : ∃ m, k = m + 1 := ⟨k - 1, by omega⟩
    unfold chantryref14_Path.f chantryref14_Leaf.f
    rw [if_pos (by omega)]
    rfl
theorem value_f (id : Nat) (h : id < 16) : Ev (fun k => chantryref05_value.f k (id : Int)) ((2 ^ id : Nat) : Int) := by
  have hid : id = 0 ∨ id = 1 ∨ id = 2 ∨ id = 3 ∨ id = 4 ∨ id = 5 ∨ id = 6 ∨ id = 7 ∨ id = 8 ∨ id = 9 ∨ id = 10 ∨ id = 11 ∨ id = 12 ∨ id = 13 ∨ id = 14 ∨ id = 15 := by omega
  rcases hid with rfl | rfl | rfl | rfl | rfl | rfl | rfl | rfl | rfl | rfl | rfl | rfl | rfl | rfl | rfl | rfl <;> exact Ev.of (fun k => chantryref05_value.mono _ k) (k := 17) (by kernel_rfl)
def hasB (s id : Nat) : Bool := decide (id < 16) && bit s id
theorem wrap16 (n : Nat) (h : n < 65536) : IntKind.u16.wrap (n : Int) = (n : Int) := by simp only [IntKind.wrap, IntKind.bits, IntKind.signed]; simp; omega
theorem pow_lt16 {i : Nat} (h : i < 16) : 2 ^ i < 65536 := Nat.pow_lt_pow_right (n := 16) (by decide) h
theorem has_f (s id : Nat) (hs : s < 65536) (h : id ≤ 255) : Ev (fun k => chantryref05_Has.f k (s : Int) (id : Int)) (hasB s id) := by
  unfold hasB
  by_cases hi : id < 16
  · rw [decide_eq_true hi, Bool.true_and]
    refine Ev.congr (f := fun k => (chantryref05_value.f k (id : Int)).bind fun t164 => (if t164 = 0 then (none) else (some ((Int.tmod (IntKind.u16.wrap (Int.tdiv (s : Int) t164)) 2) == 1)))) (fun k => by unfold chantryref05_Has.f; rw [if_pos (by omega)]) ?_
    refine Ev.bind (value_f id hi) ?_
    have hp := Nat.two_pow_pos id
    refine Ev.congr (f := fun _ => some (bit s id)) (fun k => ?_) (Ev.now _)
    rw [if_neg (by omega), Int.tdiv_eq_ediv_of_nonneg (by omega), ← Int.natCast_ediv, wrap16 _ (Nat.lt_of_le_of_lt (Nat.div_le_self _ _) hs), Int.tmod_eq_emod_of_nonneg (Int.natCast_nonneg _)]
    unfold bit
    congr 1
    rw [Bool.eq_iff_iff]
    simp only [beq_iff_eq]
    omega
  · rw [decide_eq_false hi, Bool.false_and]
    exact Ev.congr (f := fun _ => some false) (fun k => by unfold chantryref05_Has.f; rw [if_neg (by omega)]) (Ev.now _)
theorem on_l (node : Int) (l : List Int) (hl : l.length < 100) : ∀ (d i : Nat), l.length - i = d → Ev (fun k => chantryref14_on.l0 k node l (i : Int)) ((l.drop i).contains node) := by
  intro d
  induction d with
  | zero =>
    intro i hi
    rw [List.drop_of_length_le (by omega)]
    exact Ev.step (f := fun _ => some false) (fun k => by simp only [chantryref14_on.l0]; rw [if_neg (by omega)]) (Ev.now _)
  | succ d ih =>
    intro i hi
    have hil : i < l.length := by omega
    have hr : rd l (i : Int) = l[i] := by simp [rd, hil]
    rw [List.drop_eq_getElem_cons hil]
    by_cases h : l[i] = node
    · refine Ev.step (f := fun _ => some true) (fun k => by simp only [chantryref14_on.l0]; rw [if_pos (by omega), if_pos (by omega), hr, if_pos h]) ?_
      have : (l[i] :: l.drop (i + 1)).contains node = true := by rw [List.contains_cons, beq_iff_eq.mpr h.symm, Bool.true_or]
      rw [this]
      exact Ev.now _
    · refine Ev.step (f := fun k => chantryref14_on.l0 k node l ((i + 1 : Nat) : Int)) (fun k => by simp only [chantryref14_on.l0]; rw [if_pos (by omega), if_pos (by omega), hr, if_neg h, show wrap64 ((i : Int) + 1) = ((i + 1 : Nat) : Int) by unfold wrap64; omega]) ?_
      have h2 : ¬ node = l[i] := fun e => h e.symm
      have : (l[i] :: l.drop (i + 1)).contains node = (l.drop (i + 1)).contains node := by rw [List.contains_cons, beq_eq_false_iff_ne.mpr h2, Bool.false_or]
      rw [this]
      exact ih (i + 1) (by omega)
theorem path_short (id : Int) : (pathI id).length < 100 := by unfold pathI; split <;> simp
theorem on_f (id : Nat) (h : id ≤ 255) (node : Int) : Ev (fun k => chantryref14_on.f k (id : Int) node) ((pathI (id : Int)).contains node) := by
  refine Ev.congr (f := fun k => (chantryref14_Path.f k (id : Int)).bind fun t => chantryref14_on.l0 k node t 0) (fun k => rfl) ?_
  exact Ev.bind (rpath_f (id : Int) (by omega) (by omega)) (on_l node (pathI (id : Int)) (path_short _) _ 0 rfl)
theorem with_f (a i : Nat) (hi : i < 16) (ha : a < 2 ^ i) : Ev (fun k => chantryref05_With.f k (a : Int) (i : Int)) ((a + 2 ^ i : Nat) : Int) := by
  have hp := pow_lt16 hi
  have hb : hasB a i = false := by
    unfold hasB
    rw [bit_eq, Nat.testBit_lt_two_pow ha, Bool.and_false]
  have h1 := has_f a i (by omega) (by omega)
  rw [hb] at h1
  refine Ev.congr (f := fun k => (chantryref05_Has.f k (a : Int) (i : Int)).bind fun t169 => (if t169 = true then (some (a : Int)) else ((chantryref05_value.f k (i : Int)).bind fun t170 => (some (IntKind.u16.wrap ((a : Int) + t170)))))) (fun k => rfl) ?_
  refine Ev.bind h1 ?_
  refine Ev.congr (f := fun k => (chantryref05_value.f k (i : Int)).bind fun t170 => (some (IntKind.u16.wrap ((a : Int) + t170)))) (fun k => by rw [if_neg (by simp)]) ?_
  refine Ev.bind (value_f i hi) ?_
  have hq : 2 ^ i + 2 ^ i ≤ 65536 := by
    have : 2 ^ (i + 1) ≤ 2 ^ 16 := Nat.pow_le_pow_right (by decide) hi
    rw [Nat.pow_succ] at this; omega
  rw [show ((a : Int) + ((2 ^ i : Nat) : Int)) = ((a + 2 ^ i : Nat) : Int) by omega, wrap16 _ (by omega)]
  exact Ev.now _

/-- Those below a node, as a natural number. -/
def belowN (s : Nat) (node : Int) : Nat := if 1 ≤ node ∧ node ≤ 31 then s &&& maskN node.toNat else 0
theorem belowI_eq (s : Nat) (node : Int) : belowI (s : Int) node = (belowN s node : Nat) := by
  unfold belowI belowN
  rw [Int.toNat_natCast]
  split <;> rfl
theorem belowN_lt {s : Nat} (hs : s < 65536) (node : Int) : belowN s node < 65536 := by
  unfold belowN
  split
  · exact Nat.lt_of_le_of_lt Nat.and_le_left hs
  · omega
theorem path_all {id : Nat} (h : id < 16) {n : Int} (hn : n ∈ pathI (id : Int)) : 1 ≤ n ∧ n ≤ 31 := by
  have hid : id = 0 ∨ id = 1 ∨ id = 2 ∨ id = 3 ∨ id = 4 ∨ id = 5 ∨ id = 6 ∨ id = 7 ∨ id = 8 ∨ id = 9 ∨ id = 10 ∨ id = 11 ∨ id = 12 ∨ id = 13 ∨ id = 14 ∨ id = 15 := by omega
  unfold pathI at hn
  rw [if_pos (by omega)] at hn
  simp only [List.mem_cons, List.not_mem_nil, or_false] at hn
  omega
theorem belowN_bit (s : Nat) (node : Int) (i : Nat) (hi : i < 16) : bit (belowN s node) i = (bit s i && (pathI (i : Int)).contains node) := by
  unfold belowN
  split
  · rename_i h
    rw [bit_and, mask_bit _ i (by omega) hi, Int.toNat_of_nonneg (by omega)]
  · rename_i h
    have : (pathI (i : Int)).contains node = false := by
      rw [Bool.eq_false_iff]
      intro hc
      have := path_all hi (List.contains_iff_mem.1 hc)
      omega
    rw [this, Bool.and_false, bit_eq, Nat.zero_testBit]
theorem mod_succ (x i : Nat) : x % 2 ^ (i + 1) = x % 2 ^ i + 2 ^ i * (x.testBit i).toNat := by
  rw [Nat.pow_succ, Nat.mod_mul, Nat.testBit_eq_decide_div_mod_eq]
  congr 2
  by_cases h : x / 2 ^ i % 2 = 1
  · rw [decide_eq_true h, h]; rfl
  · rw [decide_eq_false h]
    have : x / 2 ^ i % 2 = 0 := by omega
    rw [this]; rfl
theorem rbelow_l (s : Nat) (hs : s < 65536) (node : Int) : ∀ (d i : Nat), 16 - i = d → i ≤ 16 → Ev (fun k => chantryref14_Below.l0 k (s : Int) node ((belowN s node % 2 ^ i : Nat) : Int) (i : Int)) ((belowN s node : Nat) : Int) := by
  intro d
  induction d with
  | zero =>
    intro i hd hi
    obtain rfl : i = 16 := by omega
    rw [Nat.mod_eq_of_lt (show belowN s node < 2 ^ 16 from belowN_lt hs node)]
    exact Ev.step (f := fun _ => some ((belowN s node : Nat) : Int)) (fun k => by simp only [chantryref14_Below.l0]; rw [if_neg (by omega)]) (Ev.now _)
  | succ d ih =>
    intro i hd hi
    have h16 : i < 16 := by omega
    have hn := ih (i + 1) (by omega) (by omega)
    have hm := mod_succ (belowN s node) i
    have hb := belowN_bit s node i h16
    rw [bit_eq] at hb
    rw [hb] at hm
    have hmod : belowN s node % 2 ^ i < 2 ^ i := Nat.mod_lt _ (Nat.two_pow_pos i)
    refine Ev.step (f := fun k => (chantryref05_Has.f k (s : Int) (i : Int)).bind fun t171 => (if t171 = true then ((chantryref14_on.f k (i : Int) node).bind fun t172 => (if t172 = true then ((chantryref05_With.f k ((belowN s node % 2 ^ i : Nat) : Int) (i : Int)).bind fun t173 => (chantryref14_Below.l0 k (s : Int) node t173 ((i + 1 : Nat) : Int))) else (chantryref14_Below.l0 k (s : Int) node ((belowN s node % 2 ^ i : Nat) : Int) ((i + 1 : Nat) : Int)))) else (chantryref14_Below.l0 k (s : Int) node ((belowN s node % 2 ^ i : Nat) : Int) ((i + 1 : Nat) : Int)))) (fun k => ?_) ?_
    · simp only [chantryref14_Below.l0]
      rw [if_pos (by omega), show (i : Int) % 256 = (i : Int) by omega, show wrap64 ((i : Int) + 1) = ((i + 1 : Nat) : Int) by unfold wrap64; omega]
    · have hh : hasB s i = bit s i := by unfold hasB; rw [decide_eq_true h16, Bool.true_and]
      have h1 := has_f s i hs (by omega)
      rw [hh] at h1
      refine Ev.bind h1 ?_
      cases hbit : bit s i with
      | false =>
        rw [hbit, Bool.false_and] at hm
        refine Ev.congr (f := fun k => chantryref14_Below.l0 k (s : Int) node ((belowN s node % 2 ^ i : Nat) : Int) ((i + 1 : Nat) : Int)) (fun k => by rw [if_neg (by simp)]) ?_
        have e : belowN s node % 2 ^ (i + 1) = belowN s node % 2 ^ i := by rw [hm]; simp
        rw [e] at hn
        exact hn
      | true =>
        rw [hbit, Bool.true_and] at hm
        refine Ev.congr (f := fun k => (chantryref14_on.f k (i : Int) node).bind fun t172 => (if t172 = true then ((chantryref05_With.f k ((belowN s node % 2 ^ i : Nat) : Int) (i : Int)).bind fun t173 => (chantryref14_Below.l0 k (s : Int) node t173 ((i + 1 : Nat) : Int))) else (chantryref14_Below.l0 k (s : Int) node ((belowN s node % 2 ^ i : Nat) : Int) ((i + 1 : Nat) : Int)))) (fun k => by rw [if_pos rfl]) ?_
        refine Ev.bind (on_f i (by omega) node) ?_
        cases hc : (pathI (i : Int)).contains node with
        | false =>
          rw [hc] at hm
          refine Ev.congr (f := fun k => chantryref14_Below.l0 k (s : Int) node ((belowN s node % 2 ^ i : Nat) : Int) ((i + 1 : Nat) : Int)) (fun k => by rw [if_neg (by simp)]) ?_
          have e : belowN s node % 2 ^ (i + 1) = belowN s node % 2 ^ i := by rw [hm]; simp
          rw [e] at hn
          exact hn
        | true =>
          rw [hc] at hm
          refine Ev.congr (f := fun k => (chantryref05_With.f k ((belowN s node % 2 ^ i : Nat) : Int) (i : Int)).bind fun t173 => (chantryref14_Below.l0 k (s : Int) node t173 ((i + 1 : Nat) : Int))) (fun k => by rw [if_pos rfl]) ?_
          refine Ev.bind (with_f _ i h16 hmod) ?_
          have e : belowN s node % 2 ^ (i + 1) = belowN s node % 2 ^ i + 2 ^ i := by rw [hm]; simp
          rw [e] at hn
          exact hn
theorem rbelow_f (s : Nat) (hs : s < 65536) (node : Int) : Ev (fun k => chantryref14_Below.f k (s : Int) node) (belowI (s : Int) node) := by
  have h := rbelow_l s hs node 16 0 rfl (by omega)
  rw [belowI_eq, show belowN s node % 2 ^ 0 = 0 by omega] at *
  exact h
end Go.Proofs.YtecimagjeelgbaaDoor.Pr

/- The steps, the program's and the reference's (the beginning of XSteps14, without its law). -/
set_option linter.unusedVariables false
set_option linter.unusedSimpArgs false
namespace Go.Proofs.YtecimagjeelgbaaDoor.Pr
open Go.RowKit Go.Proofs.YtecimagjeelgbaaDoorW.PrintWords Go.Proofs.YtecimagjeelgbaaDoorW.PrintMore

theorem wf8 {a : Int} (h : (Lit.int .u8 a).wf = true) : 0 ≤ a ∧ a ≤ 255 := by
  simp [Lit.wf, IntKind.min, IntKind.max, IntKind.signed, IntKind.bits] at h; omega
theorem wf16 {a : Int} (h : (Lit.int .u16 a).wf = true) : ∃ n : Nat, a = (n : Int) ∧ n < 65536 := by
  simp [Lit.wf, IntKind.min, IntKind.max, IntKind.signed, IntKind.bits] at h
  exact ⟨a.toNat, by omega, by omega⟩
theorem below_f (s : Nat) (hs : s < 65536) (node : Int) (k : Nat) : tree_Below.f k (s : Int) node = some (belowI (s : Int) node) := by
  unfold tree_Below.f; rw [if_pos ⟨by omega, by omega⟩]
theorem below_ev (s : Nat) (hs : s < 65536) (node : Int) : Ev (fun k => tree_Below.f k (s : Int) node) (belowI (s : Int) node) := ⟨0, fun k _ => below_f s hs node k⟩
theorem fresh_ev (a b : Nat) (ha : a < 65536) (hb : b < 65536) : Ev (fun k => tree_Fresh.f k (a : Int) (b : Int)) (freshI (a : Int) (b : Int)) := ⟨0, fun k _ => by unfold tree_Fresh.f; rw [if_pos ⟨⟨by omega, by omega⟩, ⟨by omega, by omega⟩⟩]⟩
theorem wrap_near (x : Int) (h0 : -1000 ≤ x) (h1 : x ≤ 1000) : wrap64 x = x := by unfold wrap64; omega
/-- The steps of one new key, and of all. -/
def kid (is n c : Int) : List (Int × Int) := if belowI is c = 0 then [] else [(n, c)]
def kidsL (is n : Int) : List (Int × Int) := kid is n (2 * n) ++ kid is n (2 * n + 1)
def pairsL (is : Int) (l : List Int) : List (Int × Int) := l.flatMap (kidsL is)
def m38 (p : Int × Int) : S61 := ⟨p.1, p.2⟩
def m37 (p : Int × Int) : S71 := ⟨p.1, p.2⟩
theorem kid_len (is n c : Int) : (kid is n c).length ≤ 1 := by unfold kid; split <;> simp
theorem kids_len (is n : Int) : (kidsL is n).length ≤ 2 := by
  have := kid_len is n (2 * n); have := kid_len is n (2 * n + 1)
  unfold kidsL; rw [List.length_append]; omega
theorem pairs_len (is : Int) (l : List Int) : (pairsL is l).length ≤ l.length * 2 := flat_len _ 2 (kids_len is) l

/-! ### The program -/
theorem tsteps_kid (s : Nat) (hs : s < 65536) (acc : List S61) (ha : acc.length < 1000) (n : Int) (h1 : 1 ≤ n) (h2 : n ≤ 15) (L : List Int) (len i : Int) (c : Nat) (hc : c < 2) {r : List S61}
    (h : Ev (fun k => tree_Steps.l1 k (s : Int) (acc ++ (kid (s : Int) n (2 * n + c)).map m38) n L len i ((c + 1 : Nat) : Int)) r) :
    Ev (fun k => tree_Steps.l1 k (s : Int) acc n L len i (c : Int)) r := by
  have w1 : wrap64 (wrap64 (2 * n) + (c : Int)) = 2 * n + c := by rw [wrap_near (2 * n) (by omega) (by omega), wrap_near _ (by omega) (by omega)]
  have w2 : wrap64 ((c : Int) + 1) = ((c + 1 : Nat) : Int) := by rw [wrap_near _ (by omega) (by omega)]; omega
  have g1 : (c : Int) < 2 := by omega
  have g2 : acc.length < 8796093022208 := by omega
  refine Ev.step (f := fun k => (tree_Below.f k (s : Int) (2 * n + c)).bind fun t136 => (if t136 = 0 then (tree_Steps.l1 k (s : Int) acc n L len i ((c + 1 : Nat) : Int)) else (tree_Steps.l1 k (s : Int) (acc ++ [(⟨n, 2 * n + c⟩ : S61)]) n L len i ((c + 1 : Nat) : Int)))) (fun k => ?_) ?_
  · simp only [tree_Steps.l1]
    rw [if_pos g1, w1, w2]
    simp only [if_pos g2]
  · refine Ev.bind (below_ev s hs _) ?_
    by_cases hz : belowI (s : Int) (2 * n + c) = 0
    · simp only [if_pos hz]
      have : kid (s : Int) n (2 * n + c) = [] := by unfold kid; rw [if_pos hz]
      rw [this, List.map_nil, List.append_nil] at h
      exact h
    · simp only [if_neg hz]
      have : kid (s : Int) n (2 * n + c) = [(n, 2 * n + c)] := by unfold kid; rw [if_neg hz]
      rw [this] at h
      exact h
theorem tsteps_l (s : Nat) (hs : s < 65536) (L : List Int) (hL : ∀ n ∈ L, 1 ≤ n ∧ n ≤ 15) (hl : L.length ≤ 15) : ∀ (d i : Nat), L.length - i = d → ∀ acc : List S61, acc.length ≤ 2 * i →
    Ev (fun k => tree_Steps.l0 k (s : Int) acc L (L.length : Int) (i : Int)) (acc ++ (pairsL (s : Int) (L.drop i)).map m38) := by
  intro d
  induction d with
  | zero =>
    intro i hi acc ha
    have g1 : ¬ (i : Int) < (L.length : Int) := by omega
    rw [List.drop_of_length_le (by omega)]
    refine Ev.step (f := fun _ => some acc) (fun k => by simp only [tree_Steps.l0]; rw [if_neg g1]) ?_
    unfold pairsL
    rw [List.flatMap_nil, List.map_nil, List.append_nil]
    exact Ev.now _
  | succ d ih =>
    intro i hi acc ha
    have hil : i < L.length := by omega
    have g1 : (i : Int) < (L.length : Int) := by omega
    have g0 : (0 : Int) ≤ (i : Int) := by omega
    have hr : rd L (i : Int) = L[i] := by simp [rd, hil]
    obtain ⟨b1, b2⟩ := hL L[i] (List.getElem_mem _)
    have hd : L.drop i = L[i] :: L.drop (i + 1) := List.drop_eq_getElem_cons hil
    have hw : wrap64 ((i : Int) + 1) = ((i + 1 : Nat) : Int) := by rw [wrap_near _ (by omega) (by omega)]; omega
    have hk1 := kid_len (s : Int) L[i] (2 * L[i] + ((0 : Nat) : Int))
    have hk2 := kid_len (s : Int) L[i] (2 * L[i] + ((1 : Nat) : Int))
    refine Ev.step (f := fun k => tree_Steps.l1 k (s : Int) acc L[i] L (L.length : Int) (i : Int) ((0 : Nat) : Int)) (fun k => ?_) ?_
    · simp only [tree_Steps.l0]
      rw [if_pos g1, if_pos g0, if_pos g1, hr]
      rfl
    · have hin := ih (i + 1) (by omega) (acc ++ (kid (s : Int) L[i] (2 * L[i] + ((0 : Nat) : Int))).map m38 ++ (kid (s : Int) L[i] (2 * L[i] + ((1 : Nat) : Int))).map m38) (by simp only [List.length_append, List.length_map]; omega)
      refine tsteps_kid s hs acc (by omega) L[i] b1 b2 L _ _ 0 (by omega) ?_
      refine tsteps_kid s hs _ (by rw [List.length_append, List.length_map]; omega) L[i] b1 b2 L _ _ 1 (by omega) ?_
      refine Ev.step (f := fun k => tree_Steps.l0 k (s : Int) (acc ++ (kid (s : Int) L[i] (2 * L[i] + ((0 : Nat) : Int))).map m38 ++ (kid (s : Int) L[i] (2 * L[i] + ((1 : Nat) : Int))).map m38) L (L.length : Int) ((i + 1 : Nat) : Int)) (fun k => ?_) ?_
      · simp only [tree_Steps.l1]
        rw [if_neg (show ¬ ((1 + 1 : Nat) : Int) < 2 by decide), hw]
      · rw [hd]
        have e : pairsL (s : Int) (L[i] :: L.drop (i + 1)) = kid (s : Int) L[i] (2 * L[i] + ((0 : Nat) : Int)) ++ kid (s : Int) L[i] (2 * L[i] + ((1 : Nat) : Int)) ++ pairsL (s : Int) (L.drop (i + 1)) := by
          unfold pairsL
          rw [List.flatMap_cons]
          unfold kidsL
          rw [show 2 * L[i] + ((0 : Nat) : Int) = 2 * L[i] by omega, show ((1 : Nat) : Int) = 1 from rfl]
        rw [e, List.map_append, List.map_append, ← List.append_assoc, ← List.append_assoc]
        exact hin
theorem fresh_range (a b : Int) : ∀ n ∈ freshI a b, 1 ≤ n ∧ n ≤ 15 := by
  intro n hn
  unfold freshI at hn
  obtain ⟨m, hm, rfl⟩ := List.mem_map.1 hn
  have := (mem_down m).1 (List.mem_filter.1 hm).1
  omega
theorem fresh_len (a b : Int) : (freshI a b).length ≤ 15 := by
  unfold freshI
  rw [List.length_map]
  exact List.length_filter_le _ _
theorem tsteps_f (a s : Nat) (ha : a < 65536) (hs : s < 65536) : Ev (fun k => tree_Steps.f k (a : Int) (s : Int)) ((pairsL (s : Int) (freshI (a : Int) (s : Int))).map m38) := by
  unfold tree_Steps.f
  refine Ev.bind (fresh_ev a s ha hs) ?_
  have h := tsteps_l s hs _ (fresh_range (a : Int) (s : Int)) (fresh_len _ _) _ 0 rfl [] (Nat.le_refl _)
  rw [List.nil_append, List.drop_zero] at h
  exact h

/-! ### The reference -/
theorem xor_zero {a b : Nat} : a ^^^ b = 0 ↔ a = b := by
  constructor
  · intro h
    have : (a ^^^ b) ^^^ b = b := by rw [h, Nat.zero_xor]
    rwa [Nat.xor_assoc, Nat.xor_self, Nat.xor_zero] at this
  · rintro rfl; exact Nat.xor_self _
def downN : Nat → List Nat
  | 0 => []
  | n + 1 => (n + 1) :: downN n
theorem rfresh_l (a s : Nat) (ha : a < 65536) (hs : s < 65536) : ∀ (n : Nat), n ≤ 15 → ∀ acc : List Int, acc.length + n ≤ 100 →
    Ev (fun k => chantryref14_Fresh.l0 k (a : Int) (s : Int) acc (n : Int)) (acc ++ ((downN n).filter (freshB a s)).map (fun n : Nat => (n : Int))) := by
  intro n
  induction n with
  | zero =>
    intro _ acc _
    refine Ev.step (f := fun _ => some acc) (fun k => by simp only [chantryref14_Fresh.l0]; rw [if_neg (show ¬ ((0 : Nat) : Int) ≥ 1 by decide)]) ?_
    unfold downN
    rw [List.filter_nil, List.map_nil, List.append_nil]
    exact Ev.now _
  | succ n ih =>
    intro hn acc hacc
    have g1 : ((n + 1 : Nat) : Int) ≥ 1 := by omega
    have g2 : acc.length < 17592186044416 := by omega
    have hw : wrap64 (((n + 1 : Nat) : Int) - 1) = (n : Int) := by rw [wrap_near _ (by omega) (by omega)]; omega
    have e1 := belowI_nat a (n + 1) (by omega) (by omega)
    have e2 := belowI_nat s (n + 1) (by omega) (by omega)
    have hx : (belowI (a : Int) ((n + 1 : Nat) : Int) = belowI (s : Int) ((n + 1 : Nat) : Int)) ↔ (a ^^^ s) &&& maskN (n + 1) = 0 := by
      rw [e1, e2, Nat.and_xor_distrib_right, xor_zero]
      omega
    have hy : (belowI (s : Int) ((n + 1 : Nat) : Int) = 0) ↔ s &&& maskN (n + 1) = 0 := by rw [e2]; omega
    refine Ev.step (f := fun k => (chantryref14_Below.f k (a : Int) ((n + 1 : Nat) : Int)).bind fun t186 => ((chantryref14_Below.f k (s : Int) ((n + 1 : Nat) : Int)).bind fun t187 => (if t186 = t187 then (chantryref14_Fresh.l0 k (a : Int) (s : Int) acc (n : Int)) else ((chantryref14_Below.f k (s : Int) ((n + 1 : Nat) : Int)).bind fun t188 => (if t188 = 0 then (chantryref14_Fresh.l0 k (a : Int) (s : Int) acc (n : Int)) else (chantryref14_Fresh.l0 k (a : Int) (s : Int) (acc ++ [((n + 1 : Nat) : Int)]) (n : Int))))))) (fun k => ?_) ?_
    · simp only [chantryref14_Fresh.l0]
      rw [if_pos g1, hw]
      simp only [if_pos g2]
    · refine Ev.bind (rbelow_f a ha _) (Ev.bind (rbelow_f s hs _) ?_)
      have hi := ih (by omega)
      have hf : (downN (n + 1)).filter (freshB a s) = (if freshB a s (n + 1) = true then [n + 1] else []) ++ (downN n).filter (freshB a s) := by
        show (((n + 1) :: downN n).filter (freshB a s)) = _
        rw [List.filter_cons]
        split <;> rfl
      rw [hf]
      by_cases c1 : (a ^^^ s) &&& maskN (n + 1) = 0
      · simp only [if_pos (hx.2 c1)]
        have : freshB a s (n + 1) = false := by unfold freshB; rw [c1]; rfl
        rw [this, if_neg (by simp), List.nil_append]
        exact hi acc (by omega)
      · simp only [if_neg (fun h => c1 (hx.1 h))]
        refine Ev.bind (rbelow_f s hs _) ?_
        by_cases c2 : s &&& maskN (n + 1) = 0
        · simp only [if_pos (hy.2 c2)]
          have : freshB a s (n + 1) = false := by unfold freshB; rw [c2]; simp
          rw [this, if_neg (by simp), List.nil_append]
          exact hi acc (by omega)
        · simp only [if_neg (fun h => c2 (hy.1 h))]
          have : freshB a s (n + 1) = true := by unfold freshB; simp [c1, c2]
          rw [this, if_pos rfl]
          have h3 := hi (acc ++ [((n + 1 : Nat) : Int)]) (by rw [List.length_append]; simp; omega)
          rw [List.append_assoc] at h3
          exact h3
theorem rfresh_f (a s : Nat) (ha : a < 65536) (hs : s < 65536) : Ev (fun k => chantryref14_Fresh.f k (a : Int) (s : Int)) (freshI (a : Int) (s : Int)) := by
  have h := rfresh_l a s ha hs 15 (Nat.le_refl _) [] (by decide)
  rw [List.nil_append] at h
  unfold freshI
  rw [Int.toNat_natCast, Int.toNat_natCast]
  exact h
theorem rsteps_kid (s : Nat) (hs : s < 65536) (acc : List S71) (ha : acc.length < 1000) (L : List Int) (i : Nat) (hil : i < L.length) (n : Int) (hr : rd L (i : Int) = n) (h1 : 1 ≤ n) (h2 : n ≤ 15) (c : Nat) (hc : c < 2) {r : List S71}
    (h : Ev (fun k => chantryref14_Steps.l1 k (s : Int) (acc ++ (kid (s : Int) n (2 * n + c)).map m37) L (i : Int) (2 * n + ((c + 1 : Nat) : Int))) r) :
    Ev (fun k => chantryref14_Steps.l1 k (s : Int) acc L (i : Int) (2 * n + (c : Int))) r := by
  have w1 : wrap64 (wrap64 (2 * n) + 1) = 2 * n + 1 := by rw [wrap_near (2 * n) (by omega) (by omega), wrap_near _ (by omega) (by omega)]
  have w2 : wrap64 ((2 * n + (c : Int)) + 1) = 2 * n + ((c + 1 : Nat) : Int) := by rw [wrap_near _ (by omega) (by omega)]; omega
  have g0 : (0 : Int) ≤ (i : Int) := by omega
  have g1 : (i : Int) < (L.length : Int) := by omega
  have g3 : 2 * n + (c : Int) ≤ 2 * n + 1 := by omega
  have g2 : acc.length < 8796093022208 := by omega
  refine Ev.step (f := fun k => (chantryref14_Below.f k (s : Int) (2 * n + c)).bind fun t136 => (if t136 = 0 then (chantryref14_Steps.l1 k (s : Int) acc L (i : Int) (2 * n + ((c + 1 : Nat) : Int))) else (chantryref14_Steps.l1 k (s : Int) (acc ++ [(⟨n, 2 * n + c⟩ : S71)]) L (i : Int) (2 * n + ((c + 1 : Nat) : Int))))) (fun k => ?_) ?_
  · simp only [chantryref14_Steps.l1]
    rw [if_pos g0, if_pos g1, hr, w1, if_pos g3, w2]
    simp only [if_pos g2]
  · refine Ev.bind (rbelow_f s hs _) ?_
    by_cases hz : belowI (s : Int) (2 * n + c) = 0
    · simp only [if_pos hz]
      have : kid (s : Int) n (2 * n + c) = [] := by unfold kid; rw [if_pos hz]
      rw [this, List.map_nil, List.append_nil] at h
      exact h
    · simp only [if_neg hz]
      have : kid (s : Int) n (2 * n + c) = [(n, 2 * n + c)] := by unfold kid; rw [if_neg hz]
      rw [this] at h
      exact h
theorem rsteps_l (s : Nat) (hs : s < 65536) (L : List Int) (hL : ∀ n ∈ L, 1 ≤ n ∧ n ≤ 15) (hl : L.length ≤ 15) : ∀ (d i : Nat), L.length - i = d → ∀ acc : List S71, acc.length ≤ 2 * i →
    Ev (fun k => chantryref14_Steps.l0 k (s : Int) acc L (i : Int)) (acc ++ (pairsL (s : Int) (L.drop i)).map m37) := by
  intro d
  induction d with
  | zero =>
    intro i hi acc ha
    have g1 : ¬ (i : Int) < (L.length : Int) := by omega
    rw [List.drop_of_length_le (by omega)]
    refine Ev.step (f := fun _ => some acc) (fun k => by simp only [chantryref14_Steps.l0]; rw [if_neg g1]) ?_
    unfold pairsL
    rw [List.flatMap_nil, List.map_nil, List.append_nil]
    exact Ev.now _
  | succ d ih =>
    intro i hi acc ha
    have hil : i < L.length := by omega
    have g1 : (i : Int) < (L.length : Int) := by omega
    have g0 : (0 : Int) ≤ (i : Int) := by omega
    have hr : rd L (i : Int) = L[i] := by simp [rd, hil]
    obtain ⟨b1, b2⟩ := hL L[i] (List.getElem_mem _)
    have hd : L.drop i = L[i] :: L.drop (i + 1) := List.drop_eq_getElem_cons hil
    have hw : wrap64 ((i : Int) + 1) = ((i + 1 : Nat) : Int) := by rw [wrap_near _ (by omega) (by omega)]; omega
    have hk1 := kid_len (s : Int) L[i] (2 * L[i] + ((0 : Nat) : Int))
    have hk2 := kid_len (s : Int) L[i] (2 * L[i] + ((1 : Nat) : Int))
    have hw0 : wrap64 (2 * L[i]) = 2 * L[i] + ((0 : Nat) : Int) := by rw [wrap_near _ (by omega) (by omega)]; omega
    refine Ev.step (f := fun k => chantryref14_Steps.l1 k (s : Int) acc L (i : Int) (2 * L[i] + ((0 : Nat) : Int))) (fun k => ?_) ?_
    · simp only [chantryref14_Steps.l0]
      rw [if_pos g1, if_pos g0, hr, hw0]
    · have hin := ih (i + 1) (by omega) (acc ++ (kid (s : Int) L[i] (2 * L[i] + ((0 : Nat) : Int))).map m37 ++ (kid (s : Int) L[i] (2 * L[i] + ((1 : Nat) : Int))).map m37) (by simp only [List.length_append, List.length_map]; omega)
      refine rsteps_kid s hs acc (by omega) L i hil L[i] hr b1 b2 0 (by omega) ?_
      refine rsteps_kid s hs _ (by rw [List.length_append, List.length_map]; omega) L i hil L[i] hr b1 b2 1 (by omega) ?_
      refine Ev.step (f := fun k => chantryref14_Steps.l0 k (s : Int) (acc ++ (kid (s : Int) L[i] (2 * L[i] + ((0 : Nat) : Int))).map m37 ++ (kid (s : Int) L[i] (2 * L[i] + ((1 : Nat) : Int))).map m37) L ((i + 1 : Nat) : Int)) (fun k => ?_) ?_
      · have w1 : wrap64 (wrap64 (2 * L[i]) + 1) = 2 * L[i] + 1 := by rw [wrap_near (2 * L[i]) (by omega) (by omega), wrap_near _ (by omega) (by omega)]
        have g4 : ¬ 2 * L[i] + ((1 + 1 : Nat) : Int) ≤ 2 * L[i] + 1 := by omega
        simp only [chantryref14_Steps.l1]
        rw [if_pos g0, if_pos g1, hr, w1, if_neg g4, hw]
      · rw [hd]
        have e : pairsL (s : Int) (L[i] :: L.drop (i + 1)) = kid (s : Int) L[i] (2 * L[i] + ((0 : Nat) : Int)) ++ kid (s : Int) L[i] (2 * L[i] + ((1 : Nat) : Int)) ++ pairsL (s : Int) (L.drop (i + 1)) := by
          unfold pairsL
          rw [List.flatMap_cons]
          unfold kidsL
          rw [show 2 * L[i] + ((0 : Nat) : Int) = 2 * L[i] by omega, show ((1 : Nat) : Int) = 1 from rfl]
        rw [e, List.map_append, List.map_append, ← List.append_assoc, ← List.append_assoc]
        exact hin
theorem rsteps_f (a s : Nat) (ha : a < 65536) (hs : s < 65536) : Ev (fun k => chantryref14_Steps.f k (a : Int) (s : Int)) ((pairsL (s : Int) (freshI (a : Int) (s : Int))).map m37) := by
  unfold chantryref14_Steps.f
  refine Ev.bind (rfresh_f a s ha hs) ?_
  have h := rsteps_l s hs _ (fresh_range (a : Int) (s : Int)) (fresh_len _ _) _ 0 rfl [] (Nat.le_refl _)
  rw [List.nil_append, List.drop_zero] at h
  exact h

/-! ### The law -/
end Go.Proofs.YtecimagjeelgbaaDoor.Pr
