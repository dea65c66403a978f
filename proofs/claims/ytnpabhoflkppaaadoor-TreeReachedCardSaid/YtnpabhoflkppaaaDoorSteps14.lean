/- TreeSteps: the plain law: both tell the same steps. -/
import Derived.Test.YtnpabhoflkppaaaDoorPaths14
import Derived.Test.YtnpabhoflkppaaaDoorPrxSteps
set_option linter.unusedVariables false
set_option linter.unusedSimpArgs false
namespace Go.Proofs.YtnpabhoflkppaaaDoor.Pr
open Go.RowKit Go.Proofs.YtnpabhoflkppaaaDoorW.PrintWords Go.Proofs.YtnpabhoflkppaaaDoorW.PrintMore

theorem wrap_near (x : Int) (h0 : -1000 ≤ x) (h1 : x ≤ 1000) : wrap64 x = x := by unfold wrap64; omega
/-- The steps of one new key, and of all. -/
def kid (is n c : Int) : List (Int × Int) := if belowI is c = 0 then [] else [(n, c)]
def kidsL (is n : Int) : List (Int × Int) := kid is n (2 * n) ++ kid is n (2 * n + 1)
def pairsL (is : Int) (l : List Int) : List (Int × Int) := l.flatMap (kidsL is)
def m38 (p : Int × Int) : S38 := ⟨p.1, p.2⟩
def m37 (p : Int × Int) : S37 := ⟨p.1, p.2⟩
theorem kid_len (is n c : Int) : (kid is n c).length ≤ 1 := by unfold kid; split <;> simp
theorem kids_len (is n : Int) : (kidsL is n).length ≤ 2 := by
  have := kid_len is n (2 * n); have := kid_len is n (2 * n + 1)
  unfold kidsL; rw [List.length_append]; omega
theorem pairs_len (is : Int) (l : List Int) : (pairsL is l).length ≤ l.length * 2 := flat_len _ 2 (kids_len is) l

/-! ### The program -/
theorem tsteps_kid (s : Nat) (hs : s < 65536) (acc : List S38) (ha : acc.length < 1000) (n : Int) (h1 : 1 ≤ n) (h2 : n ≤ 15) (L : List Int) (len i : Int) (c : Nat) (hc : c < 2) {r : List S38}
    (h : Ev (fun k => tree_Steps.l1 k (s : Int) (acc ++ (kid (s : Int) n (2 * n + c)).map m38) n L len i ((c + 1 : Nat) : Int)) r) :
    Ev (fun k => tree_Steps.l1 k (s : Int) acc n L len i (c : Int)) r := by
  have w1 : wrap64 (wrap64 (2 * n) + (c : Int)) = 2 * n + c := by rw [wrap_near (2 * n) (by omega) (by omega), wrap_near _ (by omega) (by omega)]
  have w2 : wrap64 ((c : Int) + 1) = ((c + 1 : Nat) : Int) := by rw [wrap_near _ (by omega) (by omega)]; omega
  have g1 : (c : Int) < 2 := by omega
  have g2 : acc.length < 8796093022208 := by omega
  refine Ev.step (f := fun k => (tree_Below.f k (s : Int) (2 * n + c)).bind fun t136 => (if t136 = 0 then (tree_Steps.l1 k (s : Int) acc n L len i ((c + 1 : Nat) : Int)) else (tree_Steps.l1 k (s : Int) (acc ++ [(⟨n, 2 * n + c⟩ : S38)]) n L len i ((c + 1 : Nat) : Int)))) (fun k => ?_) ?_
  · simp only [tree_Steps.l1]
    rw [if_pos g1, w1, w2]
    simp only [if_pos g2]
  · refine Ev.bind (below_ev s hs _) ?_
    by_cases hz : belowI (s : Int) (2 * n + c) = 0
    · simp only [if_pos hz]
      have : kid (s : Int) n (2 * n + c) = [] := by unfold kid; rw [if_pos hz]
      rw [this, List.map_nil, List.append_nil] at h
      exact h
    · simp only [if_neg hz]
      have : kid (s : Int) n (2 * n + c) = [(n, 2 * n + c)] := by unfold kid; rw [if_neg hz]
      rw [this] at h
      exact h
theorem tsteps_l (s : Nat) (hs : s < 65536) (L : List Int) (hL : ∀ n ∈ L, 1 ≤ n ∧ n ≤ 15) (hl : L.length ≤ 15) : ∀ (d i : Nat), L.length - i = d → ∀ acc : List S38, acc.length ≤ 2 * i →
    Ev (fun k => tree_Steps.l0 k (s : Int) acc L (L.length : Int) (i : Int)) (acc ++ (pairsL (s : Int) (L.drop i)).map m38) := by
  intro d
  induction d with
  | zero =>
    intro i hi acc ha
    have g1 : ¬ (i : Int) < (L.length : Int) := by omega
    rw [List.drop_of_length_le (by omega)]
    refine Ev.step (f := fun _ => some acc) (fun k => by simp only [tree_Steps.l0]; rw [if_neg g1]) ?_
    unfold pairsL
    rw [List.flatMap_nil, List.map_nil, List.append_nil]
    exact Ev.now _
  | succ d ih =>
    intro i hi acc ha
    have hil : i < L.length := by omega
    have g1 : (i : Int) < (L.length : Int) := by omega
    have g0 : (0 : Int) ≤ (i : Int) := by omega
    have hr : rd L (i : Int) = L[i] := by simp [rd, hil]
    obtain ⟨b1, b2⟩ := hL L[i] (List.getElem_mem _)
    have hd : L.drop i = L[i] :: L.drop (i + 1) := List.drop_eq_getElem_cons hil
    have hw : wrap64 ((i : Int) + 1) = ((i + 1 : Nat) : Int) := by rw [wrap_near _ (by omega) (by omega)]; omega
    have hk1 := kid_len (s : Int) L[i] (2 * L[i] + ((0 : Nat) : Int))
    have hk2 := kid_len (s : Int) L[i] (2 * L[i] + ((1 : Nat) : Int))
    refine Ev.step (f := fun k => tree_Steps.l1 k (s : Int) acc L[i] L (L.length : Int) (i : Int) ((0 : Nat) : Int)) (fun k => ?_) ?_
    · simp only [tree_Steps.l0]
      rw [if_pos g1, if_pos g0, if_pos g1, hr]
      rfl
    · have hin := ih (i + 1) (by omega) (acc ++ (kid (s : Int) L[i] (2 * L[i] + ((0 : Nat) : Int))).map m38 ++ (kid (s : Int) L[i] (2 * L[i] + ((1 : Nat) : Int))).map m38) (by simp only [List.length_append, List.length_map]; omega)
      refine tsteps_kid s hs acc (by omega) L[i] b1 b2 L _ _ 0 (by omega) ?_
      refine tsteps_kid s hs _ (by rw [List.length_append, List.length_map]; omega) L[i] b1 b2 L _ _ 1 (by omega) ?_
      refine Ev.step (f := fun k => tree_Steps.l0 k (s : Int) (acc ++ (kid (s : Int) L[i] (2 * L[i] + ((0 : Nat) : Int))).map m38 ++ (kid (s : Int) L[i] (2 * L[i] + ((1 : Nat) : Int))).map m38) L (L.length : Int) ((i + 1 : Nat) : Int)) (fun k => ?_) ?_
      · simp only [tree_Steps.l1]
        rw [if_neg (show ¬ ((1 + 1 : Nat) : Int) < 2 by decide), hw]
      · rw [hd]
        have e : pairsL (s : Int) (L[i] :: L.drop (i + 1)) = kid (s : Int) L[i] (2 * L[i] + ((0 : Nat) : Int)) ++ kid (s : Int) L[i] (2 * L[i] + ((1 : Nat) : Int)) ++ pairsL (s : Int) (L.drop (i + 1)) := by
          unfold pairsL
          rw [List.flatMap_cons]
          unfold kidsL
          rw [show 2 * L[i] + ((0 : Nat) : Int) = 2 * L[i] by omega, show ((1 : Nat) : Int) = 1 from rfl]
        rw [e, List.map_append, List.map_append, ← List.append_assoc, ← List.append_assoc]
        exact hin
theorem fresh_range (a b : Int) : ∀ n ∈ freshI a b, 1 ≤ n ∧ n ≤ 15 := by
  intro n hn
  unfold freshI at hn
  obtain ⟨m, hm, rfl⟩ := List.mem_map.1 hn
  have := (mem_down m).1 (List.mem_filter.1 hm).1
  omega
theorem fresh_len (a b : Int) : (freshI a b).length ≤ 15 := by
  unfold freshI
  rw [List.length_map]
  exact List.length_filter_le _ _
theorem tsteps_f (a s : Nat) (ha : a < 65536) (hs : s < 65536) : Ev (fun k => tree_Steps.f k (a : Int) (s : Int)) ((pairsL (s : Int) (freshI (a : Int) (s : Int))).map m38) := by
  unfold tree_Steps.f
  refine Ev.bind (fresh_ev a s ha hs) ?_
  have h := tsteps_l s hs _ (fresh_range (a : Int) (s : Int)) (fresh_len _ _) _ 0 rfl [] (Nat.le_refl _)
  rw [List.nil_append, List.drop_zero] at h
  exact h

/-! ### The reference -/
theorem xor_zero {a b : Nat} : a ^^^ b = 0 ↔ a = b := by
  constructor
  · intro h
    have : (a ^^^ b) ^^^ b = b := by rw [h, Nat.zero_xor]
    rwa [Nat.xor_assoc, Nat.xor_self, Nat.xor_zero] at this
  · rintro rfl; exact Nat.xor_self _
def downN : Nat → List Nat
  | 0 => []
  | n + 1 => (n + 1) :: downN n
theorem rfresh_l (a s : Nat) (ha : a < 65536) (hs : s < 65536) : ∀ (n : Nat), n ≤ 15 → ∀ acc : List Int, acc.length + n ≤ 100 →
    Ev (fun k => chantryref14_Fresh.l0 k (a : Int) (s : Int) acc (n : Int)) (acc ++ ((downN n).filter (freshB a s)).map (fun n : Nat => (n : Int))) := by
  intro n
  induction n with
  | zero =>
    intro _ acc _
    refine Ev.step (f := fun _ => some acc) (fun k => by simp only [chantryref14_Fresh.l0]; rw [if_neg (show ¬ ((0 : Nat) : Int) ≥ 1 by decide)]) ?_
    unfold downN
    rw [List.filter_nil, List.map_nil, List.append_nil]
    exact Ev.now _
  | succ n ih =>
    intro hn acc hacc
    have g1 : ((n + 1 : Nat) : Int) ≥ 1 := by omega
    have g2 : acc.length < 17592186044416 := by omega
    have hw : wrap64 (((n + 1 : Nat) : Int) - 1) = (n : Int) := by rw [wrap_near _ (by omega) (by omega)]; omega
    have e1 := belowI_nat a (n + 1) (by omega) (by omega)
    have e2 := belowI_nat s (n + 1) (by omega) (by omega)
    have hx : (belowI (a : Int) ((n + 1 : Nat) : Int) = belowI (s : Int) ((n + 1 : Nat) : Int)) ↔ (a ^^^ s) &&& maskN (n + 1) = 0 := by
      rw [e1, e2, Nat.and_xor_distrib_right, xor_zero]
      omega
    have hy : (belowI (s : Int) ((n + 1 : Nat) : Int) = 0) ↔ s &&& maskN (n + 1) = 0 := by rw [e2]; omega
    refine Ev.step (f := fun k => (chantryref14_Below.f k (a : Int) ((n + 1 : Nat) : Int)).bind fun t186 => ((chantryref14_Below.f k (s : Int) ((n + 1 : Nat) : Int)).bind fun t187 => (if t186 = t187 then (chantryref14_Fresh.l0 k (a : Int) (s : Int) acc (n : Int)) else ((chantryref14_Below.f k (s : Int) ((n + 1 : Nat) : Int)).bind fun t188 => (if t188 = 0 then (chantryref14_Fresh.l0 k (a : Int) (s : Int) acc (n : Int)) else (chantryref14_Fresh.l0 k (a : Int) (s : Int) (acc ++ [((n + 1 : Nat) : Int)]) (n : Int))))))) (fun k => ?_) ?_
    · simp only [chantryref14_Fresh.l0]
      rw [if_pos g1, hw]
      simp only [if_pos g2]
    · refine Ev.bind (rbelow_f a ha _) (Ev.bind (rbelow_f s hs _) ?_)
      have hi := ih (by omega)
      have hf : (downN (n + 1)).filter (freshB a s) = (if freshB a s (n + 1) = true then [n + 1] else []) ++ (downN n).filter (freshB a s) := by
        show (((n + 1) :: downN n).filter (freshB a s)) = _
        rw [List.filter_cons]
        split <;> rfl
      rw [hf]
      by_cases c1 : (a ^^^ s) &&& maskN (n + 1) = 0
      · simp only [if_pos (hx.2 c1)]
        have : freshB a s (n + 1) = false := by unfold freshB; rw [c1]; rfl
        rw [this, if_neg (by simp), List.nil_append]
        exact hi acc (by omega)
      · simp only [if_neg (fun h => c1 (hx.1 h))]
        refine Ev.bind (rbelow_f s hs _) ?_
        by_cases c2 : s &&& maskN (n + 1) = 0
        · simp only [if_pos (hy.2 c2)]
          have : freshB a s (n + 1) = false := by unfold freshB; rw [c2]; simp
          rw [this, if_neg (by simp), List.nil_append]
          exact hi acc (by omega)
        · simp only [if_neg (fun h => c2 (hy.1 h))]
          have : freshB a s (n + 1) = true := by unfold freshB; simp [c1, c2]
          rw [this, if_pos rfl]
          have h3 := hi (acc ++ [((n + 1 : Nat) : Int)]) (by rw [List.length_append]; simp; omega)
          rw [List.append_assoc] at h3
          exact h3
theorem rfresh_f (a s : Nat) (ha : a < 65536) (hs : s < 65536) : Ev (fun k => chantryref14_Fresh.f k (a : Int) (s : Int)) (freshI (a : Int) (s : Int)) := by
  have h := rfresh_l a s ha hs 15 (Nat.le_refl _) [] (by decide)
  rw [List.nil_append] at h
  unfold freshI
  rw [Int.toNat_natCast, Int.toNat_natCast]
  exact h
theorem rsteps_kid (s : Nat) (hs : s < 65536) (acc : List S37) (ha : acc.length < 1000) (L : List Int) (i : Nat) (hil : i < L.length) (n : Int) (hr : rd L (i : Int) = n) (h1 : 1 ≤ n) (h2 : n ≤ 15) (c : Nat) (hc : c < 2) {r : List S37}
    (h : Ev (fun k => chantryref14_Steps.l1 k (s : Int) (acc ++ (kid (s : Int) n (2 * n + c)).map m37) L (i : Int) (2 * n + ((c + 1 : Nat) : Int))) r) :
    Ev (fun k => chantryref14_Steps.l1 k (s : Int) acc L (i : Int) (2 * n + (c : Int))) r := by
  have w1 : wrap64 (wrap64 (2 * n) + 1) = 2 * n + 1 := by rw [wrap_near (2 * n) (by omega) (by omega), wrap_near _ (by omega) (by omega)]
  have w2 : wrap64 ((2 * n + (c : Int)) + 1) = 2 * n + ((c + 1 : Nat) : Int) := by rw [wrap_near _ (by omega) (by omega)]; omega
  have g0 : (0 : Int) ≤ (i : Int) := by omega
  have g1 : (i : Int) < (L.length : Int) := by omega
  have g3 : 2 * n + (c : Int) ≤ 2 * n + 1 := by omega
  have g2 : acc.length < 8796093022208 := by omega
  refine Ev.step (f := fun k => (chantryref14_Below.f k (s : Int) (2 * n + c)).bind fun t136 => (if t136 = 0 then (chantryref14_Steps.l1 k (s : Int) acc L (i : Int) (2 * n + ((c + 1 : Nat) : Int))) else (chantryref14_Steps.l1 k (s : Int) (acc ++ [(⟨n, 2 * n + c⟩ : S37)]) L (i : Int) (2 * n + ((c + 1 : Nat) : Int))))) (fun k => ?_) ?_
  · simp only [chantryref14_Steps.l1]
    rw [if_pos g0, if_pos g1, hr, w1, if_pos g3, w2]
    simp only [if_pos g2]
  · refine Ev.bind (rbelow_f s hs _) ?_
    by_cases hz : belowI (s : Int) (2 * n + c) = 0
    · simp only [if_pos hz]
      have : kid (s : Int) n (2 * n + c) = [] := by unfold kid; rw [if_pos hz]
      rw [this, List.map_nil, List.append_nil] at h
      exact h
    · simp only [if_neg hz]
      have : kid (s : Int) n (2 * n + c) = [(n, 2 * n + c)] := by unfold kid; rw [if_neg hz]
      rw [this] at h
      exact h
theorem rsteps_l (s : Nat) (hs : s < 65536) (L : List Int) (hL : ∀ n ∈ L, 1 ≤ n ∧ n ≤ 15) (hl : L.length ≤ 15) : ∀ (d i : Nat), L.length - i = d → ∀ acc : List S37, acc.length ≤ 2 * i →
    Ev (fun k => chantryref14_Steps.l0 k (s : Int) acc L (i : Int)) (acc ++ (pairsL (s : Int) (L.drop i)).map m37) := by
  intro d
  induction d with
  | zero =>
    intro i hi acc ha
    have g1 : ¬ (i : Int) < (L.length : Int) := by omega
    rw [List.drop_of_length_le (by omega)]
    refine Ev.step (f := fun _ => some acc) (fun k => by simp only [chantryref14_Steps.l0]; rw [if_neg g1]) ?_
    unfold pairsL
    rw [List.flatMap_nil, List.map_nil, List.append_nil]
    exact Ev.now _
  | succ d ih =>
    intro i hi acc ha
    have hil : i < L.length := by omega
    have g1 : (i : Int) < (L.length : Int) := by omega
    have g0 : (0 : Int) ≤ (i : Int) := by omega
    have hr : rd L (i : Int) = L[i] := by simp [rd, hil]
    obtain ⟨b1, b2⟩ := hL L[i] (List.getElem_mem _)
    have hd : L.drop i = L[i] :: L.drop (i + 1) := List.drop_eq_getElem_cons hil
    have hw : wrap64 ((i : Int) + 1) = ((i + 1 : Nat) : Int) := by rw [wrap_near _ (by omega) (by omega)]; omega
    have hk1 := kid_len (s : Int) L[i] (2 * L[i] + ((0 : Nat) : Int))
    have hk2 := kid_len (s : Int) L[i] (2 * L[i] + ((1 : Nat) : Int))
    have hw0 : wrap64 (2 * L[i]) = 2 * L[i] + ((0 : Nat) : Int) := by rw [wrap_near _ (by omega) (by omega)]; omega
    refine Ev.step (f := fun k => chantryref14_Steps.l1 k (s : Int) acc L (i : Int) (2 * L[i] + ((0 : Nat) : Int))) (fun k => ?_) ?_
    · simp only [chantryref14_Steps.l0]
      rw [if_pos g1, if_pos g0, hr, hw0]
    · have hin := ih (i + 1) (by omega) (acc ++ (kid (s : Int) L[i] (2 * L[i] + ((0 : Nat) : Int))).map m37 ++ (kid (s : Int) L[i] (2 * L[i] + ((1 : Nat) : Int))).map m37) (by simp only [List.length_append, List.length_map]; omega)
      refine rsteps_kid s hs acc (by omega) L i hil L[i] hr b1 b2 0 (by omega) ?_
      refine rsteps_kid s hs _ (by rw [List.length_append, List.length_map]; omega) L i hil L[i] hr b1 b2 1 (by omega) ?_
      refine Ev.step (f := fun k => chantryref14_Steps.l0 k (s : Int) (acc ++ (kid (s : Int) L[i] (2 * L[i] + ((0 : Nat) : Int))).map m37 ++ (kid (s : Int) L[i] (2 * L[i] + ((1 : Nat) : Int))).map m37) L ((i + 1 : Nat) : Int)) (fun k => ?_) ?_
      · have w1 : wrap64 (wrap64 (2 * L[i]) + 1) = 2 * L[i] + 1 := by rw [wrap_near (2 * L[i]) (by omega) (by omega), wrap_near _ (by omega) (by omega)]
        have g4 : ¬ 2 * L[i] + ((1 + 1 : Nat) : Int) ≤ 2 * L[i] + 1 := by omega
        simp only [chantryref14_Steps.l1]
        rw [if_pos g0, if_pos g1, hr, w1, if_neg g4, hw]
      · rw [hd]
        have e : pairsL (s : Int) (L[i] :: L.drop (i + 1)) = kid (s : Int) L[i] (2 * L[i] + ((0 : Nat) : Int)) ++ kid (s : Int) L[i] (2 * L[i] + ((1 : Nat) : Int)) ++ pairsL (s : Int) (L.drop (i + 1)) := by
          unfold pairsL
          rw [List.flatMap_cons]
          unfold kidsL
          rw [show 2 * L[i] + ((0 : Nat) : Int) = 2 * L[i] by omega, show ((1 : Nat) : Int) = 1 from rfl]
        rw [e, List.map_append, List.map_append, ← List.append_assoc, ← List.append_assoc]
        exact hin
theorem rsteps_f (a s : Nat) (ha : a < 65536) (hs : s < 65536) : Ev (fun k => chantryref14_Steps.f k (a : Int) (s : Int)) ((pairsL (s : Int) (freshI (a : Int) (s : Int))).map m37) := by
  unfold chantryref14_Steps.f
  refine Ev.bind (rfresh_f a s ha hs) ?_
  have h := rsteps_l s hs _ (fresh_range (a : Int) (s : Int)) (fresh_len _ _) _ 0 rfl [] (Nat.le_refl _)
  rw [List.nil_append, List.drop_zero] at h
  exact h

/-! ### The law -/
theorem same_steps (P : List (Int × Int)) (hP : P.length ≤ 100) : ∀ (d i : Nat), P.length - i = d → Ev (fun k => chantrylaw14_TreeSteps.l0 k (P.map m38) (P.map m37) (P.length : Int) (i : Int)) true := by
  intro d
  induction d with
  | zero =>
    intro i hi
    have g1 : ¬ (i : Int) < (P.length : Int) := by omega
    exact Ev.step (f := fun _ => some true) (fun k => by simp only [chantrylaw14_TreeSteps.l0]; rw [if_neg g1]) (Ev.now _)
  | succ d ih =>
    intro i hi
    have hil : i < P.length := by omega
    have g0 : (0 : Int) ≤ (i : Int) := by omega
    have g1 : (i : Int) < (P.length : Int) := by omega
    have g2 : (i : Int) < ((P.map m38).length : Int) := by rw [List.length_map]; omega
    have g3 : (i : Int) < ((P.map m37).length : Int) := by rw [List.length_map]; omega
    have hw : wrap64 ((i : Int) + 1) = ((i + 1 : Nat) : Int) := by rw [wrap_near _ (by omega) (by omega)]; omega
    have r1 : rd_T38 (P.map m38) (i : Int) = m38 P[i] := by unfold rd_T38; simp [hil]
    have r2 : rd_T37 (P.map m37) (i : Int) = m37 P[i] := by unfold rd_T37; simp [hil]
    refine Ev.step (f := fun k => chantrylaw14_TreeSteps.l0 k (P.map m38) (P.map m37) (P.length : Int) ((i + 1 : Nat) : Int)) (fun k => ?_) (ih (i + 1) (by omega))
    simp only [chantrylaw14_TreeSteps.l0]
    rw [if_pos g1, if_pos g0, if_pos g2, if_pos g3, r1, r2, if_neg (by simp [m38, m37]), hw]
theorem TreeSteps : chantrylaw14_TreeSteps.Pure := by
  intro a0 a1 h0 h1
  obtain ⟨a, rfl, ha⟩ := wf16 h0
  obtain ⟨s, rfl, hs⟩ := wf16 h1
  refine Ev.rounds (?_ : Ev (fun k => chantrylaw14_TreeSteps.f k (a : Int) (s : Int)) true)
  unfold chantrylaw14_TreeSteps.f
  refine Ev.bind alive_ev ?_
  simp only [if_true]
  refine Ev.bind (tsteps_f a s ha hs) (Ev.bind (rsteps_f a s ha hs) ?_)
  simp only [List.length_map, if_true]
  refine Ev.bind (fresh_ev a s ha hs) (Ev.bind (rfresh_f a s ha hs) (Ev.bind (same_f _ (by have := fresh_len (a : Int) (s : Int); omega)) ?_))
  have hp := pairs_len (s : Int) (freshI (a : Int) (s : Int))
  have hf := fresh_len (a : Int) (s : Int)
  have h := same_steps (pairsL (s : Int) (freshI (a : Int) (s : Int))) (by omega) _ 0 rfl
  refine Ev.step (f := fun k => chantrylaw14_TreeSteps.l0 k ((pairsL (s : Int) (freshI (a : Int) (s : Int))).map m38) ((pairsL (s : Int) (freshI (a : Int) (s : Int))).map m37) ((pairsL (s : Int) (freshI (a : Int) (s : Int))).length : Int) ((0 : Nat) : Int)) (fun k => ?_) h
  simp only [chantrylaw14_TreeSteps.j0, Bool.not_true, List.length_map]
  rw [if_neg (by simp)]
  rfl
end Go.Proofs.YtnpabhoflkppaaaDoor.Pr
