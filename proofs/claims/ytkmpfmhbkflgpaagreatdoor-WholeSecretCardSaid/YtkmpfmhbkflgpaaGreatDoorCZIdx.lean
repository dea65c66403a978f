import Derived.Test.YtkmpfmhbkflgpaaGreatDoorCZFresh
import Derived.Test.YtkmpfmhbkflgpaaGreatDoorCPrx0
import Derived.Test.YtkmpfmhbkflgpaaGreatDoorCPrxV
import Derived.Test.YtkmpfmhbkflgpaaGreatDoorCPrxS
import Derived.Test.YtkmpfmhbkflgpaaGreatDoorCFin
import Derived.Test.YtkmpfmhbkflgpaaGreatDoorCParts
import Derived.Deep.MidRow
import Derived.Deep.WholeRow
import Derived.Laws.ResultCell
import Derived.Test.YtkmpfmhbkflgpaaGreatDoorCPrxT
import Derived.Lib.Hide
import Derived.Test.YtkmpfmhbkflgpaaGreatDoorCPrxK
import Derived.Test.YtkmpfmhbkflgpaaGreatDoorCPrxI
/- The reference's functions on trees, in closed form. -/
set_option linter.unusedVariables false
set_option linter.unusedSimpArgs false
namespace Go.Proofs.YtkmpfmhbkflgpaaGreatDoor.Pr
open Go.RowKit Go.Proofs.YtkmpfmhbkflgpaaGreatDoorW.PrintWords

theorem value_f (id : Nat) (h : id < 16) : Ev (fun k => chantryref05_value.f k (id : Int)) ((2 ^ id : Nat) : Int) := by
  have hid : id = 0 ∨ id = 1 ∨ id = 2 ∨ id = 3 ∨ id = 4 ∨ id = 5 ∨ id = 6 ∨ id = 7 ∨ id = 8 ∨ id = 9 ∨ id = 10 ∨ id = 11 ∨ id = 12 ∨ id = 13 ∨ id = 14 ∨ id = 15 := by omega
  rcases hid with rfl | rfl | rfl | rfl | rfl | rfl | rfl | rfl | rfl | rfl | rfl | rfl | rfl | rfl | rfl | rfl <;> exact Ev.of (fun k => chantryref05_value.mono _ k) (k := 17) (by kernel_rfl)
def hasB (s id : Nat) : Bool := decide (id < 16) && bit s id
theorem wrap16 (n : Nat) (h : n < 65536) : IntKind.u16.wrap (n : Int) = (n : Int) := by simp only [IntKind.wrap, IntKind.bits, IntKind.signed]; simp; omega
theorem has_f (s id : Nat) (hs : s < 65536) (h : id ≤ 255) : Ev (fun k => chantryref05_Has.f k (s : Int) (id : Int)) (hasB s id) := by
  unfold hasB
  by_cases hi : id < 16
  · rw [decide_eq_true hi, Bool.true_and]
    refine Ev.congr (f := fun k => (chantryref05_value.f k (id : Int)).bind fun t164 => (if t164 = 0 then (none) else (some ((Int.tmod (IntKind.u16.wrap (Int.tdiv (s : Int) t164)) 2) == 1)))) (fun k => by unfold chantryref05_Has.f; rw [if_pos (by omega)]) ?_
    refine Ev.bind (value_f id hi) ?_
    have hp := Nat.two_pow_pos id
    refine Ev.congr (f := fun _ => some (bit s id)) (fun k => ?_) (Ev.now _)
    rw [if_neg (by omega), Int.tdiv_eq_ediv_of_nonneg (by omega), ← Int.natCast_ediv, wrap16 _ (Nat.lt_of_le_of_lt (Nat.div_le_self _ _) hs), Int.tmod_eq_emod_of_nonneg (Int.natCast_nonneg _)]
    unfold bit
    congr 1
    rw [Bool.eq_iff_iff]
    simp only [beq_iff_eq]
    omega
  · rw [decide_eq_false hi, Bool.false_and]
    exact Ev.congr (f := fun _ => some false) (fun k => by unfold chantryref05_Has.f; rw [if_neg (by omega)]) (Ev.now _)
end Go.Proofs.YtkmpfmhbkflgpaaGreatDoor.Pr

/- The steps, the program's and the reference's (the beginning of XSteps14, without its law). -/
set_option linter.unusedVariables false
set_option linter.unusedSimpArgs false
namespace Go.Proofs.YtkmpfmhbkflgpaaGreatDoor.Pr
open Go.RowKit Go.Proofs.YtkmpfmhbkflgpaaGreatDoorW.PrintWords Go.Proofs.YtkmpfmhbkflgpaaGreatDoorW.PrintMore

theorem below_f (s : Nat) (hs : s < 65536) (node : Int) (k : Nat) : tree_Below.f k (s : Int) node = some (belowI (s : Int) node) := by
  unfold tree_Below.f; rw [if_pos ⟨by omega, by omega⟩]
theorem below_ev (s : Nat) (hs : s < 65536) (node : Int) : Ev (fun k => tree_Below.f k (s : Int) node) (belowI (s : Int) node) := ⟨0, fun k _ => below_f s hs node k⟩
theorem fresh_ev (a b : Nat) (ha : a < 65536) (hb : b < 65536) : Ev (fun k => tree_Fresh.f k (a : Int) (b : Int)) (freshI (a : Int) (b : Int)) := ⟨0, fun k _ => by unfold tree_Fresh.f; rw [if_pos ⟨⟨by omega, by omega⟩, ⟨by omega, by omega⟩⟩]⟩
theorem wrap_near (x : Int) (h0 : -1000 ≤ x) (h1 : x ≤ 1000) : wrap64 x = x := by unfold wrap64; omega
/-- The steps of one new key, and of all. -/
def kid (is n c : Int) : List (Int × Int) := if belowI is c = 0 then [] else [(n, c)]
def kidsL (is n : Int) : List (Int × Int) := kid is n (2 * n) ++ kid is n (2 * n + 1)
def pairsL (is : Int) (l : List Int) : List (Int × Int) := l.flatMap (kidsL is)
def m38 (p : Int × Int) : S69 := ⟨p.1, p.2⟩
theorem kid_len (is n c : Int) : (kid is n c).length ≤ 1 := by unfold kid; split <;> simp
theorem kids_len (is n : Int) : (kidsL is n).length ≤ 2 := by
  have := kid_len is n (2 * n); have := kid_len is n (2 * n + 1)
  unfold kidsL; rw [List.length_append]; omega
theorem pairs_len (is : Int) (l : List Int) : (pairsL is l).length ≤ l.length * 2 := flat_len _ 2 (kids_len is) l

/-! ### The program -/
theorem tsteps_kid (s : Nat) (hs : s < 65536) (acc : List S69) (ha : acc.length < 1000) (n : Int) (h1 : 1 ≤ n) (h2 : n ≤ 15) (L : List Int) (len i : Int) (c : Nat) (hc : c < 2) {r : List S69}
    (h : Ev (fun k => tree_Steps.l1 k (s : Int) (acc ++ (kid (s : Int) n (2 * n + c)).map m38) n L len i ((c + 1 : Nat) : Int)) r) :
    Ev (fun k => tree_Steps.l1 k (s : Int) acc n L len i (c : Int)) r := by
  have w1 : wrap64 (wrap64 (2 * n) + (c : Int)) = 2 * n + c := by rw [wrap_near (2 * n) (by omega) (by omega), wrap_near _ (by omega) (by omega)]
  have w2 : wrap64 ((c : Int) + 1) = ((c + 1 : Nat) : Int) := by rw [wrap_near _ (by omega) (by omega)]; omega
  have g1 : (c : Int) < 2 := by omega
  have g2 : acc.length < 8796093022208 := by omega
  refine Ev.step (f := fun k => (tree_Below.f k (s : Int) (2 * n + c)).bind fun t136 => (if t136 = 0 then (tree_Steps.l1 k (s : Int) acc n L len i ((c + 1 : Nat) : Int)) else (tree_Steps.l1 k (s : Int) (acc ++ [(⟨n, 2 * n + c⟩ : S69)]) n L len i ((c + 1 : Nat) : Int)))) (fun k => ?_) ?_
  · simp only [tree_Steps.l1]
    rw [if_pos g1, w1, w2]
    simp only [if_pos g2]
  · refine Ev.bind (below_ev s hs _) ?_
    by_cases hz : belowI (s : Int) (2 * n + c) = 0
    · simp only [if_pos hz]
      have : kid (s : Int) n (2 * n + c) = [] := by unfold kid; rw [if_pos hz]
      rw [this, List.map_nil, List.append_nil] at h
      exact h
    · simp only [if_neg hz]
      have : kid (s : Int) n (2 * n + c) = [(n, 2 * n + c)] := by unfold kid; rw [if_neg hz]
      rw [this] at h
      exact h
theorem tsteps_l (s : Nat) (hs : s < 65536) (L : List Int) (hL : ∀ n ∈ L, 1 ≤ n ∧ n ≤ 15) (hl : L.length ≤ 15) : ∀ (d i : Nat), L.length - i = d → ∀ acc : List S69, acc.length ≤ 2 * i →
    Ev (fun k => tree_Steps.l0 k (s : Int) acc L (L.length : Int) (i : Int)) (acc ++ (pairsL (s : Int) (L.drop i)).map m38) := by
  intro d
  induction d with
  | zero =>
    intro i hi acc ha
    have g1 : ¬ (i : Int) < (L.length : Int) := by omega
    rw [List.drop_of_length_le (by omega)]
    refine Ev.step (f := fun _ => some acc) (fun k => by simp only [tree_Steps.l0]; rw [if_neg g1]) ?_
    unfold pairsL
    rw [List.flatMap_nil, List.map_nil, List.append_nil]
    exact Ev.now _
  | succ d ih =>
    intro i hi acc ha
    have hil : i < L.length := by omega
    have g1 : (i : Int) < (L.length : Int) := by omega
    have g0 : (0 : Int) ≤ (i : Int) := by omega
    have hr : rd L (i : Int) = L[i] := by simp [rd, hil]
    obtain ⟨b1, b2⟩ := hL L[i] (List.getElem_mem _)
    have hd : L.drop i = L[i] :: L.drop (i + 1) := List.drop_eq_getElem_cons hil
    have hw : wrap64 ((i : Int) + 1) = ((i + 1 : Nat) : Int) := by rw [wrap_near _ (by omega) (by omega)]; omega
    have hk1 := kid_len (s : Int) L[i] (2 * L[i] + ((0 : Nat) : Int))
    have hk2 := kid_len (s : Int) L[i] (2 * L[i] + ((1 : Nat) : Int))
    refine Ev.step (f := fun k => tree_Steps.l1 k (s : Int) acc L[i] L (L.length : Int) (i : Int) ((0 : Nat) : Int)) (fun k => ?_) ?_
    · simp only [tree_Steps.l0]
      rw [if_pos g1, if_pos g0, if_pos g1, hr]
      rfl
    · have hin := ih (i + 1) (by omega) (acc ++ (kid (s : Int) L[i] (2 * L[i] + ((0 : Nat) : Int))).map m38 ++ (kid (s : Int) L[i] (2 * L[i] + ((1 : Nat) : Int))).map m38) (by simp only [List.length_append, List.length_map]; omega)
      refine tsteps_kid s hs acc (by omega) L[i] b1 b2 L _ _ 0 (by omega) ?_
      refine tsteps_kid s hs _ (by rw [List.length_append, List.length_map]; omega) L[i] b1 b2 L _ _ 1 (by omega) ?_
      refine Ev.step (f := fun k => tree_Steps.l0 k (s : Int) (acc ++ (kid (s : Int) L[i] (2 * L[i] + ((0 : Nat) : Int))).map m38 ++ (kid (s : Int) L[i] (2 * L[i] + ((1 : Nat) : Int))).map m38) L (L.length : Int) ((i + 1 : Nat) : Int)) (fun k => ?_) ?_
      · simp only [tree_Steps.l1]
        rw [if_neg (show ¬ ((1 + 1 : Nat) : Int) < 2 by decide), hw]
      · rw [hd]
        have e : pairsL (s : Int) (L[i] :: L.drop (i + 1)) = kid (s : Int) L[i] (2 * L[i] + ((0 : Nat) : Int)) ++ kid (s : Int) L[i] (2 * L[i] + ((1 : Nat) : Int)) ++ pairsL (s : Int) (L.drop (i + 1)) := by
          unfold pairsL
          rw [List.flatMap_cons]
          unfold kidsL
          rw [show 2 * L[i] + ((0 : Nat) : Int) = 2 * L[i] by omega, show ((1 : Nat) : Int) = 1 from rfl]
        rw [e, List.map_append, List.map_append, ← List.append_assoc, ← List.append_assoc]
        exact hin
theorem fresh_range (a b : Int) : ∀ n ∈ freshI a b, 1 ≤ n ∧ n ≤ 15 := by
  intro n hn
  unfold freshI at hn
  obtain ⟨m, hm, rfl⟩ := List.mem_map.1 hn
  have := (mem_down m).1 (List.mem_filter.1 hm).1
  omega
theorem fresh_len (a b : Int) : (freshI a b).length ≤ 15 := by
  unfold freshI
  rw [List.length_map]
  exact List.length_filter_le _ _
theorem tsteps_f (a s : Nat) (ha : a < 65536) (hs : s < 65536) : Ev (fun k => tree_Steps.f k (a : Int) (s : Int)) ((pairsL (s : Int) (freshI (a : Int) (s : Int))).map m38) := by
  unfold tree_Steps.f
  refine Ev.bind (fresh_ev a s ha hs) ?_
  have h := tsteps_l s hs _ (fresh_range (a : Int) (s : Int)) (fresh_len _ _) _ 0 rfl [] (Nat.le_refl _)
  rw [List.nil_append, List.drop_zero] at h
  exact h

/-! ### The reference -/
/-! ### The law -/
end Go.Proofs.YtkmpfmhbkflgpaaGreatDoor.Pr

/- Arrays of 32 texts: as values, in blocks. -/
set_option linter.unusedVariables false
set_option linter.unusedSimpArgs false
namespace Go.Proofs.YtkmpfmhbkflgpaaGreatDoor.Pr
open Go.RowKit Go.Proofs.YtkmpfmhbkflgpaaGreatDoorW.PrintWords Go.Proofs.YtkmpfmhbkflgpaaGreatDoorW.PrintLast

/-- An array of texts as a value. -/
def KV (ks : List ByteArray) : Value := .agg (ks.map Value.string).toArray
/-- It lies in block b. -/
def KA (T : TypeId) (w : World) (b : Nat) (ks : List ByteArray) : Prop := w.heap[b]? = some (.cells (ks.map Value.string).toArray T (0, 0)) ∧ ks.length = 32
def key (ks : List ByteArray) (j : Nat) : ByteArray := ks.getD j ByteArray.empty
def noKeys : List ByteArray := List.replicate 32 ByteArray.empty
theorem KA.lt {T : TypeId} {w : World} {b : Nat} {ks : List ByteArray} (h : KA T w b ks) : b < w.heap.size := (Array.getElem?_eq_some_iff.1 h.1).1
theorem KA.cell {T : TypeId} {w : World} {b : Nat} {ks : List ByteArray} (h : KA T w b ks) {j : Nat} (hj : j < 32) : w.cell? ⟨b, j, none⟩ = some (.string (key ks j)) := by
  have hl : j < ks.length := by rw [h.2]; exact hj
  rw [cell_of_row w b j _ T (0, 0) h.1]
  unfold key
  simp [hl]
theorem KA.frozen {T : TypeId} {w : World} {b : Nat} {ks : List ByteArray} (h : KA T w b ks) (j : Nat) : w.frozen? ⟨b, j, none⟩ = false := frozen_of_row w b j _ T h.1
theorem KA.same {T : TypeId} {w w' : World} {b : Nat} {ks : List ByteArray} (h : KA T w b ks) (hb : w'.heap[b]? = w.heap[b]?) : KA T w' b ks := ⟨hb.trans h.1, h.2⟩
theorem KA.below {T : TypeId} {w w' : World} {b : Nat} {ks : List ByteArray} (h : KA T w b ks) {n : Nat} (hb : RowKit.Below n w w') (hn : b < n) : KA T w' b ks := h.same (hb.block b hn)
theorem KA.after {T : TypeId} {w w' : World} {b : Nat} {ks : List ByteArray} (h : KA T w b ks) (hb : RowKit.Below w.heap.size w w') : KA T w' b ks := h.same (hb.block b h.lt)
theorem KA.alloc {T : TypeId} {w : World} {b : Nat} {ks : List ByteArray} (h : KA T w b ks) (o : Obj) : KA T (w.alloc o) b ks := h.same (Below.heap_alloc w o b h.lt)
theorem KA.other {T : TypeId} {w : World} {b : Nat} {ks : List ByteArray} (h : KA T w b ks) (a : Addr) (v : Value) (hne : b ≠ a.block) : KA T (w.setCell a v) b ks := h.same (Below.heap_setCell w a v b hne)
theorem KA.set {T : TypeId} {w : World} {b : Nat} {ks : List ByteArray} (h : KA T w b ks) (j : Nat) (x : ByteArray) : KA T (w.setCell ⟨b, j, none⟩ (.string x)) b (ks.set j x) := by
  refine ⟨?_, by rw [List.length_set]; exact h.2⟩
  rw [heap_setCell_same w b j _ T _ h.1]
  congr 2
  apply Array.ext'
  simp [List.map_set]
theorem key_set (ks : List ByteArray) (hl : ks.length = 32) (j : Nat) (hj : j < 32) (x : ByteArray) (n : Nat) : key (ks.set j x) n = if n = j then x else key ks n := by
  unfold key
  by_cases e : n = j
  · subst e; rw [if_pos rfl]; simp [hl, hj]
  · rw [if_neg e]
    have e2 : ¬ j = n := fun h => e h.symm
    simp [List.getElem?_set, e2]
theorem KA.new (T : TypeId) (w : World) (ks : List ByteArray) (hl : ks.length = 32) (A : Array Value) (hA : A = (ks.map Value.string).toArray) : KA T (w.alloc (.cells A T (0, 0))) w.heap.size ks := by
  subst hA
  exact ⟨heap_alloc_new w _, hl⟩
theorem cells_agg (ks : List ByteArray) : Value.cells (.agg (ks.map Value.string).toArray) = (ks.map Value.string).toArray := by
  simp [Value.cells]
theorem KA.rowSize {ks : List ByteArray} (hl : ks.length = 32) : (ks.map Value.string).toArray.size = 32 := by simp [hl]
theorem KA.row {T : TypeId} {w : World} {b : Nat} {ks : List ByteArray} (h : KA T w b ks) (vs : List ByteArray) (hv : vs.length = 32) : KA T (w.setRow b (vs.map Value.string).toArray) b vs := by
  refine ⟨?_, hv⟩
  exact setRow_heap w b _ _ T _ h.1
theorem one_string (ks : List ByteArray) : (ks.map Value.string).toArray.all (·.oneCell') = true := by
  simp [Value.oneCell']
theorem size_info (T : TypeId) (ks : List ByteArray) (hl : ks.length = 32) (h : (Tryz.prog.info? T).map (·.size) = some 32) : (Tryz.prog.info? T).map (·.size) = some (ks.map Value.string).toArray.size := by
  rw [KA.rowSize hl]; exact h
/-- The array of no keys, as cells. -/
def Z32 : Array Value := (noKeys.map Value.string).toArray
theorem zero30 (w : World) : (zeroValue 28).run Tryz.prog w = .ok (.agg Z32) w := by kernel_rfl
theorem cellsZ : Value.cells (.agg Z32) = Z32 := cells_agg noKeys
theorem noKeys_len : noKeys.length = 32 := by simp [noKeys]
theorem s30 : (Tryz.prog.info? 28).map (·.size) = some 32 := by kernel_rfl
theorem below_setRow {B : Nat} {a w : World} (h : RowKit.Below B a w) {g : Nat} (hg : B ≤ g) (cs : Array Value) : RowKit.Below B a (w.setRow g cs) :=
  ⟨h.os, h.tape, h.output, by simp; exact h.size, fun k hk => by rw [← h.block k hk]; simp only [World.setRow, Array.getElem?_modify]; rw [if_neg (by omega)]⟩
end Go.Proofs.YtkmpfmhbkflgpaaGreatDoor.Pr

/- path.Own: its contract. -/
set_option linter.unusedVariables false
set_option linter.unusedSimpArgs false
namespace Go.Proofs.YtkmpfmhbkflgpaaGreatDoor.Pr
open Go.RowKit Go.Proofs.YtkmpfmhbkflgpaaGreatDoorW.PrintWords Go.Proofs.YtkmpfmhbkflgpaaGreatDoorW.PrintLast

def ownF (ks : List ByteArray) (P : List Int) : List ByteArray := P.foldl (fun o n => o.set n.toNat (key ks n.toNat)) noKeys
theorem ownF_len (ks : List ByteArray) (P : List Int) : (ownF ks P).length = 32 := by
  unfold ownF
  have H : ∀ (P : List Int) (o : List ByteArray), o.length = 32 → (P.foldl (fun o n => o.set n.toNat (key ks n.toNat)) o).length = 32 := by
    intro P
    induction P with
    | nil => intro o h; exact h
    | cons n P ih => intro o h; exact ih _ (by rw [List.length_set]; exact h)
  exact H P noKeys (by simp [noKeys])
theorem ownF_snoc (ks : List ByteArray) (P : List Int) (n : Int) : ownF ks (P ++ [n]) = (ownF ks P).set n.toNat (key ks n.toNat) := by unfold ownF; rw [List.foldl_append]; rfl
theorem path_small {id : Int} {n : Int} (h : n ∈ pathI id) : 1 ≤ n ∧ n ≤ 31 := by
  unfold pathI at h
  split at h
  · simp only [List.mem_cons, List.not_mem_nil, or_false] at h
    omega
  · cases h
theorem path_le (id : Int) : (pathI id).length ≤ 5 := by unfold pathI; split <;> simp
set_option maxHeartbeats 2000000 in
set_option maxRecDepth 100000 in
theorem own_any (ks : List ByteArray) (hl : ks.length = 32) (id : Int) (h0 : 0 ≤ id) (h1 : id ≤ 255) (w : World) :
    Calls Tryz.prog 9 #[KV ks, .int .u8 id] w fun e w' => e = .returned (KV (ownF ks (pathI id))) ∧ RowKit.Below w.heap.size w w' := by
  obtain ⟨K, hK⟩ := path_f id h0 h1
  have hcl := fun W => tree_Path.calls K id (pathI id) W (hK K (Nat.le_refl _))
  have hran := Lib.hid (fun n (h : n ∈ pathI id) => path_small h)
  have hle := path_le id
  clear hK
  generalize pathI id = P at hcl hran hle ⊢
  have hca := cells_agg ks
  have hz := zero30
  have hcz := cellsZ
  unfold KV
  go_enter Tryz.func9, Tryz.ntmps9
  have HK := Lib.hid (show KA 28 (((w.alloc (.cells (ks.map Value.string).toArray 28)).alloc (.cells Z32 28)).alloc (.cells Z32 28)) w.heap.size ks from ((KA.new _ w ks hl _ rfl).alloc _).alloc _)
  have HR := Lib.hid (show KA 28 (((w.alloc (.cells (ks.map Value.string).toArray 28)).alloc (.cells Z32 28)).alloc (.cells Z32 28)) (w.heap.size + 1) noKeys from by
    have := (KA.new 28 (w.alloc (.cells (ks.map Value.string).toArray 28)) noKeys noKeys_len Z32 rfl).alloc (.cells Z32 28)
    simpa using this)
  have HO := Lib.hid (show KA 28 (((w.alloc (.cells (ks.map Value.string).toArray 28)).alloc (.cells Z32 28)).alloc (.cells Z32 28)) (w.heap.size + 1 + 1) noKeys from by
    have := KA.new 28 ((w.alloc (.cells (ks.map Value.string).toArray 28)).alloc (.cells Z32 28)) noKeys noKeys_len Z32 rfl
    simpa using this)
  have HB := Lib.hid ((((RowKit.Below.refl w.heap.size w).alloc (Nat.le_refl _) (.cells (ks.map Value.string).toArray 28)).alloc (by simp) (.cells Z32 28)).alloc (by simp; omega) (.cells Z32 28))
  go_wp2_with fail
  generalize ((w.alloc (.cells (ks.map Value.string).toArray 28)).alloc (.cells Z32 28)).alloc (.cells Z32 28) = W at HK HR HO HB ⊢
  refine (hcl W).mono ?_
  clear hcl
  rintro e w2 ⟨v, rfl, hr, hb⟩
  have HK2 := Lib.hid (HK.out.after hb); have HR2 := Lib.hid (HR.out.after hb); have HO2 := Lib.hid (HO.out.after hb)
  have HB2 := Lib.hid (HB.out.trans (hb.mono HB.out.size))
  have hW := HO.out.lt
  have HP := Lib.hid (IRow.ofR hr)
  obtain ⟨Ap, cp, ep⟩ := Kd.R_slice hr
  subst ep
  clear hr hb hz hcz hca
  go_wp2_with fail
  go_loopw [11] (fun i wr => ∃ j : Nat, j ≤ P.length ∧ i = .int .i64 j ∧ RowKit.Below w.heap.size w wr ∧ KA 28 wr w.heap.size ks ∧ KA 28 wr (w.heap.size + 1) noKeys ∧ KA 28 wr (w.heap.size + 1 + 1) (ownF ks (P.take j)) ∧ IRow W.heap.size wr (.slice Ap P.length cp) P) (fun i _ => P.length - (intOf i).toNat)
  case atStart => exact ⟨0, Nat.zero_le _, rfl, HB2.out, HK2.out, HR2.out, HO2.out, HP.out⟩
  case round =>
    obtain ⟨j, hj, rfl, hbel, hk, hr, ho, hp⟩ := hrel
    by_cases hlt : j < P.length
    · have hn := hran.out P[j] (List.getElem_mem hlt)
      obtain ⟨ad, e1, e2⟩ := Kd.at_int (Kd.R_reads' hp.toR).2.2 (j : Int) (by omega) (by omega)
      subst e1
      have hrd : rd P (j : Int) = P[j] := by unfold rd; simp [hlt]
      rw [hrd, Int.toNat_natCast] at e2
      have htk : ownF ks (P.take (j + 1)) = (ownF ks (P.take j)).set P[j].toNat (key ks P[j].toNat) := by rw [List.take_succ_eq_append_getElem hlt, ownF_snoc]
      obtain ⟨nd, hnd⟩ : ∃ nd : Nat, P[j] = (nd : Int) := ⟨P[j].toNat, by omega⟩
      rw [hnd] at e2 hn
      rw [hnd, Int.toNat_natCast] at htk
      have hn2 : 1 ≤ nd ∧ nd ≤ 31 := by omega
      have hck := hk.cell (j := nd) (by omega)
      have hco := ho.cell (j := nd) (by omega)
      have hfo := ho.frozen nd
      have HTK := Lib.hid htk; have HBEL := Lib.hid hbel; have HKr := Lib.hid hk; have HRr := Lib.hid hr; have HOr := Lib.hid ho; have HPr := Lib.hid hp
      clear htk hbel hk hr ho hp hnd
      go_wp2_with fail
      go_roundw
      case rel =>
        refine ⟨j + 1, by omega, by simp, HBEL.out.setCell (p := ⟨w.heap.size + 1 + 1, nd, none⟩) (show w.heap.size ≤ w.heap.size + 1 + 1 by omega) _, HKr.out.other _ _ (show w.heap.size ≠ w.heap.size + 1 + 1 by omega), HRr.out.other _ _ (show w.heap.size + 1 ≠ w.heap.size + 1 + 1 by omega), ?_, ?_⟩
        · rw [HTK.out]; exact HOr.out.set nd _
        · exact own_move HPr.out (fun k hk => Below.heap_setCell _ _ _ _ (by have := own_base HPr.out k hk; show k ≠ w.heap.size + 1 + 1; omega))
      case measure => simp [intOf]; omega
    · obtain rfl : j = P.length := by omega
      rw [List.take_length] at ho
      have HBEL := Lib.hid hbel; have HRr := Lib.hid hr; have HOr := Lib.hid ho
      clear hbel hk hr ho hp
      go_wp2_with (first | refine wpList_load_row rfl 28 (.tmp 5) rfl _ rfl _ _ _ _ HOr.out.1 Tryz.underlying28 rfl (size_info _ _ HOr.out.2 s30) ?_ | refine wpList_store_row rfl 28 (.tmp 4) (.tmp 21) rfl _ _ rfl rfl _ _ HRr.out.1 (size_info _ _ HOr.out.2 s30) (by rw [KA.rowSize HRr.out.2, KA.rowSize HOr.out.2]) (one_string _) ?_)
      have hfin := HRr.out.row _ HOr.out.2
      refine bodyPost_ret (results_cell_row rfl _ _ _ _ _ _ _ rfl hfin.1 Tryz.underlying28 rfl (size_info _ _ hfin.2 s30)) rfl ?_
      exact ⟨rfl, below_setRow HBEL.out (by omega) _⟩
end Go.Proofs.YtkmpfmhbkflgpaaGreatDoor.Pr

/- Leaves: its contract. -/
set_option linter.unusedVariables false
set_option linter.unusedSimpArgs false
namespace Go.Proofs.YtkmpfmhbkflgpaaGreatDoor.Pr
open Go.RowKit Go.Proofs.YtkmpfmhbkflgpaaGreatDoorW.PrintWords Go.Proofs.YtkmpfmhbkflgpaaGreatDoorW.PrintLast

/-- A nonce's text. -/
def nonceN (n : Int) : ByteArray := strOfNums [110, (n / 256) % 256, n % 256]
/-- The leaves' keys are stored, j of them. -/
def leafUp (o : List ByteArray) (j : Nat) : List ByteArray := (List.range j).foldl (fun o i => o.set (16 + i) (nonceN ((1016 + i : Nat) : Int))) o
theorem leafUp_len (o : List ByteArray) (ho : o.length = 32) (j : Nat) : (leafUp o j).length = 32 := by
  unfold leafUp
  generalize List.range j = L
  induction L generalizing o with
  | nil => exact ho
  | cons x L ih => exact ih _ (by rw [List.length_set]; exact ho)
theorem leafUp_succ (o : List ByteArray) (j : Nat) : leafUp o (j + 1) = (leafUp o j).set (16 + j) (nonceN ((1016 + j : Nat) : Int)) := by unfold leafUp; rw [List.range_succ, List.foldl_append]; rfl
def leavesL : List ByteArray := leafUp noKeys 16
theorem leaves_len : leavesL.length = 32 := leafUp_len _ noKeys_len 16
theorem nonce_calls (n : Int) (w : World) : Calls Tryz.prog 15 #[.int .u16 n] w fun e w' => e = .returned (.string (nonceN n)) ∧ RowKit.Below w.heap.size w w' := term_NewNonce.calls n (nonceN n) w rfl
set_option maxHeartbeats 2000000 in
set_option maxRecDepth 100000 in
theorem leaves_any (w : World) :
    Calls Tryz.prog 10 #[] w fun e w' => e = .returned (KV leavesL) ∧ RowKit.Below w.heap.size w w' := by
  have hz := zero30
  have hcz := cellsZ
  go_enter Tryz.func10, Tryz.ntmps10
  have HR := Lib.hid (show KA 28 ((w.alloc (.cells Z32 28)).alloc (.cells Z32 28)) w.heap.size noKeys from (KA.new _ w noKeys noKeys_len _ rfl).alloc _)
  have HO := Lib.hid (show KA 28 ((w.alloc (.cells Z32 28)).alloc (.cells Z32 28)) (w.heap.size + 1) noKeys from by
    have := KA.new 28 (w.alloc (.cells Z32 28)) noKeys noKeys_len Z32 rfl
    simpa using this)
  have HB := Lib.hid (((RowKit.Below.refl w.heap.size w).alloc (Nat.le_refl _) (.cells Z32 28)).alloc (by simp) (.cells Z32 28))
  go_wp2_with fail
  generalize (w.alloc (.cells Z32 28)).alloc (.cells Z32 28) = W at HR HO HB ⊢
  clear hz hcz
  go_loopw [2] (fun i wr => ∃ j : Nat, j ≤ 16 ∧ i = .int .i64 ((16 + j : Nat) : Int) ∧ RowKit.Below w.heap.size w wr ∧ KA 28 wr w.heap.size noKeys ∧ KA 28 wr (w.heap.size + 1) (leafUp noKeys j)) (fun i _ => 32 - (intOf i).toNat)
  case atStart => exact ⟨0, Nat.zero_le _, rfl, HB.out, HR.out, HO.out⟩
  case round =>
    obtain ⟨j, hj, rfl, hbel, hr, ho⟩ := hrel
    by_cases hlt : j < 16
    · have HBEL := Lib.hid hbel; have HRr := Lib.hid hr; have HOr := Lib.hid ho
      clear hbel hr ho
      go_wp2_with fail
      rw [show ((1000 : Int) + (16 + (j : Int))) = ((1016 + j : Nat) : Int) by omega]
      refine (nonce_calls _ _).mono ?_
      rintro e w2 ⟨rfl, hb⟩
      have HR2 := Lib.hid (HRr.out.after hb); have HO2 := Lib.hid (HOr.out.after hb)
      have HB2 := Lib.hid (HBEL.out.trans (hb.mono HBEL.out.size))
      have htk := Lib.hid (leafUp_succ noKeys j)
      have hfo := HO2.out.frozen (16 + j)
      have hco := HO2.out.cell (j := 16 + j) (by omega)
      clear hb
      go_wp2_with fail
      go_roundw
      case rel =>
        refine ⟨j + 1, by omega, by simp; omega, HB2.out.setCell (p := ⟨w.heap.size + 1, 16 + j, none⟩) (show w.heap.size ≤ w.heap.size + 1 by omega) _, HR2.out.other _ _ (show w.heap.size ≠ w.heap.size + 1 by omega), ?_⟩
        rw [htk.out]; exact HO2.out.set (16 + j) _
      case measure => simp [intOf]; omega
    · obtain rfl : j = 16 := by omega
      have HBEL := Lib.hid hbel; have HRr := Lib.hid hr; have HOr := Lib.hid (show KA 28 wr (w.heap.size + 1) leavesL from ho)
      clear hbel hr ho
      go_wp2_with (first | refine wpList_load_row rfl 28 (.tmp 1) rfl _ rfl _ _ _ _ HOr.out.1 Tryz.underlying28 rfl (size_info _ _ HOr.out.2 s30) ?_ | refine wpList_store_row rfl 28 (.tmp 0) (.tmp 13) rfl _ _ rfl rfl _ _ HRr.out.1 (size_info _ _ HOr.out.2 s30) (by rw [KA.rowSize HRr.out.2, KA.rowSize HOr.out.2]) (one_string _) ?_)
      have hfin := HRr.out.row _ HOr.out.2
      refine bodyPost_ret (results_cell_row rfl _ _ _ _ _ _ _ rfl hfin.1 Tryz.underlying28 rfl (size_info _ _ hfin.2 s30)) rfl ?_
      exact ⟨rfl, below_setRow HBEL.out (by omega) _⟩
end Go.Proofs.YtkmpfmhbkflgpaaGreatDoor.Pr

/- What the printed functions of package term and of its reference come to, told by terms as trees. No program in sight but for the printed functions. -/
set_option linter.unusedVariables false
set_option linter.unusedSimpArgs false
namespace Go.Proofs.YtkmpfmhbkflgpaaGreatDoor.Ev03
open Go.RowKit Go.Proofs.YtkmpfmhbkflgpaaGreatDoor.Pr Go.Proofs.YtkmpfmhbkflgpaaGreatDoorW.PrintWords Go.Proofs.YtkmpfmhbkflgpaaGreatDoorW.PrintLast Go.Proofs.YtkmpfmhbkflgpaaGreatDoorW.PrintMore Go.Proofs.YtkmpfmhbkflgpaaGreatDoor.TT

theorem wr {x : Int} (h0 : -1000000 ≤ x) (h1 : x ≤ 1000000) : wrap64 x = x := by unfold wrap64; omega
theorem u8 (c : UInt8) (n : Nat) (hn : n < 256) : ((c.toNat : Int) = n) ↔ c = UInt8.ofNat n := by
  constructor
  · intro h
    have : c.toNat = n := by omega
    rw [← this, UInt8.ofNat_toNat]
  · rintro rfl
    simp only [UInt8.toNat_ofNat']
    omega

theorem u8i (c : UInt8) (n : Nat) (x : Int) (hx : x = n) (hn : n < 256) (h : (c.toNat : Int) = x) : c = UInt8.ofNat n := (u8 c n hn).1 (by omega)
/-! ### bytes at a place -/
theorem len_eq (s : ByteArray) : s.data.toList.length = s.size := by rw [Array.length_toList]; rfl
/-! ### own: how many bytes of its own a term has that begins there -/
/-! ### End -/
/-! ### Depth -/
/-! ### Check -/
end Go.Proofs.YtkmpfmhbkflgpaaGreatDoor.Ev03

/- The reference's Make: what it comes to (XEv03b without Parts and Open). -/
set_option linter.unusedVariables false
set_option linter.unusedSimpArgs false
namespace Go.Proofs.YtkmpfmhbkflgpaaGreatDoor.Ev03
open Go.RowKit Go.Proofs.YtkmpfmhbkflgpaaGreatDoor.Pr Go.Proofs.YtkmpfmhbkflgpaaGreatDoorW.PrintWords Go.Proofs.YtkmpfmhbkflgpaaGreatDoorW.PrintLast Go.Proofs.YtkmpfmhbkflgpaaGreatDoorW.PrintMore Go.Proofs.YtkmpfmhbkflgpaaGreatDoor.TT

theorem str_data (t : Tm) : t.str.data.toList = t.enc := by rw [Tm.str, strOf_data]
/-! ### Make -/
theorem rdOf_0 (s : ByteArray) (l : List ByteArray) : rdOf ByteArray.empty (s :: l) 0 = s := rfl
theorem rdOf_1 (s u : ByteArray) (l : List ByteArray) : rdOf ByteArray.empty (s :: u :: l) 1 = u := rfl
theorem strOf_app (l : List UInt8) (s : ByteArray) : strOf l ++ s = strOf (l ++ s.data.toList) := by
  apply ByteArray.ext
  apply Array.ext'
  rw [ByteArray.data_append, Array.toList_append, strOf_data, strOf_data]
theorem toList_iff (a b : ByteArray) : a.toList = b.toList ↔ a = b := by
  rw [Go.ByteArray.toList_eq, Go.ByteArray.toList_eq]
  constructor
  · intro h
    apply ByteArray.ext
    exact Array.ext' h
  · rintro rfl; rfl

end Go.Proofs.YtkmpfmhbkflgpaaGreatDoor.Ev03

/- What a Make that is fine tells, and what the parts of a good term are. Plain law. -/
set_option linter.unusedVariables false
set_option linter.unusedSimpArgs false
namespace Go.Proofs.YtkmpfmhbkflgpaaGreatDoor.Ev03
open Go.RowKit Go.Proofs.YtkmpfmhbkflgpaaGreatDoor.Pr Go.Proofs.YtkmpfmhbkflgpaaGreatDoorW.PrintWords Go.Proofs.YtkmpfmhbkflgpaaGreatDoorW.PrintLast Go.Proofs.YtkmpfmhbkflgpaaGreatDoorW.PrintMore Go.Proofs.YtkmpfmhbkflgpaaGreatDoor.TT

theorem two_str (k : UInt8) (a b : Tm) : strOf (k :: (a.str.data.toList ++ b.str.data.toList)) = (Tm.two k a b).str := by
  rw [str_data, str_data]; rfl
end Go.Proofs.YtkmpfmhbkflgpaaGreatDoor.Ev03

/- Nonces and constants, the program's and the reference's: the same. Plain law. -/
set_option linter.unusedVariables false
set_option linter.unusedSimpArgs false
namespace Go.Proofs.YtkmpfmhbkflgpaaGreatDoor.Ev03
open Go.RowKit Go.Proofs.YtkmpfmhbkflgpaaGreatDoor.Pr Go.Proofs.YtkmpfmhbkflgpaaGreatDoorW.PrintWords Go.Proofs.YtkmpfmhbkflgpaaGreatDoorW.PrintLast Go.Proofs.YtkmpfmhbkflgpaaGreatDoorW.PrintMore Go.Proofs.YtkmpfmhbkflgpaaGreatDoor.TT

def constOf (s : ByteArray) : ByteArray × Int := if 40 < s.size then (⟨#[]⟩, 3) else ((Tm.const s.data.toList).str, 0)
def nonceOf (a : Int) : ByteArray := (Tm.nonce (UInt8.ofNat (a / 256).toNat) (UInt8.ofNat (a % 256).toNat)).str
theorem const_spec (s : ByteArray) : term_NewConst.f s = some (constOf s) := by
  unfold term_NewConst.f constOf
  by_cases h : (s.size : Int) > 40
  · rw [if_pos h, if_pos (by omega)]
  · rw [if_neg h, if_neg (by omega), Option.bind_some]
    have e : strOfNums [99, (s.size : Int) % 256] = strOf [99, UInt8.ofNat s.size] := by
      unfold strOfNums strOf
      rw [List.map_cons, List.map_cons, List.map_nil]
      have : ((s.size : Int) % 256).toNat = s.size := by omega
      rw [this]; rfl
    have q : s.data.toList.length = s.size := len_eq s
    rw [e, if_pos (by rw [strOf_size]; simp; omega), strOf_app]
    simp only [Tm.str, Tm.enc, q, List.cons_append, List.nil_append]
theorem nonce_spec (a : Int) (h0 : 0 ≤ a) (h1 : a < 65536) : term_NewNonce.f a = some (nonceOf a) := by
  unfold term_NewNonce.f nonceOf strOfNums Tm.str Tm.enc strOf
  have : a / 256 % 256 = a / 256 := by omega
  rw [this]
  rfl
end Go.Proofs.YtkmpfmhbkflgpaaGreatDoor.Ev03

/- label, told, Open: what they come to. -/
set_option linter.unusedVariables false
set_option linter.unusedSimpArgs false
namespace Go.Proofs.YtkmpfmhbkflgpaaGreatDoor.Ev03
open Go.RowKit Go.Proofs.YtkmpfmhbkflgpaaGreatDoor.Pr Go.Proofs.YtkmpfmhbkflgpaaGreatDoorW.PrintWords Go.Proofs.YtkmpfmhbkflgpaaGreatDoorW.PrintLast Go.Proofs.YtkmpfmhbkflgpaaGreatDoorW.PrintMore Go.Proofs.YtkmpfmhbkflgpaaGreatDoor.TT

def labelOf (n : Int) : ByteArray := (constOf (strOfNums [107, n % 256])).1
def tellOf (c : ByteArray) (n : Int) (x : ByteArray) : ByteArray × Int :=
  if (makeOf 112 [labelOf n, x]).2 = 0 then makeOf 115 [c, (makeOf 112 [labelOf n, x]).1] else (⟨#[]⟩, (makeOf 112 [labelOf n, x]).2)
theorem label_spec (n : Int) : path_label.f n = some (labelOf n) := by
  unfold path_label.f; rw [const_spec]; rfl
theorem make112 (l : List ByteArray) : term_Make.f 112 l = some (makeOf 112 l) := rfl
theorem make115 (l : List ByteArray) : term_Make.f 115 l = some (makeOf 115 l) := rfl
theorem tell_spec (c : ByteArray) (n : Int) (x : ByteArray) : path_told.f c n x = some (tellOf c n x) := by
  unfold path_told.f tellOf
  rw [label_spec, Option.bind_some, make112, Option.bind_some]
  split
  · rw [make115, Option.bind_some]
  · rfl
def openOf (key s : ByteArray) : ByteArray × Int :=
  if check key = 0 then
    (if check s = 0 then
      (match read s with
        | some (.two k a b) => if k = 115 then (if a.str = key then (b.str, 0) else (⟨#[]⟩, 12)) else (⟨#[]⟩, 4)
        | _ => (⟨#[]⟩, 4))
     else (⟨#[]⟩, check s))
  else (⟨#[]⟩, check key)
/-- What both functions do with the parts. -/
theorem open_parts (key s : ByteArray) (hk : check key = 0) : (if (partsOf s).2.2 = 0 then (if (partsOf s).1 = 115 then (if 0 < ((partsOf s).2.1.length : Int) then (if (rdOf ByteArray.empty (partsOf s).2.1 0).toList = key.toList then (if 1 < ((partsOf s).2.1.length : Int) then (some (rdOf ByteArray.empty (partsOf s).2.1 1, (0 : Int))) else (none)) else (some ((⟨#[]⟩ : ByteArray), 12))) else (none)) else (some ((⟨#[]⟩ : ByteArray), 4))) else (some ((⟨#[]⟩ : ByteArray), (partsOf s).2.2))) = some (openOf key s) := by
  unfold openOf
  rw [if_pos hk]
  by_cases hc : check s = 0
  · obtain ⟨t, hr, ho, _⟩ := check_ok hc
    rw [if_pos hc, partsOf_ok hc hr, hr]
    simp only
    rw [if_pos trivial]
    cases t with
    | nonce a b => rw [if_neg (show ¬ ((Tm.nonce a b).kind.toNat : Int) = 115 by show ¬ ((110 : UInt8).toNat : Int) = 115; decide)]
    | const l => rw [if_neg (show ¬ ((Tm.const l).kind.toNat : Int) = 115 by show ¬ ((99 : UInt8).toNat : Int) = 115; decide)]
    | hash t => rw [if_neg (show ¬ ((Tm.hash t).kind.toNat : Int) = 115 by show ¬ ((104 : UInt8).toNat : Int) = 115; decide)]
    | two k a b =>
      simp only
      by_cases h5 : k = 115
      · rw [if_pos (show ((Tm.two k a b).kind.toNat : Int) = 115 by show (k.toNat : Int) = 115; rw [h5]; rfl), if_pos h5, if_pos (by simp [Tm.parts])]
        simp only [Tm.parts, List.map_cons, List.map_nil, rdOf_0, rdOf_1, toList_iff]
        by_cases h6 : a.str = key
        · rw [if_pos h6, if_pos h6, if_pos (by simp)]
        · rw [if_neg h6, if_neg h6]
      · rw [if_neg (show ¬ ((Tm.two k a b).kind.toNat : Int) = 115 from fun h => h5 (u8i k 115 115 rfl (by decide) h)), if_neg h5]
  · rw [if_neg hc, partsOf_bad hc]
    simp only
    rw [if_neg hc]
theorem open_spec (key s : ByteArray) : term_Open.f key s = some (openOf key s) := by
  unfold term_Open.f
  simp only [term_Check.f, term_Parts.f, Option.bind_some]
  by_cases hk : check key = 0
  · rw [if_pos hk]
    exact open_parts key s hk
  · rw [if_neg hk]
    unfold openOf
    rw [if_neg hk]
end Go.Proofs.YtkmpfmhbkflgpaaGreatDoor.Ev03

/- slices.Contains, the reference's place: what they come to; the new keys, in plain maths. -/
set_option linter.unusedVariables false
set_option linter.unusedSimpArgs false
namespace Go.Proofs.YtkmpfmhbkflgpaaGreatDoor.Pr
open Go.RowKit Go.Proofs.YtkmpfmhbkflgpaaGreatDoorW.PrintWords Go.Proofs.YtkmpfmhbkflgpaaGreatDoorW.PrintLast Go.Proofs.YtkmpfmhbkflgpaaGreatDoorW.PrintMore Go.Proofs.YtkmpfmhbkflgpaaGreatDoor.TT

def placeI (l : List Int) (n : Int) : Int := if l.contains n then (l.idxOf n : Int) else -1
theorem place_cons (x : Int) (l : List Int) (n : Int) : placeI (x :: l) n = if x = n then 0 else if placeI l n = -1 then -1 else placeI l n + 1 := by
  unfold placeI
  by_cases h : x = n
  · subst h; simp
  · have h2 : ¬ n = x := fun e => h e.symm
    have h3 : (x :: l).contains n = l.contains n := by rw [List.contains_cons, beq_eq_false_iff_ne.mpr h2, Bool.false_or]
    rw [h3, if_neg h]
    by_cases hc : l.contains n = true
    · rw [if_pos hc, if_pos hc, if_neg (by omega), List.idxOf_cons, beq_eq_false_iff_ne.mpr h]
      simp
    · rw [if_neg hc, if_neg hc, if_pos rfl]
theorem place_ge (l : List Int) (n : Int) : -1 ≤ placeI l n := by unfold placeI; split <;> omega
theorem index_l (n : Int) (l : List Int) (hl : l.length < 100) : ∀ (d i : Nat), l.length - i = d → Ev (fun k => slices_Index_int_int.l0 k l n (l.length : Int) (i : Int)) (if placeI (l.drop i) n = -1 then -1 else (i : Int) + placeI (l.drop i) n) := by
  intro d
  induction d with
  | zero =>
    intro i hi
    rw [List.drop_of_length_le (by omega)]
    exact Ev.step (f := fun _ => some (-1)) (fun k => by simp only [slices_Index_int_int.l0]; rw [if_neg (by omega)]) (Ev.now _)
  | succ d ih =>
    intro i hi
    have hil : i < l.length := by omega
    have hr : rd l (i : Int) = l[i] := by simp [rd, hil]
    rw [List.drop_eq_getElem_cons hil, place_cons]
    by_cases h : l[i] = n
    · refine Ev.step (f := fun _ => some (i : Int)) (fun k => by simp only [slices_Index_int_int.l0]; rw [if_pos (by omega), if_pos (by omega), if_pos (by omega), hr, if_pos h.symm]) ?_
      rw [if_pos h, if_neg (by decide), Int.add_zero]
      exact Ev.now _
    · refine Ev.step (f := fun k => slices_Index_int_int.l0 k l n (l.length : Int) ((i + 1 : Nat) : Int)) (fun k => by simp only [slices_Index_int_int.l0]; rw [if_pos (by omega), if_pos (by omega), if_pos (by omega), hr, if_neg (fun e => h e.symm), show wrap64 ((i : Int) + 1) = ((i + 1 : Nat) : Int) by unfold wrap64; omega]) ?_
      rw [if_neg h]
      have h5 := ih (i + 1) (by omega)
      have h6 := place_ge (l.drop (i + 1)) n
      by_cases h7 : placeI (l.drop (i + 1)) n = -1
      · rw [if_pos h7] at h5 ⊢; rw [if_pos rfl]; exact h5
      · rw [if_neg h7] at h5 ⊢; rw [if_neg (by omega)]
        rw [show (i : Int) + (placeI (l.drop (i + 1)) n + 1) = ((i + 1 : Nat) : Int) + placeI (l.drop (i + 1)) n by omega]; exact h5
theorem contains_f (n : Int) (l : List Int) (hl : l.length < 100) : Ev (fun k => slices_Contains_int_int.f k l n) (l.contains n) := by
  have := index_l n l hl _ 0 rfl
  rw [List.drop_zero] at this
  have e : (if placeI l n = -1 then (-1 : Int) else ((0 : Nat) : Int) + placeI l n) = placeI l n := by split <;> omega
  rw [e] at this
  refine Ev.congr (f := fun k => (slices_Index_int_int.f k l n).bind fun t => some (decide (t ≥ 0))) (fun k => rfl) ?_
  refine Ev.bind this ?_
  have e2 : decide (placeI l n ≥ 0) = l.contains n := by
    unfold placeI
    by_cases hc : l.contains n = true
    · rw [if_pos hc, hc]; exact decide_eq_true (by omega)
    · rw [if_neg hc, Bool.eq_false_iff.mpr hc]; decide
  rw [e2]
  exact Ev.now _
theorem contains_calls (A : Option Addr) (c : Nat) (l : List Int) (hl : l.length < 100) (n : Int) (w : World) (hr : Kd.C (Kd.int .i64) w A l.length l) (hc : l.length ≤ c) :
    Calls Tryz.prog 22 #[.slice A l.length c, .int .i64 n] w fun e w' => e = .returned (.bool (l.contains n)) ∧ Drawn0 w w' := by
  obtain ⟨K, hK⟩ := contains_f n l hl
  exact slices_Contains_int_int.calls K A c l n _ w hr hc (hK K (Nat.le_refl _))
theorem steps_calls (a b : Nat) (ha : a < 65536) (hb : b < 65536) (w : World) (HT : TabAt w) :
    Calls Tryz.prog 21 #[.int .u16 (a : Int), .int .u16 (b : Int)] w fun e w' => ∃ v, e = .returned v ∧ Kd.R k69 69 w' w.heap.size (fun _ => True) v ((pairsL (b : Int) (freshI (a : Int) (b : Int))).map m38) ∧ RowKit.Below w.heap.size w w' := by
  obtain ⟨K, hK⟩ := tsteps_f a b ha hb
  exact tree_Steps.calls K _ _ _ w (hK K (Nat.le_refl _)) HT
theorem fresh_calls (a b : Nat) (ha : a < 65536) (hb : b < 65536) (w : World) (HT : TabAt w) :
    Calls Tryz.prog 20 #[.int .u16 (a : Int), .int .u16 (b : Int)] w fun e w' => ∃ v, e = .returned v ∧ Kd.R (Kd.int .i64) 3 w' w.heap.size (fun _ => True) v (freshI (a : Int) (b : Int)) ∧ RowKit.Below w.heap.size w w' := by
  obtain ⟨K, hK⟩ := fresh_ev a b ha hb
  exact tree_Fresh.calls K _ _ _ w (hK K (Nat.le_refl _)) HT
theorem below_calls (s : Nat) (hs : s < 65536) (n : Int) (w : World) :
    Calls Tryz.prog 24 #[.int .u16 (s : Int), .int .i64 n] w fun e w' => e = .returned (.int .u16 (belowI (s : Int) n)) ∧ RowKit.Below w.heap.size w w' :=
  tree_Below.calls 0 _ _ _ w (below_f s hs n 0)
theorem told_calls (c : ByteArray) (n : Int) (x : ByteArray) (w : World) :
    Calls Tryz.prog 25 #[.string c, .int .i64 n, .string x] w fun e w' => e = .returned (.tuple #[.string (Ev03.tellOf c n x).1, .int .i64 (Ev03.tellOf c n x).2]) ∧ RowKit.Below w.heap.size w w' :=
  path_told.calls c n x _ _ w (Ev03.tell_spec c n x)
theorem check_calls (s : ByteArray) (w : World) :
    Calls Tryz.prog 23 #[.string s] w fun e w' => e = .returned (.int .i64 (check s)) ∧ RowKit.Below w.heap.size w w' := term_Check.calls s _ w rfl

/-! ### The new keys -/
def lackOne (fr : List Int) (ks : List ByteArray) (p : Int × Int) : Bool := !fr.contains p.2 && decide (check (key ks p.2.toNat) ≠ 0)
def baseOne (is : Int) (ks o : List ByteArray) (n : Nat) : List ByteArray := if belowI is (n : Int) = 0 then o else o.set n (key ks n)
def baseUp (is : Int) (ks : List ByteArray) (j : Nat) : List ByteArray := (List.range j).foldl (fun o i => baseOne is ks o (1 + i)) noKeys
def freshUp (fr : List Int) (first : Int) (o : List ByteArray) (j : Nat) : List ByteArray := (List.range j).foldl (fun o i => o.set (fr.getD i 0).toNat (nonceN (first + (i : Int)))) o
def newKeys (is : Int) (fr : List Int) (ks : List ByteArray) (first : Int) : List ByteArray := freshUp fr first (baseUp is ks 31) fr.length
def tellOne (x : List ByteArray) (p : Int × Int) : ByteArray × Int := Ev03.tellOf (key x p.2.toNat) p.1 (key x p.1.toNat)
def rekeyF (was is : Int) (ks : List ByteArray) (first : Int) : List ByteArray × List ByteArray × Int :=
  if (pairsL is (freshI was is)).any (lackOne (freshI was is) ks) then (noKeys, [], 12)
  else if 65535 < first + (freshI was is).length then (noKeys, [], 7)
  else if (pairsL is (freshI was is)).any (fun p => decide ((tellOne (newKeys is (freshI was is) ks first) p).2 ≠ 0)) then (noKeys, [], 3)
  else (newKeys is (freshI was is) ks first, (pairsL is (freshI was is)).map (fun p => (tellOne (newKeys is (freshI was is) ks first) p).1), 0)
theorem baseOne_len {is : Int} {ks o : List ByteArray} (ho : o.length = 32) (n : Nat) : (baseOne is ks o n).length = 32 := by unfold baseOne; split; exact ho; rw [List.length_set]; exact ho
theorem baseUp_len (is : Int) (ks : List ByteArray) (j : Nat) : (baseUp is ks j).length = 32 := by
  unfold baseUp
  have H : ∀ (L : List Nat) (o : List ByteArray), o.length = 32 → (L.foldl (fun o i => baseOne is ks o (1 + i)) o).length = 32 := by
    intro L
    induction L with
    | nil => intro o h; exact h
    | cons x L ih => intro o h; exact ih _ (baseOne_len h _)
  exact H _ _ noKeys_len
theorem baseUp_succ (is : Int) (ks : List ByteArray) (j : Nat) : baseUp is ks (j + 1) = baseOne is ks (baseUp is ks j) (1 + j) := by unfold baseUp; rw [List.range_succ, List.foldl_append]; rfl
theorem freshUp_len (fr : List Int) (first : Int) (o : List ByteArray) (ho : o.length = 32) (j : Nat) : (freshUp fr first o j).length = 32 := by
  unfold freshUp
  generalize List.range j = L
  induction L generalizing o with
  | nil => exact ho
  | cons x L ih => exact ih _ (by rw [List.length_set]; exact ho)
theorem freshUp_succ (fr : List Int) (first : Int) (o : List ByteArray) (j : Nat) : freshUp fr first o (j + 1) = (freshUp fr first o j).set (fr.getD j 0).toNat (nonceN (first + (j : Int))) := by unfold freshUp; rw [List.range_succ, List.foldl_append]; rfl
theorem newKeys_len (is : Int) (fr : List Int) (ks : List ByteArray) (first : Int) : (newKeys is fr ks first).length = 32 := freshUp_len _ _ _ (baseUp_len _ _ _) _
theorem pair_range (is : Int) (l : List Int) (hl : ∀ n ∈ l, 1 ≤ n ∧ n ≤ 15) : ∀ p ∈ pairsL is l, 1 ≤ p.1 ∧ p.1 ≤ 15 ∧ 2 ≤ p.2 ∧ p.2 ≤ 31 ∧ (p.2 = 2 * p.1 ∨ p.2 = 2 * p.1 + 1) ∧ p.1 ∈ l ∧ belowI is p.2 ≠ 0 := by
  intro p hp
  unfold pairsL at hp
  rw [List.mem_flatMap] at hp
  obtain ⟨n, hn, hp⟩ := hp
  have hr := hl n hn
  unfold kidsL at hp
  rw [List.mem_append] at hp
  unfold kid at hp
  rcases hp with hp | hp
  · split at hp
    · cases hp
    · rename_i hb
      rw [List.mem_singleton] at hp
      subst hp
      exact ⟨hr.1, hr.2, by show 2 ≤ 2 * n; omega, by show 2 * n ≤ 31; omega, .inl rfl, hn, hb⟩
  · split at hp
    · cases hp
    · rename_i hb
      rw [List.mem_singleton] at hp
      subst hp
      exact ⟨hr.1, hr.2, by show 2 ≤ 2 * n + 1; omega, by show 2 * n + 1 ≤ 31; omega, .inr rfl, hn, hb⟩
end Go.Proofs.YtkmpfmhbkflgpaaGreatDoor.Pr
