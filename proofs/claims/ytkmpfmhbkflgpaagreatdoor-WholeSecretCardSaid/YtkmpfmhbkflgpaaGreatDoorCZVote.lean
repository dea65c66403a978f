import Derived.Test.YtkmpfmhbkflgpaaGreatDoorCPrx0
import Derived.Deep.QuietTactic
import Derived.BigQuiet
import Derived.Deep.RegionHeld3
import Derived.Test.YtkmpfmhbkflgpaaGreatDoorCZIdx
/- What 'works' asks of count: at the values at which it asks. Printed by genwork.py. -/
set_option linter.unusedVariables false
set_option linter.unusedSimpArgs false
namespace Go.Proofs.YtkmpfmhbkflgpaaGreatDoor.Pr
open Go.RowKit Go.Proofs.YtkmpfmhbkflgpaaGreatDoorW.PrintWords Go.Proofs.YtkmpfmhbkflgpaaGreatDoorW.PrintLast Go.Proofs.YtkmpfmhbkflgpaaGreatDoorW.PrintMore
attribute [local go_sem] max2_int min2_int   -- for this text's walks alone

theorem held_1 (w : World) : Calls Tryz.prog 55 #[.int .i64 1] w fun e w' => e = .returned (.int .i64 1) ∧ RowKit.Below w.heap.size w w' := by
  go_enter Tryz.func55, Tryz.ntmps55
  go_wp2_with fail
  have HB := Lib.hid (RowKit.Below.refl w.heap.size w)
  go_ret
  exact ⟨rfl, HB.out⟩
theorem held_4 (w : World) : Calls Tryz.prog 55 #[.int .i64 4] w fun e w' => e = .returned (.int .i64 4) ∧ RowKit.Below w.heap.size w w' := by
  go_enter Tryz.func55, Tryz.ntmps55
  go_wp2_with fail
  have HB := Lib.hid (RowKit.Below.refl w.heap.size w)
  go_ret
  exact ⟨rfl, HB.out⟩
theorem faulty_1 (w : World) : Calls Tryz.prog 19 #[.int .i64 1] w fun e w' => e = .returned (.int .i64 0) ∧ RowKit.Below w.heap.size w w' := by
  go_enter Tryz.func19, Tryz.ntmps19
  go_wp2_with fail
  have HB := Lib.hid (RowKit.Below.refl w.heap.size w)
  refine (held_1 _).mono ?_
  rintro e w1 ⟨rfl, hb⟩
  replace HB := Lib.hid (HB.out.trans (hb.mono HB.out.size))
  clear hb
  go_wp2_with fail
  go_ret
  exact ⟨rfl, HB.out⟩
theorem faulty_4 (w : World) : Calls Tryz.prog 19 #[.int .i64 4] w fun e w' => e = .returned (.int .i64 1) ∧ RowKit.Below w.heap.size w w' := by
  go_enter Tryz.func19, Tryz.ntmps19
  go_wp2_with fail
  have HB := Lib.hid (RowKit.Below.refl w.heap.size w)
  refine (held_4 _).mono ?_
  rintro e w1 ⟨rfl, hb⟩
  replace HB := Lib.hid (HB.out.trans (hb.mono HB.out.size))
  clear hb
  go_wp2_with fail
  go_ret
  exact ⟨rfl, HB.out⟩
theorem echoes_1 (w : World) : Calls Tryz.prog 50 #[.int .i64 1] w fun e w' => e = .returned (.int .i64 1) ∧ RowKit.Below w.heap.size w w' := by
  go_enter Tryz.func50, Tryz.ntmps50
  go_wp2_with fail
  have HB := Lib.hid (RowKit.Below.refl w.heap.size w)
  refine (held_1 _).mono ?_
  rintro e w1 ⟨rfl, hb⟩
  replace HB := Lib.hid (HB.out.trans (hb.mono HB.out.size))
  clear hb
  go_wp2_with fail
  refine (faulty_1 _).mono ?_
  rintro e w2 ⟨rfl, hb⟩
  replace HB := Lib.hid (HB.out.trans (hb.mono HB.out.size))
  clear hb
  go_wp2_with fail
  go_ret
  exact ⟨rfl, HB.out⟩
theorem readies_1 (w : World) : Calls Tryz.prog 51 #[.int .i64 1] w fun e w' => e = .returned (.int .i64 1) ∧ RowKit.Below w.heap.size w w' := by
  go_enter Tryz.func51, Tryz.ntmps51
  go_wp2_with fail
  have HB := Lib.hid (RowKit.Below.refl w.heap.size w)
  refine (faulty_1 _).mono ?_
  rintro e w1 ⟨rfl, hb⟩
  replace HB := Lib.hid (HB.out.trans (hb.mono HB.out.size))
  clear hb
  go_wp2_with fail
  go_ret
  exact ⟨rfl, HB.out⟩
theorem enough_1 (w : World) : Calls Tryz.prog 54 #[.int .i64 1] w fun e w' => e = .returned (.int .i64 1) ∧ RowKit.Below w.heap.size w w' := by
  go_enter Tryz.func54, Tryz.ntmps54
  go_wp2_with fail
  have HB := Lib.hid (RowKit.Below.refl w.heap.size w)
  refine (faulty_1 _).mono ?_
  rintro e w1 ⟨rfl, hb⟩
  replace HB := Lib.hid (HB.out.trans (hb.mono HB.out.size))
  clear hb
  go_wp2_with fail
  go_ret
  exact ⟨rfl, HB.out⟩
theorem bit_0 (w : World) : Calls Tryz.prog 73 #[.int .u8 0] w fun e w' => e = .returned (.int .u16 1) ∧ RowKit.Below w.heap.size w w' := by
  go_enter Tryz.func73, Tryz.ntmps73
  go_wp2_with fail
  have HB := Lib.hid (RowKit.Below.refl w.heap.size w)
  go_ret
  exact ⟨rfl, HB.out⟩
theorem has_10 (w : World) : Calls Tryz.prog 49 #[.int .u16 1, .int .u8 0] w fun e w' => e = .returned (.bool true) ∧ RowKit.Below w.heap.size w w' := by
  go_enter Tryz.func49, Tryz.ntmps49
  go_wp2_with fail
  have HB := Lib.hid (RowKit.Below.refl w.heap.size w)
  refine (bit_0 _).mono ?_
  rintro e w1 ⟨rfl, hb⟩
  replace HB := Lib.hid (HB.out.trans (hb.mono HB.out.size))
  clear hb
  go_wp2_with fail
  go_ret
  exact ⟨rfl, HB.out⟩
theorem has_00 (w : World) : Calls Tryz.prog 49 #[.int .u16 0, .int .u8 0] w fun e w' => e = .returned (.bool false) ∧ RowKit.Below w.heap.size w w' := by
  go_enter Tryz.func49, Tryz.ntmps49
  go_wp2_with fail
  have HB := Lib.hid (RowKit.Below.refl w.heap.size w)
  refine (bit_0 _).mono ?_
  rintro e w1 ⟨rfl, hb⟩
  replace HB := Lib.hid (HB.out.trans (hb.mono HB.out.size))
  clear hb
  go_wp2_with fail
  go_ret
  exact ⟨rfl, HB.out⟩
theorem with_00 (w : World) : Calls Tryz.prog 75 #[.int .u16 0, .int .u8 0] w fun e w' => e = .returned (.int .u16 1) ∧ RowKit.Below w.heap.size w w' := by
  go_enter Tryz.func75, Tryz.ntmps75
  go_wp2_with fail
  have HB := Lib.hid (RowKit.Below.refl w.heap.size w)
  refine (bit_0 _).mono ?_
  rintro e w1 ⟨rfl, hb⟩
  replace HB := Lib.hid (HB.out.trans (hb.mono HB.out.size))
  clear hb
  go_wp2_with fail
  go_ret
  exact ⟨rfl, HB.out⟩
theorem ones_1 (w : World) : Calls Tryz.prog 72 #[.int .u16 1] w fun e w' => e = .returned (.int .i64 1) ∧ RowKit.Below w.heap.size w w' := by
  go_enter Tryz.func72, Tryz.ntmps72
  go_wp2_with fail
  refine wp_region_noPanic ?_
  refine wp_region_held_drew (S := (fun w' => RowKit.Below w.heap.size w w')) (by kernel_rfl) ((RowKit.Below.refl _ _).drew) (fun hHeld => ?_)
  refine wpAnyH_take (oi := ⟨_, _, _, _, _, _⟩) (i := 0) (v := ?_) rfl (by kernel_rfl) (by kernel_rfl) (by kernel_rfl) (fun _ _ _ h => h) (Or.inl ⟨by rfl, ?_⟩) (by assumption) ?_
  rotate_left
  · intro w hSw; (try dsimp only at hSw); first | (go_simp; done) | (go_simp; with_reducible rfl)
  try simp only [Act.put, List.setIfInBounds_toArray, List.set_cons_zero, List.set_cons_succ]
  refine wpAnyH_take (oi := ⟨_, _, _, _, _, _⟩) (i := 1) (v := ?_) rfl (by kernel_rfl) (by kernel_rfl) (by kernel_rfl) (fun _ _ _ h => h) (Or.inl ⟨by rfl, ?_⟩) (by assumption) ?_
  rotate_left
  · intro w hSw; (try dsimp only at hSw); first | (go_simp; done) | (go_simp; with_reducible rfl)
  try simp only [Act.put, List.setIfInBounds_toArray, List.set_cons_zero, List.set_cons_succ]
  refine wpAnyH_take (oi := ⟨_, _, _, _, _, _⟩) (i := 2) (v := .int .u8 0) rfl (by kernel_rfl) (by kernel_rfl) (by kernel_rfl) (fun _ _ _ h => h) (Or.inl ⟨by rfl, ?_⟩) (by assumption) ?_
  · intro w hSw; kernel_rfl
  try simp only [Act.put, List.setIfInBounds_toArray, List.set_cons_zero, List.set_cons_succ]
  refine wpAnyH_take (oi := ⟨_, _, _, _, _, _⟩) (i := 3) (v := ?_) rfl (by kernel_rfl) (by kernel_rfl) (by kernel_rfl) (fun _ _ _ h => h) (Or.inl ⟨by rfl, ?_⟩) (by assumption) ?_
  rotate_left
  · intro w hSw; (try dsimp only at hSw); first | (go_simp; done) | (go_simp; with_reducible rfl)
  try simp only [Act.put, List.setIfInBounds_toArray, List.set_cons_zero, List.set_cons_succ]
  refine wpAnyH_take (oi := ⟨_, _, _, _, _, _⟩) (i := 4) (v := ?_) rfl (by kernel_rfl) (by kernel_rfl) (by kernel_rfl) (fun _ _ _ h => h) (Or.inl ⟨by rfl, ?_⟩) (by assumption) ?_
  rotate_left
  · intro w hSw; (try dsimp only at hSw); first | (go_simp; done) | (go_simp; with_reducible rfl)
  try simp only [Act.put, List.setIfInBounds_toArray, List.set_cons_zero, List.set_cons_succ]
  refine wpAnyH_take (oi := ⟨_, _, _, _, _, _⟩) (i := 5) (v := .int .u8 1) rfl (by kernel_rfl) (by kernel_rfl) (by kernel_rfl) (fun _ _ _ h => h) (Or.inl ⟨by rfl, ?_⟩) (by assumption) ?_
  · intro w hSw; kernel_rfl
  try simp only [Act.put, List.setIfInBounds_toArray, List.set_cons_zero, List.set_cons_succ]
  refine wpAnyH_take (oi := ⟨_, _, _, _, _, _⟩) (i := 6) (v := ?_) rfl (by kernel_rfl) (by kernel_rfl) (by kernel_rfl) (fun _ _ _ h => h) (Or.inl ⟨by rfl, ?_⟩) (by assumption) ?_
  rotate_left
  · intro w hSw; (try dsimp only at hSw); first | (go_simp; done) | (go_simp; with_reducible rfl)
  try simp only [Act.put, List.setIfInBounds_toArray, List.set_cons_zero, List.set_cons_succ]
  refine wpAnyH_take (oi := ⟨_, _, _, _, _, _⟩) (i := 7) (v := ?_) rfl (by kernel_rfl) (by kernel_rfl) (by kernel_rfl) (fun _ _ _ h => h) (Or.inl ⟨by rfl, ?_⟩) (by assumption) ?_
  rotate_left
  · intro w hSw; (try dsimp only at hSw); first | (go_simp; done) | (go_simp; with_reducible rfl)
  try simp only [Act.put, List.setIfInBounds_toArray, List.set_cons_zero, List.set_cons_succ]
  refine wpAnyH_take (oi := ⟨_, _, _, _, _, _⟩) (i := 8) (v := ?_) rfl (by kernel_rfl) (by kernel_rfl) (by kernel_rfl) (fun _ _ _ h => h) (Or.inl ⟨by rfl, ?_⟩) (by assumption) ?_
  rotate_left
  · intro w hSw; (try dsimp only at hSw); first | (go_simp; done) | (go_simp; with_reducible rfl)
  try simp only [Act.put, List.setIfInBounds_toArray, List.set_cons_zero, List.set_cons_succ]
  refine wpAnyH_done (by kernel_rfl) ?_ _
  refine NoPanic.normal ?_
  go_wp2_with fail
  go_ret
  exact ⟨rfl, hHeld⟩
theorem size_1 (w : World) : Calls Tryz.prog 48 #[.int .u16 1] w fun e w' => e = .returned (.int .i64 1) ∧ RowKit.Below w.heap.size w w' := by
  go_enter Tryz.func48, Tryz.ntmps48
  go_wp2_with fail
  have HB := Lib.hid (RowKit.Below.refl w.heap.size w)
  refine (ones_1 _).mono ?_
  rintro e w1 ⟨rfl, hb⟩
  replace HB := Lib.hid (HB.out.trans (hb.mono HB.out.size))
  clear hb
  go_wp2_with fail
  go_ret
  exact ⟨rfl, HB.out⟩
end Go.Proofs.YtkmpfmhbkflgpaaGreatDoor.Pr

/- What 'works' asks of vote: one that is alone is ready, and has it delivered. -/
set_option linter.unusedVariables false
set_option linter.unusedSimpArgs false
namespace Go.Proofs.YtkmpfmhbkflgpaaGreatDoor.Pr
open Go.RowKit Go.Proofs.YtkmpfmhbkflgpaaGreatDoorW.PrintWords Go.Proofs.YtkmpfmhbkflgpaaGreatDoorW.PrintLast Go.Proofs.YtkmpfmhbkflgpaaGreatDoorW.PrintMore

set_option maxRecDepth 100000
theorem clone_nil (w : World) : Calls Tryz.prog 71 #[.slice none 0 0] w fun e w' => e = .returned (.slice none 0 0) ∧ RowKit.Below w.heap.size w w' := by
  have hq : ∀ w, (binOp .eql 57 (.slice none 0 0) (.slice none 0 0)).run Tryz.prog w = .ok (.bool true) w := by intro w; kernel_rfl
  go_enter Tryz.func71, Tryz.ntmps71
  go_wp2_with fail
  go_ret
  exact ⟨rfl, RowKit.Below.refl _ _⟩
theorem index_nil (f : Value) (w : World) : Calls Tryz.prog 84 #[.slice none 0 0, f] w fun e w' => e = .returned (.int .i64 (-1)) ∧ RowKit.Below w.heap.size w w' := by
  go_enter Tryz.func84, Tryz.ntmps84
  go_wp2_with fail
  go_loopw [8] (fun i wl => i = .int .i64 0 ∧ RowKit.Below w.heap.size w wl) (fun _ _ => 0)
  case atStart => exact ⟨rfl, RowKit.Below.refl _ _⟩
  case round =>
    obtain ⟨rfl, hb⟩ := hrel
    go_wp2_with fail
    go_ret
    exact ⟨rfl, hb⟩
theorem at_nil (s : ByteArray) (w : World) : Calls Tryz.prog 74 #[.slice none 0 0, .string s] w fun e w' => e = .returned (.int .i64 (-1)) ∧ RowKit.Below w.heap.size w w' := by
  go_enter Tryz.func74, Tryz.ntmps74
  have HB := Lib.hid ((RowKit.Below.refl w.heap.size w).alloc (Nat.le_refl _) (.cells #[.string s] 9))
  go_wp2_with fail
  refine (index_nil _ _).mono ?_
  rintro e w1 ⟨rfl, hb⟩
  have HB2 := Lib.hid (HB.out.trans (hb.mono HB.out.size))
  clear hb HB
  go_wp2_with fail
  go_ret
  exact ⟨rfl, HB2.out⟩
/-- A case lies in block g. -/
def CaseAt (w : World) (g : Nat) (a b c : Bool) (v : Value) : Prop := w.heap[g]? = some (.cells #[.bool a, .bool b, .bool c, .slice none 0 0, v] 59 (0, 0))
theorem CaseAt.row {w : World} {g : Nat} {a b c : Bool} {v : Value} (h : CaseAt w g a b c v) : w.heap[g]? = some (.cells #[.bool a, .bool b, .bool c, .slice none 0 0, v] 59 (0, 0)) := h
theorem caseInfo : (Tryz.prog.info? 59).map (·.size) = some 5 := by kernel_rfl
theorem CaseAt.lt {w : World} {g : Nat} {a b c : Bool} {v : Value} (h : CaseAt w g a b c v) : g < w.heap.size := (Array.getElem?_eq_some_iff.1 h).1
theorem CaseAt.after {w w' : World} {g : Nat} {a b c : Bool} {v : Value} (h : CaseAt w g a b c v) (hb : RowKit.Below w.heap.size w w') : CaseAt w' g a b c v := (hb.block g h.lt).trans h
theorem CaseAt.cells {w : World} {g : Nat} {a b c : Bool} {v : Value} (h : CaseAt w g a b c v) : w.cell? ⟨g, 0, none⟩ = some (.bool a) ∧ w.cell? ⟨g, 1, none⟩ = some (.bool b) ∧ w.cell? ⟨g, 2, none⟩ = some (.bool c) ∧ w.cell? ⟨g, 3, none⟩ = some (.slice none 0 0) ∧ w.cell? ⟨g, 4, none⟩ = some v :=
  ⟨cell_of_row w g 0 _ _ (0, 0) h, cell_of_row w g 1 _ _ (0, 0) h, cell_of_row w g 2 _ _ (0, 0) h, cell_of_row w g 3 _ _ (0, 0) h, cell_of_row w g 4 _ _ (0, 0) h⟩
theorem CaseAt.frozen {w : World} {g : Nat} {a b c : Bool} {v : Value} (h : CaseAt w g a b c v) (j : Nat) : w.frozen? ⟨g, j, none⟩ = false := frozen_of_row w g j _ _ h
theorem CaseAt.set {w : World} {g : Nat} {a b c : Bool} {v : Value} (h : CaseAt w g a b c v) : CaseAt (w.setCell ⟨g, 1, none⟩ (.bool true)) g a true c v ∧ CaseAt (w.setCell ⟨g, 2, none⟩ (.bool true)) g a b true v ∧ ∀ u, CaseAt (w.setCell ⟨g, 4, none⟩ u) g a b c u :=
  ⟨heap_setCell_same w g 1 _ _ _ h, heap_setCell_same w g 2 _ _ _ h, fun u => heap_setCell_same w g 4 _ _ u h⟩
theorem own_nil (w : World) : Calls Tryz.prog 47 #[.agg #[.bool false, .bool false, .bool false, .slice none 0 0, .slice none 0 0]] w fun e w' => e = .returned (.agg #[.bool false, .bool false, .bool false, .slice none 0 0, .slice none 0 0]) ∧ RowKit.Below w.heap.size w w' := by
  go_enter Tryz.func47, Tryz.ntmps47
  go_wp2_with fail
  have HC1 := Lib.hid (show CaseAt ((w.alloc (.cells #[.bool false, .bool false, .bool false, .slice none 0 0, .slice none 0 0] 59)).alloc (.cells #[.bool false, .bool false, .bool false, .slice none 0 0, .slice none 0 0] 59)) w.heap.size false false false (.slice none 0 0) from (Below.heap_alloc _ _ _ (by simp)).trans (heap_alloc_new w _))
  have HC2 := Lib.hid (show CaseAt ((w.alloc (.cells #[.bool false, .bool false, .bool false, .slice none 0 0, .slice none 0 0] 59)).alloc (.cells #[.bool false, .bool false, .bool false, .slice none 0 0, .slice none 0 0] 59)) (w.heap.size + 1) false false false (.slice none 0 0) from by
    have := heap_alloc_new (w.alloc (.cells #[.bool false, .bool false, .bool false, .slice none 0 0, .slice none 0 0] 59)) (.cells #[.bool false, .bool false, .bool false, .slice none 0 0, .slice none 0 0] 59)
    have hz : (w.alloc (.cells #[.bool false, .bool false, .bool false, .slice none 0 0, .slice none 0 0] 59)).heap.size = w.heap.size + 1 := by simp
    rw [hz] at this
    exact this)
  have HB := Lib.hid (((RowKit.Below.refl w.heap.size w).alloc (Nat.le_refl _) (.cells #[.bool false, .bool false, .bool false, .slice none 0 0, .slice none 0 0] 59)).alloc (by simp) (.cells #[.bool false, .bool false, .bool false, .slice none 0 0, .slice none 0 0] 59))
  generalize (w.alloc (.cells #[.bool false, .bool false, .bool false, .slice none 0 0, .slice none 0 0] 59)).alloc (.cells #[.bool false, .bool false, .bool false, .slice none 0 0, .slice none 0 0] 59) = W at HC1 HC2 HB ⊢
-- OWN
  have HSt : ∀ w' : World, RowKit.Below w.heap.size w w' → CaseAt w' w.heap.size false false false (.slice none 0 0) → CaseAt w' (w.heap.size + 1) false false false (.slice none 0 0) → (RowKit.Below w.heap.size w w' ∧ CaseAt w' w.heap.size false false false (.slice none 0 0) ∧ CaseAt w' (w.heap.size + 1) false false false (.slice none 0 0) ∧ w'.cell? ⟨w.heap.size, 3, none⟩ = some (.slice none 0 0) ∧ w'.cell? ⟨w.heap.size, 4, none⟩ = some (.slice none 0 0) ∧ w'.frozen? ⟨w.heap.size, 3, none⟩ = false ∧ w'.frozen? ⟨w.heap.size, 4, none⟩ = false) := fun w' h1 h2 h3 => ⟨h1, h2, h3, h2.cells.2.2.2.1, h2.cells.2.2.2.2, h2.frozen 3, h2.frozen 4⟩
  refine wp_region_noPanic ?_
  refine wp_region_held_drew (S := (fun w' => RowKit.Below w.heap.size w w' ∧ CaseAt w' w.heap.size false false false (.slice none 0 0) ∧ CaseAt w' (w.heap.size + 1) false false false (.slice none 0 0) ∧ w'.cell? ⟨w.heap.size, 3, none⟩ = some (.slice none 0 0) ∧ w'.cell? ⟨w.heap.size, 4, none⟩ = some (.slice none 0 0) ∧ w'.frozen? ⟨w.heap.size, 3, none⟩ = false ∧ w'.frozen? ⟨w.heap.size, 4, none⟩ = false)) (by kernel_rfl) (HSt _ HB.out.drew (HC1.out.after ((RowKit.Below.refl _ _).drew)) (HC2.out.after ((RowKit.Below.refl _ _).drew))) (fun hHeld => ?_)
  refine wpAnyH_take (oi := ⟨_, _, _, _, _, _⟩) (i := 0) (v := ?_) rfl (by kernel_rfl) (by kernel_rfl) (by kernel_rfl) (fun _ _ _ h => h) (Or.inl ⟨by rfl, ?_⟩) (by assumption) ?_
  rotate_left
  · intro w hSw; (try dsimp only at hSw); first | (go_simp; done) | (go_simp; with_reducible rfl)
  try simp only [Act.put, List.setIfInBounds_toArray, List.set_cons_zero, List.set_cons_succ]
  refine wpAnyH_take (oi := ⟨_, _, _, _, _, _⟩) (i := 1) (v := ?_) rfl (by kernel_rfl) (by kernel_rfl) (by kernel_rfl) (fun _ _ _ h => h) (Or.inl ⟨by rfl, ?_⟩) (by assumption) ?_
  rotate_left
  · intro w hSw; (try dsimp only at hSw); first | (go_simp; done) | (go_simp; with_reducible rfl)
  try simp only [Act.put, List.setIfInBounds_toArray, List.set_cons_zero, List.set_cons_succ]
  refine wpAnyH_take (oi := ⟨_, _, _, _, _, _⟩) (i := 3) (v := ?_) rfl (by kernel_rfl) (by kernel_rfl) (by kernel_rfl) (fun _ _ _ h => h) (Or.inl ⟨by rfl, ?_⟩) (by assumption) ?_
  rotate_left
  · intro w hSw; (try dsimp only at hSw); first | (go_simp; done) | (go_simp; with_reducible rfl)
  try simp only [Act.put, List.setIfInBounds_toArray, List.set_cons_zero, List.set_cons_succ]
  refine wpAnyH_take (oi := ⟨_, _, _, _, _, _⟩) (i := 4) (v := ?_) rfl (by kernel_rfl) (by kernel_rfl) (by kernel_rfl) (fun _ _ _ h => h) (Or.inl ⟨by rfl, ?_⟩) (by assumption) ?_
  rotate_left
  · intro w hSw; (try dsimp only at hSw); first | (go_simp; done) | (go_simp; with_reducible rfl)
  try simp only [Act.put, List.setIfInBounds_toArray, List.set_cons_zero, List.set_cons_succ]
  refine wpAnyH_ready (rs := [2]) (by kernel_rfl) (by simp) ?_
  refine AllReadyH.cons (o := ⟨_, _, _, _, _, _⟩) rfl (fun K hK => ?_) AllReadyH.nil
  go_simp
  refine (clone_nil _).mono ?_; rintro e w' ⟨rfl, hb⟩; (try go_wp2_with fail)
  refine hK.out _ _ (HSt _ (hHeld.1.trans (hb.mono hHeld.1.size)) (hHeld.2.1.after hb) (hHeld.2.2.1.after hb)) (fun hHeld => ?_)
  clear hK K
  try simp only [Act.put, List.setIfInBounds_toArray, List.set_cons_zero, List.set_cons_succ]
  refine wpAnyH_take (oi := ⟨_, _, _, _, _, _⟩) (i := 6) (v := ?_) rfl (by kernel_rfl) (by kernel_rfl) (by kernel_rfl) (fun _ _ _ h => h) (Or.inl ⟨by rfl, ?_⟩) (by assumption) ?_
  rotate_left
  · intro w hSw; (try dsimp only at hSw); first | (go_simp; done) | (go_simp; with_reducible rfl)
  try simp only [Act.put, List.setIfInBounds_toArray, List.set_cons_zero, List.set_cons_succ]
  refine wpAnyH_ready (rs := [5]) (by kernel_rfl) (by simp) ?_
  refine AllReadyH.cons (o := ⟨_, _, _, _, _, _⟩) rfl (fun K hK => ?_) AllReadyH.nil
  go_simp
  refine (clone_nil _).mono ?_; rintro e w' ⟨rfl, hb⟩; (try go_wp2_with fail)
  refine hK.out _ _ (HSt _ (hHeld.1.trans (hb.mono hHeld.1.size)) (hHeld.2.1.after hb) (hHeld.2.2.1.after hb)) (fun hHeld => ?_)
  clear hK K
  try simp only [Act.put, List.setIfInBounds_toArray, List.set_cons_zero, List.set_cons_succ]
  refine wpAnyH_ready (rs := [7]) (by kernel_rfl) (by simp) ?_
  refine AllReadyH.cons (o := ⟨_, _, _, _, _, _⟩) rfl (fun K hK => ?_) AllReadyH.nil
  go_simp
  skip
  refine hK.out _ _ (HSt _ (hHeld.1.setCell (p := ⟨w.heap.size, 3, none⟩) (Nat.le_refl _) _) (heap_setCell_same _ _ 3 _ _ _ hHeld.2.1) ((Below.heap_setCell _ _ _ _ (show w.heap.size + 1 ≠ w.heap.size by omega)).trans hHeld.2.2.1)) (fun hHeld => ?_)
  clear hK K
  try simp only [Act.put, List.setIfInBounds_toArray, List.set_cons_zero, List.set_cons_succ]
  refine wpAnyH_take (oi := ⟨_, _, _, _, _, _⟩) (i := 8) (v := ?_) rfl (by kernel_rfl) (by kernel_rfl) (by kernel_rfl) (fun _ _ _ h => h) (Or.inl ⟨by rfl, ?_⟩) (by assumption) ?_
  rotate_left
  · intro w hSw; (try dsimp only at hSw); first | (go_simp; done) | (go_simp; with_reducible rfl)
  try simp only [Act.put, List.setIfInBounds_toArray, List.set_cons_zero, List.set_cons_succ]
  refine wpAnyH_ready (rs := [9]) (by kernel_rfl) (by simp) ?_
  refine AllReadyH.cons (o := ⟨_, _, _, _, _, _⟩) rfl (fun K hK => ?_) AllReadyH.nil
  go_simp
  skip
  refine hK.out _ _ (HSt _ (hHeld.1.setCell (p := ⟨w.heap.size, 4, none⟩) (Nat.le_refl _) _) (heap_setCell_same _ _ 4 _ _ _ hHeld.2.1) ((Below.heap_setCell _ _ _ _ (show w.heap.size + 1 ≠ w.heap.size by omega)).trans hHeld.2.2.1)) (fun hHeld => ?_)
  clear hK K
  try simp only [Act.put, List.setIfInBounds_toArray, List.set_cons_zero, List.set_cons_succ]
  refine wpAnyH_done (by kernel_rfl) ?_ _
  refine NoPanic.normal ?_
  obtain ⟨hb, h1, h2, _⟩ := hHeld
  have HB2 := Lib.hid hb; have HD1 := Lib.hid h1; have HD2 := Lib.hid h2
  clear hb h1 h2
  generalize (w'.setCell ⟨w.heap.size, 3, none⟩ (.slice none 0 0)).setCell ⟨w.heap.size, 4, none⟩ (.slice none 0 0) = W2 at HB2 HD1 HD2 ⊢
  clear HSt HC1 HC2 HB
  obtain ⟨c0, c1, c2, c3, c4⟩ := HD1.out.cells
  obtain ⟨e0, e1, e2, e3, e4⟩ := HD2.out.cells
  have f0 := HD2.out.frozen 0; have f1 := HD2.out.frozen 1; have f2 := HD2.out.frozen 2; have f3 := HD2.out.frozen 3; have f4 := HD2.out.frozen 4
  go_wp2_with fail
  have hfin := (show CaseAt _ (w.heap.size + 1) false false false (.slice none 0 0) from heap_setCell_same _ _ 4 _ _ (.slice none 0 0) (heap_setCell_same _ _ 3 _ _ (.slice none 0 0) (heap_setCell_same _ _ 2 _ _ (.bool false) (heap_setCell_same _ _ 1 _ _ (.bool false) (heap_setCell_same _ _ 0 _ _ (.bool false) HD2.out.row)))))
  refine bodyPost_ret (results_cell_row rfl _ _ _ _ _ _ _ rfl hfin.row Tryz.underlying59 rfl caseInfo) rfl ?_
  have hle : w.heap.size ≤ w.heap.size + 1 := Nat.le_succ _
  exact ⟨rfl, ((((HB2.out.setCell (p := ⟨w.heap.size + 1, 0, none⟩) hle _).setCell (p := ⟨w.heap.size + 1, 1, none⟩) hle _).setCell (p := ⟨w.heap.size + 1, 2, none⟩) hle _).setCell (p := ⟨w.heap.size + 1, 3, none⟩) hle _).setCell (p := ⟨w.heap.size + 1, 4, none⟩) hle _⟩
-- END OWN
theorem ready_one (g : Nat) (v : Value) (s : ByteArray) (w : World) (h : CaseAt w g false false false v) (B : Nat) (hB : B ≤ g) : Calls Tryz.prog 53 #[.pointer (some ⟨g, 0, none⟩), .string s] w fun e w' => ∃ ad, e = .returned (.slice (some ad) 1 1) ∧ CaseAt w' g false true false v ∧ RowKit.Below B w w' := by
  obtain ⟨c0, c1, c2, c3, c4⟩ := h.cells
  have f1 := h.frozen 1
  have HS := Lib.hid h.set.1
  have HL := Lib.hid h.lt
  go_enter Tryz.func53, Tryz.ntmps53
  go_wp2_with fail
  go_ret
  have hb1 := (RowKit.Below.refl B w).setCell (p := ⟨g, 1, none⟩) hB (.bool true)
  refine ⟨_, rfl, (Below.heap_alloc _ _ _ (by simpa using HL.out)).trans HS.out, ?_⟩
  exact hb1.alloc (by simpa using Nat.le_trans hB (Nat.le_of_lt HL.out)) _
end Go.Proofs.YtkmpfmhbkflgpaaGreatDoor.Pr

/- What 'works' asks of vote: the first vote is cast. -/
set_option linter.unusedVariables false
set_option linter.unusedSimpArgs false
namespace Go.Proofs.YtkmpfmhbkflgpaaGreatDoor.Pr
open Go.RowKit Go.Proofs.YtkmpfmhbkflgpaaGreatDoorW.PrintWords Go.Proofs.YtkmpfmhbkflgpaaGreatDoorW.PrintLast Go.Proofs.YtkmpfmhbkflgpaaGreatDoorW.PrintMore

theorem infoBallot : (Tryz.prog.info? 133).map (fun i => (i.zero, i.size, i.bytes)) = some (some (.agg #[.string ⟨#[]⟩, .int .u16 0]), 2, 24) := by kernel_rfl
set_option maxRecDepth 100000 in
theorem own_one {w : World} {base : Nat} {s : ByteArray} {v : Value} (h : w.ownsRow base 133 2 v (0 + 1) ([] ++ [.string s, .int .u16 0])) :
    ∃ g cap, v = .slice (some ⟨g, 0, none⟩) 1 cap ∧ 1 ≤ cap ∧ base ≤ g ∧ g < w.heap.size ∧ w.cell? ⟨g, 1, none⟩ = some (.int .u16 0) ∧ w.frozen? ⟨g, 1, none⟩ = false := by
  rcases h.2 with ⟨_, h0⟩ | ⟨g, cap, cur, hv, hb, hg, h1, h2, h3, h4⟩
  · omega
  · refine ⟨g, cap, hv, h1, hb, (Array.getElem?_eq_some_iff.1 hg).1, ?_, frozen_of_row w g 1 _ _ hg⟩
    rw [cell_of_row w g 1 _ _ (0, 0) hg]
    have e : (cur.toList.take ((0 + 1) * 2))[1]? = some (.int .u16 0) := by rw [h4]; rfl
    rw [List.getElem?_take, if_pos (by omega)] at e
    simpa using e
set_option maxHeartbeats 4000000 in
theorem cast_one (s : ByteArray) (w : World) : Calls Tryz.prog 52 #[.slice none 0 0, .int .u8 0, .string s] w fun e w' => ∃ ad cap, e = .returned (.tuple #[.slice (some ad) 1 cap, .int .i64 1, .bool true]) ∧ RowKit.Below w.heap.size w w' := by
  go_enter Tryz.func52, Tryz.ntmps52
  go_wp2_with fail
  go_loopw [9, 16] (fun a i wl => a = .int .u16 0 ∧ i = .int .i64 0 ∧ RowKit.Below w.heap.size w wl) (fun _ _ _ => 0)
  case atStart => exact ⟨rfl, rfl, RowKit.Below.refl _ _⟩
  case round =>
    obtain ⟨rfl, rfl, hb⟩ := hrel
    have HB := Lib.hid hb
    clear hb
    go_wp2_with fail
    refine (has_00 _).mono ?_
    rintro e w1 ⟨rfl, hb⟩
    replace HB := Lib.hid (HB.out.trans (hb.mono HB.out.size)); clear hb
    go_wp2_with fail
    refine (clone_nil _).mono ?_
    rintro e w2 ⟨rfl, hb⟩
    replace HB := Lib.hid (HB.out.trans (hb.mono HB.out.size)); clear hb
    go_wp2_with fail
    refine (at_nil s _).mono ?_
    rintro e w3 ⟨rfl, hb⟩
    replace HB := Lib.hid (HB.out.trans (hb.mono HB.out.size)); clear hb
    go_wp2_with (first | ((with_reducible refine gate_builtin (b := .append) (xs := #[.tmp 38, .tmp 41]) rfl ?_); at_builtin; refine print_append_cells (w0 := w) w.heap.size rfl (.tmp 38) (.tmp 41) 57 133 (.agg #[.string ⟨#[]⟩, .int .u16 0]) 2 24 rfl Tryz.underlying57 infoBallot rfl (by decide) (by decide) (.slice none 0 0) 0 [] [.string s, .int .u16 0] rfl rfl rfl (by intro u hu; simp at hu; rcases hu with rfl | rfl <;> rfl) (World.ownsRow_nil _ _ _ _) HB.out HB.out.size (by decide) ?_; intro v1 w4 hown hb4 hg4 hat; obtain ⟨g, cap, rfl, hcap, hbg, hgl, hc, hf⟩ := own_one hown; clear hown hg4 hat; have HB4 := Lib.hid hb4; clear hb4 HB))
    have hcap' : (0 : Int) < (cap : Int) := by omega
    refine (with_00 _).mono ?_
    rintro e w5 ⟨rfl, hb⟩
    replace HB4 := Lib.hid (HB4.out.trans (hb.mono HB4.out.size))
    replace hc := (hb.cell (p := ⟨g, 1, none⟩) hgl).trans hc
    have hf5 : w5.frozen? ⟨g, 1, none⟩ = false := by
      have := hb.block g hgl
      first | exact (World.frozen?_of_block this).trans hf | (unfold World.frozen? at hf ⊢; rw [this]; exact hf)
    clear hb hf
    go_wp2_with fail
    refine (size_1 _).mono ?_
    rintro e w6 ⟨rfl, hb⟩
    have hB5 := HB4.out.setCell (p := ⟨g, 1, none⟩) hbg (.int .u16 1)
    have HB6 := Lib.hid (hB5.trans (hb.mono hB5.size))
    clear hb hB5
    go_wp2_with fail
    go_ret3
    exact ⟨_, _, rfl, HB6.out⟩
end Go.Proofs.YtkmpfmhbkflgpaaGreatDoor.Pr

/- 'works' answers true. Printed by genwork3.py. -/
set_option linter.unusedVariables false
set_option linter.unusedSimpArgs false
namespace Go.Proofs.YtkmpfmhbkflgpaaGreatDoor.Pr
open Go.RowKit Go.Proofs.YtkmpfmhbkflgpaaGreatDoorW.PrintWords Go.Proofs.YtkmpfmhbkflgpaaGreatDoorW.PrintLast Go.Proofs.YtkmpfmhbkflgpaaGreatDoorW.PrintMore

theorem results_cell_row4 {P : Program} {fn : Func} {p u u2 u3 u4 : Tmp} {ty : TypeId} (h : fn.results = #[.cell p ty, .tmp u, .tmp u2, .tmp u3, .tmp u4]) (tmps : Array Value) (w : World) (g : Nat) (t : TypeId) (cs : Array Value) (fr : Nat × Nat) (d : TypeDesc)
    (hp : tmps.getD p undef = .pointer (some ⟨g, 0, none⟩)) (hg : w.heap[g]? = some (.cells cs t fr))
    (hu : P.underlying ty = some d) (hd : (match d with | .struct _ | .array _ _ => true | _ => false) = true) (hi : (P.info? ty).map (·.size) = some cs.size) :
    (results fn tmps).run P w = .ok (.tuple #[.agg cs, tmps.getD u undef, tmps.getD u2 undef, tmps.getD u3 undef, tmps.getD u4 undef]) w := by
  have hp' : tmps[p]?.getD undef = .pointer (some ⟨g, 0, none⟩) := by simpa using hp
  simp [results, h, hp', asAddr, run_loadVar_row w g t ty cs fr d hg hu hd hi]
set_option maxHeartbeats 8000000 in
set_option maxRecDepth 100000 in
theorem take_one (w : World) : Calls Tryz.prog 18 #[.agg #[.bool false, .bool false, .bool false, .slice none 0 0, .slice none 0 0], .int .u16 1, .int .u8 0, .int .i64 3, .int .u8 0, .string ⟨#[120]⟩] w fun e w' => ∃ ad cap ad2, e = .returned (.tuple #[.agg #[.bool false, .bool true, .bool true, .slice none 0 0, .slice (some ad) 1 cap], .slice (some ad2) 1 1, .string ⟨#[120]⟩, .bool true, .int .i64 0]) ∧ RowKit.Below w.heap.size w w' := by
  go_enter Tryz.func18, Tryz.ntmps18
  have HC := Lib.hid (show CaseAt ((w.alloc (.cells #[.bool false, .bool false, .bool false, .slice none 0 0, .slice none 0 0] 59)).alloc (.cells #[.bool false, .bool false, .bool false, .slice none 0 0, .slice none 0 0] 59)) w.heap.size false false false (.slice none 0 0) from (Below.heap_alloc _ _ _ (by simp)).trans (heap_alloc_new w _))
  have HR := Lib.hid (show CaseAt ((w.alloc (.cells #[.bool false, .bool false, .bool false, .slice none 0 0, .slice none 0 0] 59)).alloc (.cells #[.bool false, .bool false, .bool false, .slice none 0 0, .slice none 0 0] 59)) (w.heap.size + 1) false false false (.slice none 0 0) from by
    have := heap_alloc_new (w.alloc (.cells #[.bool false, .bool false, .bool false, .slice none 0 0, .slice none 0 0] 59)) (.cells #[.bool false, .bool false, .bool false, .slice none 0 0, .slice none 0 0] 59)
    have hz : (w.alloc (.cells #[.bool false, .bool false, .bool false, .slice none 0 0, .slice none 0 0] 59)).heap.size = w.heap.size + 1 := by simp
    rw [hz] at this
    exact this)
  have HB := Lib.hid (((RowKit.Below.refl w.heap.size w).alloc (Nat.le_refl _) (.cells #[.bool false, .bool false, .bool false, .slice none 0 0, .slice none 0 0] 59)).alloc (by simp) (.cells #[.bool false, .bool false, .bool false, .slice none 0 0, .slice none 0 0] 59))
  go_wp2_with fail
  generalize ((w.alloc (.cells #[.bool false, .bool false, .bool false, .slice none 0 0, .slice none 0 0] 59)).alloc (.cells #[.bool false, .bool false, .bool false, .slice none 0 0, .slice none 0 0] 59)) = W at HC HR HB ⊢
  refine (size_1 _).mono ?_
  rintro e w1 ⟨rfl, hb⟩
  replace HB := Lib.hid (HB.out.trans (hb.mono HB.out.size)); replace HC := Lib.hid (HC.out.after hb); replace HR := Lib.hid (HR.out.after hb); clear hb
  go_wp2_with fail
  refine (has_10 _).mono ?_
  rintro e w2 ⟨rfl, hb⟩
  replace HB := Lib.hid (HB.out.trans (hb.mono HB.out.size)); replace HC := Lib.hid (HC.out.after hb); replace HR := Lib.hid (HR.out.after hb); clear hb
  go_wp2_with fail
  refine (has_10 _).mono ?_
  rintro e w3 ⟨rfl, hb⟩
  replace HB := Lib.hid (HB.out.trans (hb.mono HB.out.size)); replace HC := Lib.hid (HC.out.after hb); replace HR := Lib.hid (HR.out.after hb); clear hb
  obtain ⟨c0, c1, c2, c3, c4⟩ := HC.out.cells
  go_wp2_with fail
  clear c0 c1 c2 c3 c4
  refine (own_nil _).mono ?_
  rintro e w4 ⟨rfl, hb⟩
  replace HB := Lib.hid (HB.out.trans (hb.mono HB.out.size)); replace HC := Lib.hid (HC.out.after hb); replace HR := Lib.hid (HR.out.after hb); clear hb
  have HD := Lib.hid (show CaseAt (w4.alloc (.cells #[.bool false, .bool false, .bool false, .slice none 0 0, .slice none 0 0] 59)) w4.heap.size false false false (.slice none 0 0) from heap_alloc_new w4 _)
  have hdl : w.heap.size + 1 < w4.heap.size := HR.out.lt
  replace HB := Lib.hid (HB.out.alloc HB.out.size (.cells #[.bool false, .bool false, .bool false, .slice none 0 0, .slice none 0 0] 59)); replace HC := Lib.hid (HC.out.after ((RowKit.Below.refl _ _).alloc (Nat.le_refl _) (.cells #[.bool false, .bool false, .bool false, .slice none 0 0, .slice none 0 0] 59))); replace HR := Lib.hid (HR.out.after ((RowKit.Below.refl _ _).alloc (Nat.le_refl _) (.cells #[.bool false, .bool false, .bool false, .slice none 0 0, .slice none 0 0] 59)))
  go_wp2_with fail
  generalize w4.alloc (.cells #[.bool false, .bool false, .bool false, .slice none 0 0, .slice none 0 0] 59) = W2 at HC HR HD HB ⊢
  generalize w4.heap.size = d at HD hdl ⊢
  refine (echoes_1 _).mono ?_
  rintro e w5 ⟨rfl, hb⟩
  replace HB := Lib.hid (HB.out.trans (hb.mono HB.out.size)); replace HC := Lib.hid (HC.out.after hb); replace HR := Lib.hid (HR.out.after hb); replace HD := Lib.hid (HD.out.after hb); clear hb
  go_wp2_with fail
  refine (readies_1 _).mono ?_
  rintro e w6 ⟨rfl, hb⟩
  replace HB := Lib.hid (HB.out.trans (hb.mono HB.out.size)); replace HC := Lib.hid (HC.out.after hb); replace HR := Lib.hid (HR.out.after hb); replace HD := Lib.hid (HD.out.after hb); clear hb
  obtain ⟨c0, c1, c2, c3, c4⟩ := HD.out.cells
  go_wp2_with fail
  clear c0 c1 c2 c3 c4
  refine (cast_one _ _).mono ?_
  rintro e w7 ⟨ad, cap, rfl, hb⟩
  replace HB := Lib.hid (HB.out.trans (hb.mono HB.out.size)); replace HC := Lib.hid (HC.out.after hb); replace HR := Lib.hid (HR.out.after hb); replace HD := Lib.hid (HD.out.after hb); clear hb
  have f4 := HD.out.frozen 4
  obtain ⟨c0, c1, c2, c3, c4⟩ := HD.out.cells
  have HD2 := Lib.hid (HD.out.set.2.2 (.slice (some ad) 1 cap))
  have HB2 := Lib.hid (HB.out.setCell (p := ⟨d, 4, none⟩) (show w.heap.size ≤ d by omega) (.slice (some ad) 1 cap))
  have HR2 := Lib.hid (show CaseAt (w7.setCell ⟨d, 4, none⟩ (.slice (some ad) 1 cap)) (w.heap.size + 1) false false false (.slice none 0 0) from (Below.heap_setCell _ _ _ _ (show w.heap.size + 1 ≠ d by omega)).trans HR.out.row)
  go_wp2_with fail
  clear HD HB HR HC f4 c0 c1 c2 c3 c4
  generalize w7.setCell ⟨d, 4, none⟩ (.slice (some ad) 1 cap) = W3 at HD2 HB2 HR2 ⊢
  have hdB : w.heap.size + 2 ≤ d := by omega
  refine (ready_one d _ _ W3 HD2.out (w.heap.size + 2) hdB).mono ?_
  rintro e w20 ⟨ad2, rfl, hd, hb⟩
  have HD := Lib.hid hd
  have HB := Lib.hid (HB2.out.trans (hb.mono (by omega)))
  have HR := Lib.hid (show CaseAt w20 (w.heap.size + 1) false false false (.slice none 0 0) from (hb.block _ (by omega)).trans HR2.out.row)
  clear hd hb HD2 HB2 HR2
  obtain ⟨c0, c1, c2, c3, c4⟩ := HD.out.cells
  have f2 := HD.out.frozen 2
  go_wp2_with fail
  refine (enough_1 _).mono ?_
  rintro e w21 ⟨rfl, hb⟩
  have HD5 := Lib.hid (HD.out.after hb); have HR5 := Lib.hid (HR.out.after hb); have HB5 := Lib.hid (HB.out.trans (hb.mono HB.out.size))
  clear hb c0 c1 c2 c3 c4 f2 HD HR HB
  have f2 := HD5.out.frozen 2
  have HD6 := Lib.hid HD5.out.set.2.1
  have HB6 := Lib.hid (HB5.out.setCell (p := ⟨d, 2, none⟩) (show w.heap.size ≤ d by omega) (.bool true))
  have HR6 := Lib.hid (show CaseAt (w21.setCell ⟨d, 2, none⟩ (.bool true)) (w.heap.size + 1) false false false (.slice none 0 0) from (Below.heap_setCell _ _ _ _ (show w.heap.size + 1 ≠ d by omega)).trans HR5.out.row)
  obtain ⟨c0, c1, c2, c3, c4⟩ := HD6.out.cells
  obtain ⟨e0, e1, e2, e3, e4⟩ := HR6.out.cells
  obtain ⟨b0, b1, b2, b3, b4⟩ := HD5.out.cells
  have g0 := HR6.out.frozen 0; have g1 := HR6.out.frozen 1; have g2 := HR6.out.frozen 2; have g3 := HR6.out.frozen 3; have g4 := HR6.out.frozen 4
  go_wp2_with fail
  have hfin := (show (_ : World).heap[w.heap.size + 1]? = some (.cells #[.bool false, .bool true, .bool true, .slice none 0 0, .slice (some ad) 1 cap] 59 (0, 0)) from heap_setCell_same _ _ 4 _ _ (.slice (some ad) 1 cap) (heap_setCell_same _ _ 3 _ _ (.slice none 0 0) (heap_setCell_same _ _ 2 _ _ (.bool true) (heap_setCell_same _ _ 1 _ _ (.bool true) (heap_setCell_same _ _ 0 _ _ (.bool false) HR6.out.row)))))
  refine bodyPost_ret (results_cell_row4 rfl _ _ _ _ _ _ _ rfl hfin Tryz.underlying59 rfl caseInfo) rfl ?_
  have hle : w.heap.size ≤ w.heap.size + 1 := Nat.le_succ _
  exact ⟨_, _, _, rfl, ((((HB6.out.setCell (p := ⟨w.heap.size + 1, 0, none⟩) hle _).setCell (p := ⟨w.heap.size + 1, 1, none⟩) hle _).setCell (p := ⟨w.heap.size + 1, 2, none⟩) hle _).setCell (p := ⟨w.heap.size + 1, 3, none⟩) hle _).setCell (p := ⟨w.heap.size + 1, 4, none⟩) hle _⟩
set_option maxHeartbeats 4000000 in
set_option maxRecDepth 100000 in
theorem works_any (w : World) : Calls Tryz.prog 4 #[] w fun e w' => e = .returned (.bool true) ∧ RowKit.Below w.heap.size w w' := by
  go_enter Tryz.func4, Tryz.ntmps4
  go_wp2_with fail
  refine (take_one _).mono ?_
  rintro e w1 ⟨ad, cap, ad2, rfl, hb⟩
  have HB := Lib.hid hb
  clear hb
  have HB2 := Lib.hid (HB.out.alloc HB.out.size (.cells #[.bool false, .bool true, .bool true, .slice none 0 0, .slice (some ad) 1 cap] 59))
  go_wp2_with fail
  refine (faulty_4 _).mono ?_
  rintro e w2 ⟨rfl, hb⟩
  have HB3 := Lib.hid (HB2.out.trans (hb.mono HB2.out.size))
  clear hb
  go_wp2_with fail
  go_ret
  exact ⟨rfl, HB3.out⟩
end Go.Proofs.YtkmpfmhbkflgpaaGreatDoor.Pr
