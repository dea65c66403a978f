import Derived.Test.YtkmpfmhbkflgpaaGreatDoorRows
import Derived.Test.YtkmpfmhbkflgpaaGreatDoorCFin
import Derived.ProofKit
import Derived.LaidMore
import Derived.OpenShut
import Derived.Stop.Joined
/- What the row's condition on math/bits' table gives the walks; the door's own heap meets it. -/
set_option linter.unusedVariables false
namespace Go.Proofs.YtkmpfmhbkflgpaaGreatDoor.Laid
open Go.ChangeShapes Go.WideShapes Go.ChangeAt Go.WideMaps Go.WideElems Go.RowKit

def tabD : List (String × DataW Unit) := [("math/bits.deBruijn32tab", Rows.laid_math_bits_deBruijn32tab)]
theorem gTab : Tryz.prog.globalNamed "math/bits.deBruijn32tab" = some 0 := by kernel_rfl
theorem tTab : (Tryz.prog.globals[0]?).map (·.type) = some 152 := by kernel_rfl
theorem c5 : Tryz.prog.cellsOf 5 = 1 := by kernel_rfl
theorem door_met (os : Os) (args : Array Value) : laidMetH Tryz.prog tabD ((World.doorLaid Tryz.prog 400 os).forCall (fun _ _ => 0) ⟨#[], args, []⟩).memory :=
  laidMetH_of_parts3 (fuel := 8) (laidMet_of_run' 8 (by kernel_rfl) (by kernel_rfl)) (by kernel_rfl) (by kernel_rfl)
set_option maxRecDepth 100000 in
theorem tab_of_laid {W : World} (h : laidMetH Tryz.prog tabD W) : TabAt W := by
  rw [MakeChecks.laidMetH_plain _ _ _ (by kernel_rfl)] at h
  obtain ⟨ps, ⟨g0, t0, cs0, f0, p0, q0, hg0, ht0, hv0, hd0, _, _⟩, _, _⟩ := h
  obtain rfl := Option.some.inj (gTab.symm.trans hg0)
  obtain rfl := Option.some.inj (tTab.symm.trans ht0)
  obtain ⟨xs, m1, rfl, hx1, hlen, hn3, hel⟩ := DataW.trod_array Tryz.underlying152 hd0
  have hx2 : Rows.laid_math_bits_deBruijn32tab = DataW.agg (xs.map (·.1)) := (Prod.mk.inj hx1).1
  have hx3 : xs.map (·.1) = (tabL.map fun n : Nat => (DataW.lit (.int .u8 (n : Int)) : DataW Unit)) := by
    unfold Rows.laid_math_bits_deBruijn32tab at hx2
    injection hx2 with hx2
    exact hx2.symm
  intro i hi
  have hl : i < xs.length := by omega
  have h0 := hel i hi
  rw [List.getElem?_eq_getElem hl, c5, Nat.mul_one] at h0
  obtain ⟨k, e1, e2, _⟩ := DataW.trod_int Tryz.underlying5 h0
  have e3 : (xs.map (·.1))[i]? = some (DataW.lit (.int .u8 k)) := by rw [List.getElem?_map, List.getElem?_eq_getElem hl, e2]; rfl
  have hi2 : i < tabL.length := hi
  rw [hx3, List.getElem?_map, List.getElem?_eq_getElem hi2] at e3
  have hk : k = ((tabL.getD i 0 : Nat) : Int) := by
    rw [List.getD_eq_getElem?_getD, List.getElem?_eq_getElem hi2]
    simp at e3
    exact e3.symm
  have hc := World.var?_cell hg0 hv0 i
  rw [hc, ← hk]
  have : (cs0.toList.drop i).take 1 = [Value.int .u8 k] := e1
  have e4 : ((cs0.toList.drop i).take 1)[0]? = some (Value.int .u8 k) := by rw [this]; rfl
  rw [List.getElem?_take_of_lt (by decide), List.getElem?_drop, Nat.add_zero, Array.getElem?_toList] at e4
  exact e4
end Go.Proofs.YtkmpfmhbkflgpaaGreatDoor.Laid
