import Derived.Test.YtecimagjeelgbaaDoorRows
import Derived.Test.YtecimagjeelgbaaDoorTie
import Derived.Test.YtecimagjeelgbaaDoorCards
import Derived.Test.YtecimagjeelgbaaDoorCLaid
import Derived.Test.YtecimagjeelgbaaDoorCLCh15
import Derived.Test.YtecimagjeelgbaaDoorCKeys
import Derived.WalkKit
import Derived.ProofKit
import Derived.OpenShut
import Derived.ShutString
import Derived.ChangeOld
import Derived.Below
import Derived.SizedLaws
import Derived.LaidMore
import Derived.Stop.Joined
import Derived.SevenTiedAt
/- The row PathChain, printed by wip/rowd.py: the arguments opened, the walk, nothing below the heap's old end turned; the card that ties the table to the program's text. -/
namespace Go.Proofs.YtecimagjeelgbaaDoor.pathChain
open Go.ChangeShapes Go.WideShapes Go.ChangeAt Go.RowKit
open Go.ChangeMaps (open_string shut_string)
set_option linter.unusedVariables false
theorem own : ownKnob Tryd.prog.godebug = none := by kernel_rfl
theorem laidOut : laidOutB Tryd.prog = true := by kernel_rfl
set_option maxRecDepth 100000 in
theorem lifted (os : Os) (started : os.Started) (H : Type) (enc : TypeId × Value → H) :
    ReturnsInHanded {} Tryd.checked os 5 .any (fun w args => (Rows.pathChainSpec.pre enc Tryd.prog Tryd.f5 [] false w args ∧ laidMetH Tryd.prog Laid.tabD w) ∧ sizedMet enc Tryd.prog Tryd.f5 (OpenSpec.ofChange Rows.pathChainSpec) false w args)
      (Rows.pathChainSpec.post enc Tryd.prog Tryd.f5 false true false false) := by
  refine returnsInHanded_of_change_and (C := Tryd.checked) (X := fun w _ => laidMetH Tryd.prog Laid.tabD w) (fun _ _ _ hh h => h.of_heap hh) own started (by kernel_rfl) Tryd.func5
    (ChangeSpec.witness_shaped (enc := enc) (C := Tryd.checked) (os := os) (X := fun w _ => laidMetH Tryd.prog Laid.tabD w) false (World.doorLaid Tryd.prog 400 os) #[.agg #[.int .u16 0, .int .u16 0, .int .u16 0, .int .u16 0]] 8 rfl (World.shaped_of_RefB (by kernel_rfl) (by kernel_rfl)) (by kernel_rfl) (by kernel_rfl) (by kernel_rfl) (Laid.door_met os _)) ?_
  intro W base args ds gs before hval0 hW _ hsz0 hL _
  have hT : TabAt W := Laid.tab_of_laid hL
  have hval : ∀ (j : Nat) t v, Tryd.f5.params[j]? = some t → args[j]? = some v → Value.okWide Tryd.prog W .any base t v := hval0
  have hW' := hW
  obtain ⟨p, q, hA0, hV, rfl, hfz, hnd⟩ := hW
  have hA : DataW.TrodAll enc Tryd.prog W 0 (fun _ => true) true Tryd.f5.params.toList args.toList ds p := hA0
  have hlt : ∀ x ∈ p, x.block < W.heap.size := fun x hx => by simpa using hA.lt x hx
  rw [Tryd.params5] at hA hval
  obtain ⟨v0, vs0, d0, ds0, p0, q0, hargs, rfl, rfl, h0, r0⟩ := trodAll_cons hA
  obtain ⟨rfl, rfl, rfl⟩ := trodAll_nil r0
  obtain rfl : args = #[v0] := by cases args; simp_all
  obtain ⟨rfl, rfl⟩ := trodVars_none hV
  have z0 : ∀ x ∈ p0, x.block < W.heap.size := fun x hx => hlt x (by simp [hx])
  have k0 := h0
  obtain ⟨cs0, rfl, hl0, n0, hf0⟩ := Row.open_array Tryd.underlying49 (hval 0 49 v0 rfl rfl) h0
  have hl0' : cs0.length = 4 := hl0.trans (by kernel_rfl)
  have one0 : Tryd.prog.cellsOf 23 = 1 := by kernel_rfl
  obtain ⟨u0_0, u0_1, u0_2, u0_3, rfl⟩ := Row.of4 hl0'
  have e0_0 : ∃ x, DataW.trod enc Tryd.prog W 0 (fun _ => true) true n0 23 [u0_0] = some x := Row.elem_at hf0 one0 0 (by decide)
  obtain ⟨a0_0, g0_0, y0_0⟩ := Row.is_int Tryd.underlying23 e0_0
  obtain rfl := (List.cons.inj g0_0).1
  have e0_1 : ∃ x, DataW.trod enc Tryd.prog W 0 (fun _ => true) true n0 23 [u0_1] = some x := Row.elem_at hf0 one0 1 (by decide)
  obtain ⟨a0_1, g0_1, y0_1⟩ := Row.is_int Tryd.underlying23 e0_1
  obtain rfl := (List.cons.inj g0_1).1
  have e0_2 : ∃ x, DataW.trod enc Tryd.prog W 0 (fun _ => true) true n0 23 [u0_2] = some x := Row.elem_at hf0 one0 2 (by decide)
  obtain ⟨a0_2, g0_2, y0_2⟩ := Row.is_int Tryd.underlying23 e0_2
  obtain rfl := (List.cons.inj g0_2).1
  have e0_3 : ∃ x, DataW.trod enc Tryd.prog W 0 (fun _ => true) true n0 23 [u0_3] = some x := Row.elem_at hf0 one0 3 (by decide)
  obtain ⟨a0_3, g0_3, y0_3⟩ := Row.is_int Tryd.underlying23 e0_3
  obtain rfl := (List.cons.inj g0_3).1
  clear hA0 hval0
  obtain ⟨m0, rfl, l0⟩ := Pr.wf16 y0_0
  obtain ⟨m1, rfl, l1⟩ := Pr.wf16 y0_1
  obtain ⟨m2, rfl, l2⟩ := Pr.wf16 y0_2
  obtain ⟨m3, rfl, l3⟩ := Pr.wf16 y0_3
  refine (Pr.PathChain (fun | 0 => m0 | 1 => m1 | 2 => m2 | _ => m3) (fun j => by match j with | 0 => exact l0 | 1 => exact l1 | 2 => exact l2 | (n + 3) => exact l3) W hT).mono fun e W' ⟨he, bel⟩ => ?_
  subst he
  exact ⟨_, rfl, _, _, _, [], _, [], hW', trodAll_mk1 (shut_bool Tryd.underlying4 _), (trodAll_cons_mk (Below.trod laidOut (by kernel_rfl) (of_decide_eq_true (by kernel_rfl)) k0 bel z0) trodAll_mk0), rfl, bel.frame _, fun h => by cases h⟩
theorem over : Rows.PathChainSaid :=
  OpenClaim.holds_of_wide 5 Tryd.f5 rfl rfl rfl rfl rfl rfl rfl ⟨rfl, rfl, rfl, rfl, rfl⟩ rfl rfl rfl rfl rfl (by kernel_rfl) Tryd.func5 (by kernel_rfl)
    (of_decide_eq_true (by kernel_rfl)) (by unfold Func.isWrapper; first | (rw [if_pos (by decide +kernel)]; kernel_rfl) | (rw [if_neg (by decide +kernel)]; exact ⟨rfl, rfl⟩))
    (fun os started H enc _ => lifted os started H enc)
theorem card : Rows.PathChainCardSaid :=
  Claim7.holds_tied_plain_at .later [] [.data] true (true, "fd9d6802148f025fa3f445d9597adca94bbfbffa88d36e872790970300ae9a21") true
    over (fun _ h => by cases h) (by kernel_rfl) (fun _ h => by cases h) pathChain_row_tie rfl ⟨rfl, rfl⟩ (by kernel_rfl) rfl
    (fun f fn hf hfn => by
      obtain rfl : f = 5 := Option.some.inj ((show Tryd.prog.funcNamed "chantry/chantrylaw15.PathChain" = some 5 by kernel_rfl).symm.trans hf) |>.symm
      obtain rfl : fn = Tryd.f5 := (Option.some.inj (Tryd.func5.symm.trans hfn)).symm
      exact ⟨by kernel_rfl, fun j t ht => by
        rw [Tryd.params5] at ht
        have hm : t ∈ [49] := by simpa using Array.mem_of_getElem? ht
        have hall : ([49].all fun u => !Tryd.prog.wantsStandIn u) = true := by kernel_rfl
        exact (show Tryd.prog.wantsStandIn t = false by simpa using List.all_eq_true.1 hall t hm)⟩)
    (by kernel_rfl)
#print axioms card
end Go.Proofs.YtecimagjeelgbaaDoor.pathChain
namespace Go.Proofs.YtecimagjeelgbaaDoor
/-- The card, under a short name, for the claim. -/
theorem pathChain_holds : Rows.PathChainCardSaid := pathChain.card
end Go.Proofs.YtecimagjeelgbaaDoor
