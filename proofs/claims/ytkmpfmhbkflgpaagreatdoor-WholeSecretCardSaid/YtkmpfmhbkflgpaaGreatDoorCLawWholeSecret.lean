import Derived.Test.YtkmpfmhbkflgpaaGreatDoorRows
import Derived.Test.YtkmpfmhbkflgpaaGreatDoorTie
import Derived.Test.YtkmpfmhbkflgpaaGreatDoorCards
import Derived.Test.YtkmpfmhbkflgpaaGreatDoorCLaid
import Derived.Test.YtkmpfmhbkflgpaaGreatDoorCZSec
import Derived.Test.YtkmpfmhbkflgpaaGreatDoorCKeys
import Derived.WalkKit
import Derived.ProofKit
import Derived.OpenShut
import Derived.ShutString
import Derived.ChangeOld
import Derived.Below
import Derived.SizedLaws
import Derived.LaidMore
import Derived.Stop.Joined
import Derived.SevenTiedAt
/- The row WholeSecret, printed by wip/rowd.py: the arguments opened, the walk, nothing below the heap's old end turned; the card that ties the table to the program's text. -/
namespace Go.Proofs.YtkmpfmhbkflgpaaGreatDoor.wholeSecret
open Go.ChangeShapes Go.WideShapes Go.ChangeAt Go.RowKit
open Go.ChangeMaps (open_string shut_string)
set_option linter.unusedVariables false
theorem own : ownKnob Tryz.prog.godebug = none := by kernel_rfl
theorem laidOut : laidOutB Tryz.prog = true := by kernel_rfl
set_option maxRecDepth 100000 in
theorem lifted (os : Os) (started : os.Started) (H : Type) (enc : TypeId × Value → H) :
    ReturnsInHanded {} Tryz.checked os 3 .any (fun w args => (Rows.wholeSecretSpec.pre enc Tryz.prog Tryz.f3 [] false w args ∧ laidMetH Tryz.prog Laid.tabD w) ∧ sizedMet enc Tryz.prog Tryz.f3 (OpenSpec.ofChange Rows.wholeSecretSpec) false w args)
      (Rows.wholeSecretSpec.post enc Tryz.prog Tryz.f3 false true false false) := by
  refine returnsInHanded_of_change_and (C := Tryz.checked) (X := fun w _ => laidMetH Tryz.prog Laid.tabD w) (fun _ _ _ hh h => h.of_heap hh) own started (by kernel_rfl) Tryz.func3
    (ChangeSpec.witness_shaped (enc := enc) (C := Tryz.checked) (os := os) (X := fun w _ => laidMetH Tryz.prog Laid.tabD w) false (World.doorLaid Tryz.prog 400 os) #[.agg #[.int .u16 0, .int .u16 0], .int .u16 0, .string ByteArray.empty] 8 rfl (World.shaped_of_RefB (by kernel_rfl) (by kernel_rfl)) (by kernel_rfl) (by kernel_rfl) (by kernel_rfl) (Laid.door_met os _)) ?_
  intro W base args ds gs before hval0 hW _ hsz0 hL _
  have hT : TabAt W := Laid.tab_of_laid hL
  have hval : ∀ (j : Nat) t v, Tryz.f3.params[j]? = some t → args[j]? = some v → Value.okWide Tryz.prog W .any base t v := hval0
  have hW' := hW
  obtain ⟨p, q, hA0, hV, rfl, hfz, hnd⟩ := hW
  have hA : DataW.TrodAll enc Tryz.prog W 0 (fun _ => true) true Tryz.f3.params.toList args.toList ds p := hA0
  have hlt : ∀ x ∈ p, x.block < W.heap.size := fun x hx => by simpa using hA.lt x hx
  rw [Tryz.params3] at hA hval
  obtain ⟨v0, vs0, d0, ds0, p0, q0, hargs, rfl, rfl, h0, r0⟩ := trodAll_cons hA
  obtain ⟨v1, vs1, d1, ds1, p1, q1, rfl, rfl, rfl, h1, r1⟩ := trodAll_cons r0
  obtain ⟨v2, vs2, d2, ds2, p2, q2, rfl, rfl, rfl, h2, r2⟩ := trodAll_cons r1
  obtain ⟨rfl, rfl, rfl⟩ := trodAll_nil r2
  obtain rfl : args = #[v0, v1, v2] := by cases args; simp_all
  obtain ⟨rfl, rfl⟩ := trodVars_none hV
  have z0 : ∀ x ∈ p0, x.block < W.heap.size := fun x hx => hlt x (by simp [hx])
  have z1 : ∀ x ∈ p1, x.block < W.heap.size := fun x hx => hlt x (by simp [hx])
  have z2 : ∀ x ∈ p2, x.block < W.heap.size := fun x hx => hlt x (by simp [hx])
  have k0 := h0
  have k1 := h1
  have k2 := h2
  obtain ⟨cs0, rfl, hl0, n0, hf0⟩ := Row.open_array Tryz.underlying24 (hval 0 24 v0 rfl rfl) h0
  have hl0' : cs0.length = 2 := hl0.trans (by kernel_rfl)
  have one0 : Tryz.prog.cellsOf 23 = 1 := by kernel_rfl
  obtain ⟨u0_0, u0_1, rfl⟩ := Row.of2 hl0'
  have e0_0 : ∃ x, DataW.trod enc Tryz.prog W 0 (fun _ => true) true n0 23 [u0_0] = some x := Row.elem_at hf0 one0 0 (by decide)
  obtain ⟨a0_0, g0_0, y0_0⟩ := Row.is_int Tryz.underlying23 e0_0
  obtain rfl := (List.cons.inj g0_0).1
  have e0_1 : ∃ x, DataW.trod enc Tryz.prog W 0 (fun _ => true) true n0 23 [u0_1] = some x := Row.elem_at hf0 one0 1 (by decide)
  obtain ⟨a0_1, g0_1, y0_1⟩ := Row.is_int Tryz.underlying23 e0_1
  obtain rfl := (List.cons.inj g0_1).1
  obtain ⟨a1, rfl, rfl, rfl, y1⟩ := open_int Tryz.underlying22 (hval 1 22 v1 rfl rfl) h1
  obtain ⟨a2, rfl, rfl, rfl, y2⟩ := open_string Tryz.underlying9 (hval 2 9 v2 rfl rfl) h2
  clear hA0 hval0
  obtain ⟨m0, rfl, l0⟩ := Pr.wf16 y0_0
  obtain ⟨m1, rfl, l1⟩ := Pr.wf16 y0_1
  obtain ⟨m2, rfl, l2⟩ := Pr.wf16 y1
  refine (Pr.WholeSecret m0 m1 m2 a2 l0 l1 l2 W hT).mono fun e W' ⟨he, bel⟩ => ?_
  subst he
  exact ⟨_, rfl, _, _, _, [], _, [], hW', trodAll_mk1 (shut_bool Tryz.underlying4 _), (trodAll_cons_mk (Below.trod laidOut (by kernel_rfl) (of_decide_eq_true (by kernel_rfl)) k0 bel z0) (trodAll_cons_mk (Below.trod laidOut (by kernel_rfl) (of_decide_eq_true (by kernel_rfl)) k1 bel z1) (trodAll_cons_mk (Below.trod laidOut (by kernel_rfl) (of_decide_eq_true (by kernel_rfl)) k2 bel z2) trodAll_mk0))), rfl, bel.frame _, fun h => by cases h⟩
theorem over : Rows.WholeSecretSaid :=
  OpenClaim.holds_of_wide 3 Tryz.f3 rfl rfl rfl rfl rfl rfl rfl ⟨rfl, rfl, rfl, rfl, rfl⟩ rfl rfl rfl rfl rfl (by kernel_rfl) Tryz.func3 (by kernel_rfl)
    (of_decide_eq_true (by kernel_rfl)) (by unfold Func.isWrapper; first | (rw [if_pos (by decide +kernel)]; kernel_rfl) | (rw [if_neg (by decide +kernel)]; exact ⟨rfl, rfl⟩))
    (fun os started H enc _ => lifted os started H enc)
theorem card : Rows.WholeSecretCardSaid :=
  Claim7.holds_tied_plain_at .later [] [.data] true (true, "a708bd27f4c624c96aec1c2c7b456b5962d0159389130b3a86aa971e66013b8d") true
    over (fun _ h => by cases h) (by kernel_rfl) (fun _ h => by cases h) wholeSecret_row_tie rfl ⟨rfl, rfl⟩ (by kernel_rfl) rfl
    (fun f fn hf hfn => by
      obtain rfl : f = 3 := Option.some.inj ((show Tryz.prog.funcNamed "chantry/chantrytop.WholeSecret" = some 3 by kernel_rfl).symm.trans hf) |>.symm
      obtain rfl : fn = Tryz.f3 := (Option.some.inj (Tryz.func3.symm.trans hfn)).symm
      exact ⟨by kernel_rfl, fun j t ht => by
        rw [Tryz.params3] at ht
        have hm : t ∈ [24, 22, 9] := by simpa using Array.mem_of_getElem? ht
        have hall : ([24, 22, 9].all fun u => !Tryz.prog.wantsStandIn u) = true := by kernel_rfl
        exact (show Tryz.prog.wantsStandIn t = false by simpa using List.all_eq_true.1 hall t hm)⟩)
    (by kernel_rfl)
#print axioms card
end Go.Proofs.YtkmpfmhbkflgpaaGreatDoor.wholeSecret
namespace Go.Proofs.YtkmpfmhbkflgpaaGreatDoor
/-- The card, under a short name, for the claim. -/
theorem wholeSecret_holds : Rows.WholeSecretCardSaid := wholeSecret.card
end Go.Proofs.YtkmpfmhbkflgpaaGreatDoor
