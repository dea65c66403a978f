/- The row EpochMakes, printed by wip/row.py: the arguments opened, the walk, nothing below the heap's old end turned. -/
import Derived.Test.YtmdpkooiehlbcaaRows
import Derived.Test.YtmdpkooiehlbcaaPureEpochMakes
import Derived.Test.YtmdpkooiehlbcaaRowAgg
import Derived.WalkKit
import Derived.ProofKit
import Derived.OpenShut
import Derived.ShutString
import Derived.ChangeOld
import Derived.Below
import Derived.SizedLaws
namespace Go.Proofs.Ytmdpkooiehlbcaa.epochMakes
open Go.ChangeShapes Go.WideShapes Go.ChangeAt Go.RowKit
open Go.ChangeMaps (open_string shut_string)
set_option linter.unusedVariables false
theorem own : ownKnob Try.prog.godebug = none := by kernel_rfl
theorem laidOut : laidOutB Try.prog = true := by kernel_rfl
set_option maxRecDepth 100000 in
theorem lifted (os : Os) (started : os.Started) (H : Type) (enc : TypeId × Value → H) :
    ReturnsInHanded {} Try.checked os 3 .any (Rows.epochMakesSpec.pre6 enc Try.prog Try.f3 Rows.epochMakesRow.domain false) (Rows.epochMakesSpec.post enc Try.prog Try.f3 false true false false) := by
  refine returnsInHanded_of_change_sized (C := Try.checked) own started (by kernel_rfl) Try.func3
    (ChangeSpec.witness6 (enc := enc) (C := Try.checked) false ⟨#[], #[.int .i64 0, .agg #[.int .i64 0, .string ByteArray.empty], .string ByteArray.empty], []⟩ 8 (by kernel_rfl) (by kernel_rfl) (by kernel_rfl) (by kernel_rfl)) ?_
  intro W base args ds gs before hval0 hW hcnd hsz0 _
  have hval : ∀ (j : Nat) t v, Try.f3.params[j]? = some t → args[j]? = some v → Value.okWide Try.prog W .any base t v := hval0
  have hsz : (DataW.weightsEach Try.prog (Try.f3.params.toList ++ Rows.epochMakesSpec.plain.varTypes Try.prog) (ds ++ gs)).all (· ≤ reachBytes) = true := hsz0
  have hW' := hW
  obtain ⟨p, q, hA0, hV, rfl, hfz, hnd⟩ := hW
  have hA : DataW.TrodAll enc Try.prog W 0 (fun _ => true) true Try.f3.params.toList args.toList ds p := hA0
  have hlt : ∀ x ∈ p, x.block < W.heap.size := fun x hx => by simpa using hA.lt x hx
  rw [Try.params3] at hA hval hsz
  obtain ⟨v0, vs0, d0, ds0, p0, q0, hargs, rfl, rfl, h0, r0⟩ := trodAll_cons hA
  obtain ⟨v1, vs1, d1, ds1, p1, q1, rfl, rfl, rfl, h1, r1⟩ := trodAll_cons r0
  obtain ⟨v2, vs2, d2, ds2, p2, q2, rfl, rfl, rfl, h2, r2⟩ := trodAll_cons r1
  obtain ⟨rfl, rfl, rfl⟩ := trodAll_nil r2
  obtain rfl : args = #[v0, v1, v2] := by cases args; simp_all
  obtain ⟨rfl, rfl⟩ := trodVars_none hV
  have z0 : ∀ x ∈ p0, x.block < W.heap.size := fun x hx => hlt x (by simp [hx])
  have z1 : ∀ x ∈ p1, x.block < W.heap.size := fun x hx => hlt x (by simp [hx])
  have z2 : ∀ x ∈ p2, x.block < W.heap.size := fun x hx => hlt x (by simp [hx])
  have k0 := h0
  have k1 := h1
  have k2 := h2
  obtain ⟨a0, rfl, rfl, rfl, y0⟩ := open_int Try.underlying3 (hval 0 3 v0 rfl rfl) h0
  obtain ⟨cs1, rfl, hl1, n1, hf1⟩ := Row.open_struct Try.underlying24 (hval 1 24 v1 rfl rfl) h1
  have hl1' : cs1.length = 2 := hl1.trans (by kernel_rfl)
  obtain ⟨u1_0, u1_1, rfl⟩ := Row.of2 hl1'
  have e1_0 : ∃ x, DataW.trod enc Try.prog W 0 (fun _ => true) true n1 3 [u1_0] = some x := Row.field_at hf1 (List.mem_cons_self) (by kernel_rfl)
  obtain ⟨a1_0, g1_0, y1_0⟩ := Row.is_int Try.underlying3 e1_0
  obtain rfl := (List.cons.inj g1_0).1
  have e1_1 : ∃ x, DataW.trod enc Try.prog W 0 (fun _ => true) true n1 22 [u1_1] = some x := Row.field_at hf1 (List.mem_cons_of_mem _ (List.mem_cons_self)) (by kernel_rfl)
  obtain ⟨a1_1, g1_1, y1_1⟩ := Row.is_string Try.underlying22 e1_1
  obtain rfl := (List.cons.inj g1_1).1
  obtain ⟨a2, rfl, rfl, rfl, y2⟩ := open_string Try.underlying9 (hval 2 9 v2 rfl rfl) h2
  clear hA0 hval0 hsz0
  obtain ⟨k, hk⟩ := Pure.EpochMakes a0 a1_0 a1_1 a2
  refine (Pr.chantrylaw16_EpochMakes.calls k a0 a1_0 a1_1 a2 true W rfl hk).mono fun e W' ⟨he, bel⟩ => ?_
  subst he
  exact ⟨_, rfl, _, _, _, [], _, [], hW', trodAll_mk1 (shut_bool Try.underlying4 _), (trodAll_cons_mk (Below.trod laidOut (by kernel_rfl) (of_decide_eq_true (by kernel_rfl)) k0 bel z0) (trodAll_cons_mk (Below.trod laidOut (by kernel_rfl) (of_decide_eq_true (by kernel_rfl)) k1 bel z1) (trodAll_cons_mk (Below.trod laidOut (by kernel_rfl) (of_decide_eq_true (by kernel_rfl)) k2 bel z2) trodAll_mk0))), rfl, bel.frame _, fun h => by cases h⟩
theorem over : Rows.epochMakesRow.holds Try.pinned (OpenSpec.ofChange Rows.epochMakesSpec) :=
  OpenClaim.holds_of_wide 3 Try.f3 rfl rfl rfl rfl rfl rfl rfl ⟨rfl, rfl, rfl, rfl, rfl⟩ rfl rfl rfl rfl rfl (by kernel_rfl) Try.func3 (by kernel_rfl)
    (of_decide_eq_true (by kernel_rfl)) (by unfold Func.isWrapper; first | (rw [if_pos (by decide +kernel)]; kernel_rfl) | (rw [if_neg (by decide +kernel)]; exact ⟨rfl, rfl⟩))
    (fun os started H enc _ => lifted os started H enc)
theorem proved : Rows.EpochMakesSaid := over
#print axioms proved
end Go.Proofs.Ytmdpkooiehlbcaa.epochMakes
namespace Go.Proofs.Ytmdpkooiehlbcaa
/-- The row, under a short name, for the claim. -/
theorem epochMakes_holds : Rows.EpochMakesSaid := epochMakes.proved
end Go.Proofs.Ytmdpkooiehlbcaa
