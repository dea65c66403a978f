/- The row EpochApart, printed by wip/row.py: the arguments opened, the walk, nothing below the heap's old end turned. -/
import Derived.Test.YtmdpkooiehlbcaaRows
import Derived.Test.YtmdpkooiehlbcaaPureEpochApart
import Derived.Test.YtmdpkooiehlbcaaRowAgg
import Derived.WalkKit
import Derived.ProofKit
import Derived.OpenShut
import Derived.ShutString
import Derived.ChangeOld
import Derived.Below
import Derived.SizedLaws
namespace Go.Proofs.Ytmdpkooiehlbcaa.epochApart
open Go.ChangeShapes Go.WideShapes Go.ChangeAt Go.RowKit
open Go.ChangeMaps (open_string shut_string)
set_option linter.unusedVariables false
theorem own : ownKnob Try.prog.godebug = none := by kernel_rfl
theorem laidOut : laidOutB Try.prog = true := by kernel_rfl
set_option maxRecDepth 100000 in
theorem lifted (os : Os) (started : os.Started) (H : Type) (enc : TypeId × Value → H) :
    ReturnsInHanded {} Try.checked os 6 .any (Rows.epochApartSpec.pre6 enc Try.prog Try.f6 Rows.epochApartRow.domain false) (Rows.epochApartSpec.post enc Try.prog Try.f6 false true false false) := by
  refine returnsInHanded_of_change_sized (C := Try.checked) own started (by kernel_rfl) Try.func6
    (ChangeSpec.witness6 (enc := enc) (C := Try.checked) false ⟨#[], #[.agg #[.int .u16 0, .int .u16 0], .agg #[.string ByteArray.empty, .string ByteArray.empty], .agg #[.string ByteArray.empty, .string ByteArray.empty]], []⟩ 8 (by kernel_rfl) (by kernel_rfl) (by kernel_rfl) (by kernel_rfl)) ?_
  intro W base args ds gs before hval0 hW hcnd hsz0 _
  have hval : ∀ (j : Nat) t v, Try.f6.params[j]? = some t → args[j]? = some v → Value.okWide Try.prog W .any base t v := hval0
  have hsz : (DataW.weightsEach Try.prog (Try.f6.params.toList ++ Rows.epochApartSpec.plain.varTypes Try.prog) (ds ++ gs)).all (· ≤ reachBytes) = true := hsz0
  have hW' := hW
  obtain ⟨p, q, hA0, hV, rfl, hfz, hnd⟩ := hW
  have hA : DataW.TrodAll enc Try.prog W 0 (fun _ => true) true Try.f6.params.toList args.toList ds p := hA0
  have hlt : ∀ x ∈ p, x.block < W.heap.size := fun x hx => by simpa using hA.lt x hx
  rw [Try.params6] at hA hval hsz
  obtain ⟨v0, vs0, d0, ds0, p0, q0, hargs, rfl, rfl, h0, r0⟩ := trodAll_cons hA
  obtain ⟨v1, vs1, d1, ds1, p1, q1, rfl, rfl, rfl, h1, r1⟩ := trodAll_cons r0
  obtain ⟨v2, vs2, d2, ds2, p2, q2, rfl, rfl, rfl, h2, r2⟩ := trodAll_cons r1
  obtain ⟨rfl, rfl, rfl⟩ := trodAll_nil r2
  obtain rfl : args = #[v0, v1, v2] := by cases args; simp_all
  obtain ⟨rfl, rfl⟩ := trodVars_none hV
  have z0 : ∀ x ∈ p0, x.block < W.heap.size := fun x hx => hlt x (by simp [hx])
  have z1 : ∀ x ∈ p1, x.block < W.heap.size := fun x hx => hlt x (by simp [hx])
  have z2 : ∀ x ∈ p2, x.block < W.heap.size := fun x hx => hlt x (by simp [hx])
  have k0 := h0
  have k1 := h1
  have k2 := h2
  obtain ⟨cs0, rfl, hl0, n0, hf0⟩ := Row.open_array Try.underlying48 (hval 0 48 v0 rfl rfl) h0
  have hl0' : cs0.length = 2 := hl0.trans (by kernel_rfl)
  have one0 : Try.prog.cellsOf 47 = 1 := by kernel_rfl
  obtain ⟨u0_0, u0_1, rfl⟩ := Row.of2 hl0'
  have e0_0 : ∃ x, DataW.trod enc Try.prog W 0 (fun _ => true) true n0 47 [u0_0] = some x := Row.elem_at hf0 one0 0 (by decide)
  obtain ⟨a0_0, g0_0, y0_0⟩ := Row.is_int Try.underlying47 e0_0
  obtain rfl := (List.cons.inj g0_0).1
  have e0_1 : ∃ x, DataW.trod enc Try.prog W 0 (fun _ => true) true n0 47 [u0_1] = some x := Row.elem_at hf0 one0 1 (by decide)
  obtain ⟨a0_1, g0_1, y0_1⟩ := Row.is_int Try.underlying47 e0_1
  obtain rfl := (List.cons.inj g0_1).1
  obtain ⟨cs1, rfl, hl1, n1, hf1⟩ := Row.open_array Try.underlying49 (hval 1 49 v1 rfl rfl) h1
  have hl1' : cs1.length = 2 := hl1.trans (by kernel_rfl)
  have one1 : Try.prog.cellsOf 22 = 1 := by kernel_rfl
  obtain ⟨u1_0, u1_1, rfl⟩ := Row.of2 hl1'
  have e1_0 : ∃ x, DataW.trod enc Try.prog W 0 (fun _ => true) true n1 22 [u1_0] = some x := Row.elem_at hf1 one1 0 (by decide)
  obtain ⟨a1_0, g1_0, y1_0⟩ := Row.is_string Try.underlying22 e1_0
  obtain rfl := (List.cons.inj g1_0).1
  have e1_1 : ∃ x, DataW.trod enc Try.prog W 0 (fun _ => true) true n1 22 [u1_1] = some x := Row.elem_at hf1 one1 1 (by decide)
  obtain ⟨a1_1, g1_1, y1_1⟩ := Row.is_string Try.underlying22 e1_1
  obtain rfl := (List.cons.inj g1_1).1
  obtain ⟨cs2, rfl, hl2, n2, hf2⟩ := Row.open_array Try.underlying52 (hval 2 52 v2 rfl rfl) h2
  have hl2' : cs2.length = 2 := hl2.trans (by kernel_rfl)
  have one2 : Try.prog.cellsOf 9 = 1 := by kernel_rfl
  obtain ⟨u2_0, u2_1, rfl⟩ := Row.of2 hl2'
  have e2_0 : ∃ x, DataW.trod enc Try.prog W 0 (fun _ => true) true n2 9 [u2_0] = some x := Row.elem_at hf2 one2 0 (by decide)
  obtain ⟨a2_0, g2_0, y2_0⟩ := Row.is_string Try.underlying9 e2_0
  obtain rfl := (List.cons.inj g2_0).1
  have e2_1 : ∃ x, DataW.trod enc Try.prog W 0 (fun _ => true) true n2 9 [u2_1] = some x := Row.elem_at hf2 one2 1 (by decide)
  obtain ⟨a2_1, g2_1, y2_1⟩ := Row.is_string Try.underlying9 e2_1
  obtain rfl := (List.cons.inj g2_1).1
  clear hA0 hval0 hsz0
  refine (Ev16.apart_walk a0_0 a0_1 (Row.wf_u16 y0_0) (Row.wf_u16 y0_1) a1_0 a1_1 a2_0 a2_1 W).mono fun e W' ⟨he, bel⟩ => ?_
  subst he
  exact ⟨_, rfl, _, _, _, [], _, [], hW', trodAll_mk1 (shut_bool Try.underlying4 _), (trodAll_cons_mk (Below.trod laidOut (by kernel_rfl) (of_decide_eq_true (by kernel_rfl)) k0 bel z0) (trodAll_cons_mk (Below.trod laidOut (by kernel_rfl) (of_decide_eq_true (by kernel_rfl)) k1 bel z1) (trodAll_cons_mk (Below.trod laidOut (by kernel_rfl) (of_decide_eq_true (by kernel_rfl)) k2 bel z2) trodAll_mk0))), rfl, bel.frame _, fun h => by cases h⟩
theorem over : Rows.epochApartRow.holds Try.pinned (OpenSpec.ofChange Rows.epochApartSpec) :=
  OpenClaim.holds_of_wide 6 Try.f6 rfl rfl rfl rfl rfl rfl rfl ⟨rfl, rfl, rfl, rfl, rfl⟩ rfl rfl rfl rfl rfl (by kernel_rfl) Try.func6 (by kernel_rfl)
    (of_decide_eq_true (by kernel_rfl)) (by unfold Func.isWrapper; first | (rw [if_pos (by decide +kernel)]; kernel_rfl) | (rw [if_neg (by decide +kernel)]; exact ⟨rfl, rfl⟩))
    (fun os started H enc _ => lifted os started H enc)
theorem proved : Rows.EpochApartSaid := over
#print axioms proved
end Go.Proofs.Ytmdpkooiehlbcaa.epochApart
namespace Go.Proofs.Ytmdpkooiehlbcaa
/-- The row, under a short name, for the claim. -/
theorem epochApart_holds : Rows.EpochApartSaid := epochApart.proved
end Go.Proofs.Ytmdpkooiehlbcaa
