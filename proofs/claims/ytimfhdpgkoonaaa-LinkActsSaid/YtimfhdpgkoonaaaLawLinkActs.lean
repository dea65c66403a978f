/- The row LinkActs, printed by wip/row.py: the arguments opened, the walk, nothing below the heap's old end turned. -/
import Derived.Test.YtimfhdpgkoonaaaRows
import Derived.Test.YtimfhdpgkoonaaaActs
import Derived.Test.YtimfhdpgkoonaaaRowLetters
import Derived.WalkKit
import Derived.ProofKit
import Derived.OpenShut
import Derived.ShutString
import Derived.ChangeOld
import Derived.Below
import Derived.SizedLaws
namespace Go.Proofs.Ytimfhdpgkoonaaa.linkActs
open Go.ChangeShapes Go.WideShapes Go.ChangeAt Go.RowKit
open Go.ChangeMaps (open_string shut_string)
set_option linter.unusedVariables false
theorem own : ownKnob Try.prog.godebug = none := by kernel_rfl
theorem laidOut : laidOutB Try.prog = true := by kernel_rfl
set_option maxRecDepth 100000 in
theorem lifted (os : Os) (started : os.Started) (H : Type) (enc : TypeId × Value → H) :
    ReturnsInHanded {} Try.checked os 4 .any (Rows.linkActsSpec.pre6 enc Try.prog Try.f4 Rows.linkActsRow.domain false) (Rows.linkActsSpec.post enc Try.prog Try.f4 false true false false) := by
  refine returnsInHanded_of_change_sized (C := Try.checked) own started (by kernel_rfl) Try.func4
    (ChangeSpec.witness6 (enc := enc) (C := Try.checked) false ⟨#[], #[.agg #[.string ByteArray.empty, .int .u32 0, .int .u32 0, .int .u64 0], .int .u8 0, .agg #[.int .u8 0, .int .u8 0, .int .u32 0, .slice none 0 0, .string ByteArray.empty]], []⟩ 8 (by kernel_rfl) (by kernel_rfl) (by kernel_rfl) (by kernel_rfl)) ?_
  intro W base args ds gs before hval0 hW hcnd hsz0 _
  have hval : ∀ (j : Nat) t v, Try.f4.params[j]? = some t → args[j]? = some v → Value.okWide Try.prog W .any base t v := hval0
  have hsz : (DataW.weightsEach Try.prog (Try.f4.params.toList ++ Rows.linkActsSpec.plain.varTypes Try.prog) (ds ++ gs)).all (· ≤ reachBytes) = true := hsz0
  have hW' := hW
  obtain ⟨p, q, hA0, hV, rfl, hfz, hnd⟩ := hW
  have hA : DataW.TrodAll enc Try.prog W 0 (fun _ => true) true Try.f4.params.toList args.toList ds p := hA0
  have hlt : ∀ x ∈ p, x.block < W.heap.size := fun x hx => by simpa using hA.lt x hx
  rw [Try.params4] at hA hval hsz
  obtain ⟨v0, vs0, d0, ds0, p0, q0, hargs, rfl, rfl, h0, r0⟩ := trodAll_cons hA
  obtain ⟨v1, vs1, d1, ds1, p1, q1, rfl, rfl, rfl, h1, r1⟩ := trodAll_cons r0
  obtain ⟨v2, vs2, d2, ds2, p2, q2, rfl, rfl, rfl, h2, r2⟩ := trodAll_cons r1
  obtain ⟨rfl, rfl, rfl⟩ := trodAll_nil r2
  obtain rfl : args = #[v0, v1, v2] := by cases args; simp_all
  obtain ⟨rfl, rfl⟩ := trodVars_none hV
  have z0 : ∀ x ∈ p0, x.block < W.heap.size := fun x hx => hlt x (by simp [hx])
  have z1 : ∀ x ∈ p1, x.block < W.heap.size := fun x hx => hlt x (by simp [hx])
  have z2 : ∀ x ∈ p2, x.block < W.heap.size := fun x hx => hlt x (by simp [hx])
  have k0 := h0
  have k1 := h1
  have k2 := h2
  obtain ⟨cs0, rfl, hl0, n0, hf0⟩ := Row.open_struct Try.underlying40 (hval 0 40 v0 rfl rfl) h0
  have hl0' : cs0.length = 4 := hl0.trans (by kernel_rfl)
  obtain ⟨u0_0, u0_1, u0_2, u0_3, rfl⟩ := Row.of4 hl0'
  have e0_0 : ∃ x, DataW.trod enc Try.prog W 0 (fun _ => true) true n0 22 [u0_0] = some x := Row.field_at hf0 (List.mem_cons_self) (by kernel_rfl)
  obtain ⟨a0_0, g0_0, y0_0⟩ := Row.is_string Try.underlying22 e0_0
  obtain rfl := (List.cons.inj g0_0).1
  have e0_1 : ∃ x, DataW.trod enc Try.prog W 0 (fun _ => true) true n0 23 [u0_1] = some x := Row.field_at hf0 (List.mem_cons_of_mem _ (List.mem_cons_self)) (by kernel_rfl)
  obtain ⟨a0_1, g0_1, y0_1⟩ := Row.is_int Try.underlying23 e0_1
  obtain rfl := (List.cons.inj g0_1).1
  have e0_2 : ∃ x, DataW.trod enc Try.prog W 0 (fun _ => true) true n0 23 [u0_2] = some x := Row.field_at hf0 (List.mem_cons_of_mem _ (List.mem_cons_of_mem _ (List.mem_cons_self))) (by kernel_rfl)
  obtain ⟨a0_2, g0_2, y0_2⟩ := Row.is_int Try.underlying23 e0_2
  obtain rfl := (List.cons.inj g0_2).1
  have e0_3 : ∃ x, DataW.trod enc Try.prog W 0 (fun _ => true) true n0 38 [u0_3] = some x := Row.field_at hf0 (List.mem_cons_of_mem _ (List.mem_cons_of_mem _ (List.mem_cons_of_mem _ (List.mem_cons_self)))) (by kernel_rfl)
  obtain ⟨a0_3, g0_3, y0_3⟩ := Row.is_int Try.underlying38 e0_3
  obtain rfl := (List.cons.inj g0_3).1
  obtain ⟨a1, rfl, rfl, rfl, y1⟩ := open_int Try.underlying5 (hval 1 5 v1 rfl rfl) h1
  obtain ⟨cs2, rfl, hl2, n2, hf2⟩ := Row.open_struct Try.underlying26 (hval 2 26 v2 rfl rfl) h2
  have hl2' : cs2.length = 5 := hl2.trans (by kernel_rfl)
  obtain ⟨u2_0, u2_1, u2_2, u2_3, u2_4, rfl⟩ := Row.of5 hl2'
  have e2_0 : ∃ x, DataW.trod enc Try.prog W 0 (fun _ => true) true n2 5 [u2_0] = some x := Row.field_at hf2 (List.mem_cons_self) (by kernel_rfl)
  obtain ⟨a2_0, g2_0, y2_0⟩ := Row.is_int Try.underlying5 e2_0
  obtain rfl := (List.cons.inj g2_0).1
  have e2_1 : ∃ x, DataW.trod enc Try.prog W 0 (fun _ => true) true n2 5 [u2_1] = some x := Row.field_at hf2 (List.mem_cons_of_mem _ (List.mem_cons_self)) (by kernel_rfl)
  obtain ⟨a2_1, g2_1, y2_1⟩ := Row.is_int Try.underlying5 e2_1
  obtain rfl := (List.cons.inj g2_1).1
  have e2_2 : ∃ x, DataW.trod enc Try.prog W 0 (fun _ => true) true n2 23 [u2_2] = some x := Row.field_at hf2 (List.mem_cons_of_mem _ (List.mem_cons_of_mem _ (List.mem_cons_self))) (by kernel_rfl)
  obtain ⟨a2_2, g2_2, y2_2⟩ := Row.is_int Try.underlying23 e2_2
  obtain rfl := (List.cons.inj g2_2).1
  have e2_3 : ∃ x, DataW.trod enc Try.prog W 0 (fun _ => true) true n2 24 [u2_3] = some x := Row.field_at hf2 (List.mem_cons_of_mem _ (List.mem_cons_of_mem _ (List.mem_cons_of_mem _ (List.mem_cons_self)))) (by kernel_rfl)
  obtain ⟨A2_3, c2_3, l2_3, g2_3, hc2_3, hr2_3, y2_3⟩ := Row.is_bytes Try.underlying24 Try.underlying5 (by kernel_rfl) e2_3
  obtain rfl := (List.cons.inj g2_3).1
  have e2_4 : ∃ x, DataW.trod enc Try.prog W 0 (fun _ => true) true n2 22 [u2_4] = some x := Row.field_at hf2 (List.mem_cons_of_mem _ (List.mem_cons_of_mem _ (List.mem_cons_of_mem _ (List.mem_cons_of_mem _ (List.mem_cons_self))))) (by kernel_rfl)
  obtain ⟨a2_4, g2_4, y2_4⟩ := Row.is_string Try.underlying22 e2_4
  obtain rfl := (List.cons.inj g2_4).1
  clear hA0 hval0 hsz0
  refine (L06.acts_all a0_0 a0_1 a0_2 a0_3 a1 a2_0 a2_1 a2_2 A2_3 c2_3 l2_3 a2_4 W hr2_3 hc2_3 (Row.wf_u32 y0_1) (Row.wf_u32 y0_2) (Row.wf_u64 y0_3) (Row.wf_u32 y2_2)).mono fun e W' ⟨he, bel⟩ => ?_
  subst he
  exact ⟨_, rfl, _, _, _, [], _, [], hW', trodAll_mk1 (shut_bool Try.underlying4 _), (trodAll_cons_mk (Below.trod laidOut (by kernel_rfl) (of_decide_eq_true (by kernel_rfl)) k0 bel z0) (trodAll_cons_mk (Below.trod laidOut (by kernel_rfl) (of_decide_eq_true (by kernel_rfl)) k1 bel z1) (trodAll_cons_mk (Below.trod laidOut (by kernel_rfl) (of_decide_eq_true (by kernel_rfl)) k2 bel z2) trodAll_mk0))), rfl, bel.frame _, fun h => by cases h⟩
theorem over : Rows.linkActsRow.holds Try.pinned (OpenSpec.ofChange Rows.linkActsSpec) :=
  OpenClaim.holds_of_wide 4 Try.f4 rfl rfl rfl rfl rfl rfl rfl ⟨rfl, rfl, rfl, rfl, rfl⟩ rfl rfl rfl rfl rfl (by kernel_rfl) Try.func4 (by kernel_rfl)
    (of_decide_eq_true (by kernel_rfl)) (by unfold Func.isWrapper; first | (rw [if_pos (by decide +kernel)]; kernel_rfl) | (rw [if_neg (by decide +kernel)]; exact ⟨rfl, rfl⟩))
    (fun os started H enc _ => lifted os started H enc)
theorem proved : Rows.LinkActsSaid := over
#print axioms proved
end Go.Proofs.Ytimfhdpgkoonaaa.linkActs
namespace Go.Proofs.Ytimfhdpgkoonaaa
/-- The row, under a short name, for the claim. -/
theorem linkActs_holds : Rows.LinkActsSaid := linkActs.proved
end Go.Proofs.Ytimfhdpgkoonaaa
