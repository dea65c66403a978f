/- The row LinkSecret, printed by wip/row.py: the arguments opened, the walk, nothing below the heap's old end turned. -/
import Derived.Test.YtimfhdpgkoonaaaRows
import Derived.Test.YtimfhdpgkoonaaaSecret
import Derived.Test.YtimfhdpgkoonaaaRowLetters
import Derived.WalkKit
import Derived.ProofKit
import Derived.OpenShut
import Derived.ShutString
import Derived.ChangeOld
import Derived.Below
import Derived.SizedLaws
namespace Go.Proofs.Ytimfhdpgkoonaaa.linkSecret
open Go.ChangeShapes Go.WideShapes Go.ChangeAt Go.RowKit
open Go.ChangeMaps (open_string shut_string)
set_option linter.unusedVariables false
theorem own : ownKnob Try.prog.godebug = none := by kernel_rfl
theorem laidOut : laidOutB Try.prog = true := by kernel_rfl
set_option maxRecDepth 100000 in
theorem lifted (os : Os) (started : os.Started) (H : Type) (enc : TypeId × Value → H) :
    ReturnsInHanded {} Try.checked os 7 .any (Rows.linkSecretSpec.pre6 enc Try.prog Try.f7 Rows.linkSecretRow.domain false) (Rows.linkSecretSpec.post enc Try.prog Try.f7 false true false false) := by
  refine returnsInHanded_of_change_sized (C := Try.checked) own started (by kernel_rfl) Try.func7
    (ChangeSpec.witness6 (enc := enc) (C := Try.checked) false ⟨#[], #[.string ByteArray.empty, .agg #[.int .u8 0, .int .u8 0, .int .u8 0, .int .u8 0]], []⟩ 8 (by kernel_rfl) (by kernel_rfl) (by kernel_rfl) (by kernel_rfl)) ?_
  intro W base args ds gs before hval0 hW hcnd hsz0 _
  have hval : ∀ (j : Nat) t v, Try.f7.params[j]? = some t → args[j]? = some v → Value.okWide Try.prog W .any base t v := hval0
  have hsz : (DataW.weightsEach Try.prog (Try.f7.params.toList ++ Rows.linkSecretSpec.plain.varTypes Try.prog) (ds ++ gs)).all (· ≤ reachBytes) = true := hsz0
  have hW' := hW
  obtain ⟨p, q, hA0, hV, rfl, hfz, hnd⟩ := hW
  have hA : DataW.TrodAll enc Try.prog W 0 (fun _ => true) true Try.f7.params.toList args.toList ds p := hA0
  have hlt : ∀ x ∈ p, x.block < W.heap.size := fun x hx => by simpa using hA.lt x hx
  rw [Try.params7] at hA hval hsz
  obtain ⟨v0, vs0, d0, ds0, p0, q0, hargs, rfl, rfl, h0, r0⟩ := trodAll_cons hA
  obtain ⟨v1, vs1, d1, ds1, p1, q1, rfl, rfl, rfl, h1, r1⟩ := trodAll_cons r0
  obtain ⟨rfl, rfl, rfl⟩ := trodAll_nil r1
  obtain rfl : args = #[v0, v1] := by cases args; simp_all
  obtain ⟨rfl, rfl⟩ := trodVars_none hV
  have z0 : ∀ x ∈ p0, x.block < W.heap.size := fun x hx => hlt x (by simp [hx])
  have z1 : ∀ x ∈ p1, x.block < W.heap.size := fun x hx => hlt x (by simp [hx])
  have k0 := h0
  have k1 := h1
  obtain ⟨a0, rfl, rfl, rfl, y0⟩ := open_string Try.underlying22 (hval 0 22 v0 rfl rfl) h0
  obtain ⟨cs1, rfl, hl1, n1, hf1⟩ := Row.open_array Try.underlying60 (hval 1 60 v1 rfl rfl) h1
  have hl1' : cs1.length = 4 := hl1.trans (by kernel_rfl)
  have one1 : Try.prog.cellsOf 5 = 1 := by kernel_rfl
  obtain ⟨u1_0, u1_1, u1_2, u1_3, rfl⟩ := Row.of4 hl1'
  have e1_0 : ∃ x, DataW.trod enc Try.prog W 0 (fun _ => true) true n1 5 [u1_0] = some x := Row.elem_at hf1 one1 0 (by decide)
  obtain ⟨a1_0, g1_0, y1_0⟩ := Row.is_int Try.underlying5 e1_0
  obtain rfl := (List.cons.inj g1_0).1
  have e1_1 : ∃ x, DataW.trod enc Try.prog W 0 (fun _ => true) true n1 5 [u1_1] = some x := Row.elem_at hf1 one1 1 (by decide)
  obtain ⟨a1_1, g1_1, y1_1⟩ := Row.is_int Try.underlying5 e1_1
  obtain rfl := (List.cons.inj g1_1).1
  have e1_2 : ∃ x, DataW.trod enc Try.prog W 0 (fun _ => true) true n1 5 [u1_2] = some x := Row.elem_at hf1 one1 2 (by decide)
  obtain ⟨a1_2, g1_2, y1_2⟩ := Row.is_int Try.underlying5 e1_2
  obtain rfl := (List.cons.inj g1_2).1
  have e1_3 : ∃ x, DataW.trod enc Try.prog W 0 (fun _ => true) true n1 5 [u1_3] = some x := Row.elem_at hf1 one1 3 (by decide)
  obtain ⟨a1_3, g1_3, y1_3⟩ := Row.is_int Try.underlying5 e1_3
  obtain rfl := (List.cons.inj g1_3).1
  clear hA0 hval0 hsz0
  refine (L06.secret_all a0 a1_0 a1_1 a1_2 a1_3 (Row.wf_u8 y1_0) (Row.wf_u8 y1_1) (Row.wf_u8 y1_2) (Row.wf_u8 y1_3) W).mono fun e W' ⟨he, bel⟩ => ?_
  subst he
  exact ⟨_, rfl, _, _, _, [], _, [], hW', trodAll_mk1 (shut_bool Try.underlying4 _), (trodAll_cons_mk (Below.trod laidOut (by kernel_rfl) (of_decide_eq_true (by kernel_rfl)) k0 bel z0) (trodAll_cons_mk (Below.trod laidOut (by kernel_rfl) (of_decide_eq_true (by kernel_rfl)) k1 bel z1) trodAll_mk0)), rfl, bel.frame _, fun h => by cases h⟩
theorem over : Rows.linkSecretRow.holds Try.pinned (OpenSpec.ofChange Rows.linkSecretSpec) :=
  OpenClaim.holds_of_wide 7 Try.f7 rfl rfl rfl rfl rfl rfl rfl ⟨rfl, rfl, rfl, rfl, rfl⟩ rfl rfl rfl rfl rfl (by kernel_rfl) Try.func7 (by kernel_rfl)
    (of_decide_eq_true (by kernel_rfl)) (by unfold Func.isWrapper; first | (rw [if_pos (by decide +kernel)]; kernel_rfl) | (rw [if_neg (by decide +kernel)]; exact ⟨rfl, rfl⟩))
    (fun os started H enc _ => lifted os started H enc)
theorem proved : Rows.LinkSecretSaid := over
#print axioms proved
end Go.Proofs.Ytimfhdpgkoonaaa.linkSecret
namespace Go.Proofs.Ytimfhdpgkoonaaa
/-- The row, under a short name, for the claim. -/
theorem linkSecret_holds : Rows.LinkSecretSaid := linkSecret.proved
end Go.Proofs.Ytimfhdpgkoonaaa
