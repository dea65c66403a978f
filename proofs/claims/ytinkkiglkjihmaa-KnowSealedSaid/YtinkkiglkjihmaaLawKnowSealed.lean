/- The row KnowSealed, printed by wip/row.py: the arguments opened, the walk, nothing below the heap's old end turned. -/
import Derived.Test.YtinkkiglkjihmaaRows
import Derived.Test.YtinkkiglkjihmaaSealed04
import Derived.Test.YtinkkiglkjihmaaRowStrs
import Derived.Test.YtinkkiglkjihmaaRowAgg
import Derived.WalkKit
import Derived.ProofKit
import Derived.OpenShut
import Derived.ShutString
import Derived.ChangeOld
import Derived.Below
import Derived.SizedLaws
namespace Go.Proofs.Ytinkkiglkjihmaa.knowSealed
open Go.ChangeShapes Go.WideShapes Go.ChangeAt Go.RowKit
open Go.ChangeMaps (open_string shut_string)
set_option linter.unusedVariables false
theorem own : ownKnob Try.prog.godebug = none := by kernel_rfl
theorem laidOut : laidOutB Try.prog = true := by kernel_rfl
set_option maxRecDepth 100000 in
theorem lifted (os : Os) (started : os.Started) (H : Type) (enc : TypeId × Value → H) :
    ReturnsInHanded {} Try.checked os 9 .any (Rows.knowSealedSpec.pre6 enc Try.prog Try.f9 Rows.knowSealedRow.domain false) (Rows.knowSealedSpec.post enc Try.prog Try.f9 false true false false) := by
  refine returnsInHanded_of_change_sized (C := Try.checked) own started (by kernel_rfl) Try.func9
    (ChangeSpec.witness6 (enc := enc) (C := Try.checked) false ⟨#[], #[.slice none 0 0, .agg #[.string ByteArray.empty, .string ByteArray.empty], .string ByteArray.empty], []⟩ 8 (by kernel_rfl) (by kernel_rfl) (by kernel_rfl) (by kernel_rfl)) ?_
  intro W base args ds gs before hval0 hW hcnd hsz0 _
  have hval : ∀ (j : Nat) t v, Try.f9.params[j]? = some t → args[j]? = some v → Value.okWide Try.prog W .any base t v := hval0
  have hsz : (DataW.weightsEach Try.prog (Try.f9.params.toList ++ Rows.knowSealedSpec.plain.varTypes Try.prog) (ds ++ gs)).all (· ≤ reachBytes) = true := hsz0
  have hW' := hW
  obtain ⟨p, q, hA0, hV, rfl, hfz, hnd⟩ := hW
  have hA : DataW.TrodAll enc Try.prog W 0 (fun _ => true) true Try.f9.params.toList args.toList ds p := hA0
  have hlt : ∀ x ∈ p, x.block < W.heap.size := fun x hx => by simpa using hA.lt x hx
  rw [Try.params9] at hA hval hsz
  obtain ⟨v0, vs0, d0, ds0, p0, q0, hargs, rfl, rfl, h0, r0⟩ := trodAll_cons hA
  obtain ⟨v1, vs1, d1, ds1, p1, q1, rfl, rfl, rfl, h1, r1⟩ := trodAll_cons r0
  obtain ⟨v2, vs2, d2, ds2, p2, q2, rfl, rfl, rfl, h2, r2⟩ := trodAll_cons r1
  obtain ⟨rfl, rfl, rfl⟩ := trodAll_nil r2
  obtain rfl : args = #[v0, v1, v2] := by cases args; simp_all
  obtain ⟨rfl, rfl⟩ := trodVars_none hV
  have z0 : ∀ x ∈ p0, x.block < W.heap.size := fun x hx => hlt x (by simp [hx])
  have z1 : ∀ x ∈ p1, x.block < W.heap.size := fun x hx => hlt x (by simp [hx])
  have z2 : ∀ x ∈ p2, x.block < W.heap.size := fun x hx => hlt x (by simp [hx])
  have k0 := h0
  have k1 := h1
  have k2 := h2
  obtain ⟨A0, c0, l0, rfl, hc0, hm0, hr0, hs0⟩ := Row.open_strs Try.underlying22 Try.underlying23 (by kernel_rfl) (hval 0 22 v0 rfl rfl) h0
  obtain ⟨cs1, rfl, hl1, n1, hf1⟩ := Row.open_array Try.underlying47 (hval 1 47 v1 rfl rfl) h1
  have hl1' : cs1.length = 2 := hl1.trans (by kernel_rfl)
  have one1 : Try.prog.cellsOf 23 = 1 := by kernel_rfl
  obtain ⟨u1_0, u1_1, rfl⟩ := Row.of2 hl1'
  have e1_0 : ∃ x, DataW.trod enc Try.prog W 0 (fun _ => true) true n1 23 [u1_0] = some x := Row.elem_at hf1 one1 0 (by decide)
  obtain ⟨a1_0, g1_0, y1_0⟩ := Row.is_string Try.underlying23 e1_0
  obtain rfl := (List.cons.inj g1_0).1
  have e1_1 : ∃ x, DataW.trod enc Try.prog W 0 (fun _ => true) true n1 23 [u1_1] = some x := Row.elem_at hf1 one1 1 (by decide)
  obtain ⟨a1_1, g1_1, y1_1⟩ := Row.is_string Try.underlying23 e1_1
  obtain rfl := (List.cons.inj g1_1).1
  obtain ⟨a2, rfl, rfl, rfl, y2⟩ := open_string Try.underlying23 (hval 2 23 v2 rfl rfl) h2
  clear hA0 hval0 hsz0
  refine (Ev04.sealed_any A0 c0 l0 a1_0 a1_1 a2 W hr0 hc0 (Nat.le_trans hc0 hm0)).mono fun e W' ⟨he, bel⟩ => ?_
  subst he
  exact ⟨_, rfl, _, _, _, [], _, [], hW', trodAll_mk1 (shut_bool Try.underlying4 _), (trodAll_cons_mk (Below.trod laidOut (by kernel_rfl) (of_decide_eq_true (by kernel_rfl)) k0 bel z0) (trodAll_cons_mk (Below.trod laidOut (by kernel_rfl) (of_decide_eq_true (by kernel_rfl)) k1 bel z1) (trodAll_cons_mk (Below.trod laidOut (by kernel_rfl) (of_decide_eq_true (by kernel_rfl)) k2 bel z2) trodAll_mk0))), rfl, bel.frame _, fun h => by cases h⟩
theorem over : Rows.knowSealedRow.holds Try.pinned (OpenSpec.ofChange Rows.knowSealedSpec) :=
  OpenClaim.holds_of_wide 9 Try.f9 rfl rfl rfl rfl rfl rfl rfl ⟨rfl, rfl, rfl, rfl, rfl⟩ rfl rfl rfl rfl rfl (by kernel_rfl) Try.func9 (by kernel_rfl)
    (of_decide_eq_true (by kernel_rfl)) (by unfold Func.isWrapper; first | (rw [if_pos (by decide +kernel)]; kernel_rfl) | (rw [if_neg (by decide +kernel)]; exact ⟨rfl, rfl⟩))
    (fun os started H enc _ => lifted os started H enc)
theorem proved : Rows.KnowSealedSaid := over
#print axioms proved
end Go.Proofs.Ytinkkiglkjihmaa.knowSealed
namespace Go.Proofs.Ytinkkiglkjihmaa
/-- The row, under a short name, for the claim. -/
theorem knowSealed_holds : Rows.KnowSealedSaid := knowSealed.proved
end Go.Proofs.Ytinkkiglkjihmaa
