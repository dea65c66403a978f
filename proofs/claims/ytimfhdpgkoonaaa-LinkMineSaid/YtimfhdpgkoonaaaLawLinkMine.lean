/- The row LinkMine, printed by wip/row.py: the arguments opened, the walk, nothing below the heap's old end turned. -/
import Derived.Test.YtimfhdpgkoonaaaRows
import Derived.Test.YtimfhdpgkoonaaaPrxMine
import Derived.Test.YtimfhdpgkoonaaaPureLinkMine
import Derived.Test.YtimfhdpgkoonaaaRowLetters
import Derived.WalkKit
import Derived.ProofKit
import Derived.OpenShut
import Derived.ShutString
import Derived.ChangeOld
import Derived.Below
import Derived.SizedLaws
namespace Go.Proofs.Ytimfhdpgkoonaaa.linkMine
open Go.ChangeShapes Go.WideShapes Go.ChangeAt Go.RowKit
open Go.ChangeMaps (open_string shut_string)
set_option linter.unusedVariables false
theorem own : ownKnob Try.prog.godebug = none := by kernel_rfl
theorem laidOut : laidOutB Try.prog = true := by kernel_rfl
set_option maxRecDepth 100000 in
theorem lifted (os : Os) (started : os.Started) (H : Type) (enc : TypeId × Value → H) :
    ReturnsInHanded {} Try.checked os 10 .any (Rows.linkMineSpec.pre6 enc Try.prog Try.f10 Rows.linkMineRow.domain false) (Rows.linkMineSpec.post enc Try.prog Try.f10 false true false false) := by
  refine returnsInHanded_of_change_sized (C := Try.checked) own started (by kernel_rfl) Try.func10
    (ChangeSpec.witness6 (enc := enc) (C := Try.checked) false ⟨#[], #[.agg #[.string ByteArray.empty, .int .u32 0, .int .u32 0, .int .u64 0], .agg #[.int .u8 0, .int .u8 0, .int .u32 0, .slice none 0 0, .string ByteArray.empty], .int .u8 0], []⟩ 8 (by kernel_rfl) (by kernel_rfl) (by kernel_rfl) (by kernel_rfl)) ?_
  intro W base args ds gs before hval0 hW hcnd hsz0 _
  have hval : ∀ (j : Nat) t v, Try.f10.params[j]? = some t → args[j]? = some v → Value.okWide Try.prog W .any base t v := hval0
  have hsz : (DataW.weightsEach Try.prog (Try.f10.params.toList ++ Rows.linkMineSpec.plain.varTypes Try.prog) (ds ++ gs)).all (· ≤ reachBytes) = true := hsz0
  have hW' := hW
  obtain ⟨p, q, hA0, hV, rfl, hfz, hnd⟩ := hW
  have hA : DataW.TrodAll enc Try.prog W 0 (fun _ => true) true Try.f10.params.toList args.toList ds p := hA0
  have hlt : ∀ x ∈ p, x.block < W.heap.size := fun x hx => by simpa using hA.lt x hx
  rw [Try.params10] at hA hval hsz
  obtain ⟨v0, vs0, d0, ds0, p0, q0, hargs, rfl, rfl, h0, r0⟩ := trodAll_cons hA
  obtain ⟨v1, vs1, d1, ds1, p1, q1, rfl, rfl, rfl, h1, r1⟩ := trodAll_cons r0
  obtain ⟨v2, vs2, d2, ds2, p2, q2, rfl, rfl, rfl, h2, r2⟩ := trodAll_cons r1
  obtain ⟨rfl, rfl, rfl⟩ := trodAll_nil r2
  obtain rfl : args = #[v0, v1, v2] := by cases args; simp_all
  obtain ⟨rfl, rfl⟩ := trodVars_none hV
  have z0 : ∀ x ∈ p0, x.block < W.heap.size := fun x hx => hlt x (by simp [hx])
  have z1 : ∀ x ∈ p1, x.block < W.heap.size := fun x hx => hlt x (by simp [hx])
  have z2 : ∀ x ∈ p2, x.block < W.heap.size := fun x hx => hlt x (by simp [hx])
  have k0 := h0
  have k1 := h1
  have k2 := h2
  obtain ⟨cs0, rfl, hl0, n0, hf0⟩ := Row.open_struct Try.underlying40 (hval 0 40 v0 rfl rfl) h0
  have hl0' : cs0.length = 4 := hl0.trans (by kernel_rfl)
  obtain ⟨u0_0, u0_1, u0_2, u0_3, rfl⟩ := Row.of4 hl0'
  have e0_0 : ∃ x, DataW.trod enc Try.prog W 0 (fun _ => true) true n0 22 [u0_0] = some x := Row.field_at hf0 (List.mem_cons_self) (by kernel_rfl)
  obtain ⟨a0_0, g0_0, y0_0⟩ := Row.is_string Try.underlying22 e0_0
  obtain rfl := (List.cons.inj g0_0).1
  have e0_1 : ∃ x, DataW.trod enc Try.prog W 0 (fun _ => true) true n0 23 [u0_1] = some x := Row.field_at hf0 (List.mem_cons_of_mem _ (List.mem_cons_self)) (by kernel_rfl)
  obtain ⟨a0_1, g0_1, y0_1⟩ := Row.is_int Try.underlying23 e0_1
  obtain rfl := (List.cons.inj g0_1).1
  have e0_2 : ∃ x, DataW.trod enc Try.prog W 0 (fun _ => true) true n0 23 [u0_2] = some x := Row.field_at hf0 (List.mem_cons_of_mem _ (List.mem_cons_of_mem _ (List.mem_cons_self))) (by kernel_rfl)
  obtain ⟨a0_2, g0_2, y0_2⟩ := Row.is_int Try.underlying23 e0_2
  obtain rfl := (List.cons.inj g0_2).1
  have e0_3 : ∃ x, DataW.trod enc Try.prog W 0 (fun _ => true) true n0 38 [u0_3] = some x := Row.field_at hf0 (List.mem_cons_of_mem _ (List.mem_cons_of_mem _ (List.mem_cons_of_mem _ (List.mem_cons_self)))) (by kernel_rfl)
  obtain ⟨a0_3, g0_3, y0_3⟩ := Row.is_int Try.underlying38 e0_3
  obtain rfl := (List.cons.inj g0_3).1
  obtain ⟨cs1, rfl, hl1, n1, hf1⟩ := Row.open_struct Try.underlying26 (hval 1 26 v1 rfl rfl) h1
  have hl1' : cs1.length = 5 := hl1.trans (by kernel_rfl)
  obtain ⟨u1_0, u1_1, u1_2, u1_3, u1_4, rfl⟩ := Row.of5 hl1'
  have e1_0 : ∃ x, DataW.trod enc Try.prog W 0 (fun _ => true) true n1 5 [u1_0] = some x := Row.field_at hf1 (List.mem_cons_self) (by kernel_rfl)
  obtain ⟨a1_0, g1_0, y1_0⟩ := Row.is_int Try.underlying5 e1_0
  obtain rfl := (List.cons.inj g1_0).1
  have e1_1 : ∃ x, DataW.trod enc Try.prog W 0 (fun _ => true) true n1 5 [u1_1] = some x := Row.field_at hf1 (List.mem_cons_of_mem _ (List.mem_cons_self)) (by kernel_rfl)
  obtain ⟨a1_1, g1_1, y1_1⟩ := Row.is_int Try.underlying5 e1_1
  obtain rfl := (List.cons.inj g1_1).1
  have e1_2 : ∃ x, DataW.trod enc Try.prog W 0 (fun _ => true) true n1 23 [u1_2] = some x := Row.field_at hf1 (List.mem_cons_of_mem _ (List.mem_cons_of_mem _ (List.mem_cons_self))) (by kernel_rfl)
  obtain ⟨a1_2, g1_2, y1_2⟩ := Row.is_int Try.underlying23 e1_2
  obtain rfl := (List.cons.inj g1_2).1
  have e1_3 : ∃ x, DataW.trod enc Try.prog W 0 (fun _ => true) true n1 24 [u1_3] = some x := Row.field_at hf1 (List.mem_cons_of_mem _ (List.mem_cons_of_mem _ (List.mem_cons_of_mem _ (List.mem_cons_self)))) (by kernel_rfl)
  obtain ⟨A1_3, c1_3, l1_3, g1_3, hc1_3, hr1_3, y1_3⟩ := Row.is_bytes Try.underlying24 Try.underlying5 (by kernel_rfl) e1_3
  obtain rfl := (List.cons.inj g1_3).1
  have e1_4 : ∃ x, DataW.trod enc Try.prog W 0 (fun _ => true) true n1 22 [u1_4] = some x := Row.field_at hf1 (List.mem_cons_of_mem _ (List.mem_cons_of_mem _ (List.mem_cons_of_mem _ (List.mem_cons_of_mem _ (List.mem_cons_self))))) (by kernel_rfl)
  obtain ⟨a1_4, g1_4, y1_4⟩ := Row.is_string Try.underlying22 e1_4
  obtain rfl := (List.cons.inj g1_4).1
  obtain ⟨a2, rfl, rfl, rfl, y2⟩ := open_int Try.underlying5 (hval 2 5 v2 rfl rfl) h2
  clear hA0 hval0 hsz0
  refine (Pr.chantrylaw06_LinkMine.calls 6000 a0_0 a0_1 a0_2 a0_3 a1_0 a1_1 a1_2 _ _ l1_3 a1_4 a2 true W hr1_3 hc1_3 (Pure.LinkMine a0_0 a0_1 a0_2 a0_3 a1_0 a1_1 a1_2 l1_3 a1_4 a2 (Row.wf_u32 y1_2).1 (Row.wf_u32 y1_2).2)).mono fun e W' ⟨he, bel⟩ => ?_
  subst he
  exact ⟨_, rfl, _, _, _, [], _, [], hW', trodAll_mk1 (shut_bool Try.underlying4 _), (trodAll_cons_mk (Below.trod laidOut (by kernel_rfl) (of_decide_eq_true (by kernel_rfl)) k0 bel z0) (trodAll_cons_mk (Below.trod laidOut (by kernel_rfl) (of_decide_eq_true (by kernel_rfl)) k1 bel z1) (trodAll_cons_mk (Below.trod laidOut (by kernel_rfl) (of_decide_eq_true (by kernel_rfl)) k2 bel z2) trodAll_mk0))), rfl, bel.frame _, fun h => by cases h⟩
theorem over : Rows.linkMineRow.holds Try.pinned (OpenSpec.ofChange Rows.linkMineSpec) :=
  OpenClaim.holds_of_wide 10 Try.f10 rfl rfl rfl rfl rfl rfl rfl ⟨rfl, rfl, rfl, rfl, rfl⟩ rfl rfl rfl rfl rfl (by kernel_rfl) Try.func10 (by kernel_rfl)
    (of_decide_eq_true (by kernel_rfl)) (by unfold Func.isWrapper; first | (rw [if_pos (by decide +kernel)]; kernel_rfl) | (rw [if_neg (by decide +kernel)]; exact ⟨rfl, rfl⟩))
    (fun os started H enc _ => lifted os started H enc)
theorem proved : Rows.LinkMineSaid := over
#print axioms proved
end Go.Proofs.Ytimfhdpgkoonaaa.linkMine
namespace Go.Proofs.Ytimfhdpgkoonaaa
/-- The row, under a short name, for the claim. -/
theorem linkMine_holds : Rows.LinkMineSaid := linkMine.proved
end Go.Proofs.Ytimfhdpgkoonaaa
