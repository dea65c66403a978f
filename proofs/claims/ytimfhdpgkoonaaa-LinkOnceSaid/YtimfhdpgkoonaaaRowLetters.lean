/- A slice of letters among a row's arguments. -/
import Derived.Test.YtimfhdpgkoonaaaRowRows
import Derived.Test.YtimfhdpgkoonaaaPrx0
set_option linter.unusedVariables false
namespace Go.Proofs.Ytimfhdpgkoonaaa.Row
open Go.RowKit Go.ChangeShapes Go.WideShapes Go.Proofs.YtimfhdpgkoonaaaW.PrintWords Go.Proofs.Ytimfhdpgkoonaaa.Pr
theorem wf_u8 {a : Int} (h : (Lit.int .u8 a).wf = true) : 0 ≤ a ∧ a ≤ 255 := by
  simp [Lit.wf, IntKind.min, IntKind.max, IntKind.bits, IntKind.signed] at h
  omega
theorem wf_u32 {a : Int} (h : (Lit.int .u32 a).wf = true) : 0 ≤ a ∧ a < 4294967296 := by
  simp [Lit.wf, IntKind.min, IntKind.max, IntKind.bits, IntKind.signed] at h
  omega
theorem wf_u64 {a : Int} (h : (Lit.int .u64 a).wf = true) : 0 ≤ a ∧ a < 18446744073709551616 := by
  simp [Lit.wf, IntKind.min, IntKind.max, IntKind.bits, IntKind.signed] at h
  omega
def LetterOk (y : S26) : Prop := (0 ≤ y.f0 ∧ y.f0 ≤ 255) ∧ (0 ≤ y.f1 ∧ y.f1 ≤ 255) ∧ (0 ≤ y.f2 ∧ y.f2 < 4294967296) ∧ (∀ x ∈ y.f3, 0 ≤ x ∧ x ≤ 255)
section
variable {H : Type} {enc : TypeId × Value → H} {W : World} {base : Nat} {v : Value} {d : DataW H} {p : List MemPlace}
theorem letter_dec (n : Nat) (cs : List Value) (hl : cs.length = 5) (h : ∃ x, DataW.trod enc Try.prog W 0 (fun _ => true) true n 26 cs = some x) : ∃ y : S26, k26.K W y cs ∧ LetterOk y := by
  obtain ⟨m, hf⟩ := struct_cells Try.underlying26 h
  obtain ⟨u0, u1, u2, u3, u4, rfl⟩ := of5 hl
  have e0 : ∃ x, DataW.trod enc Try.prog W 0 (fun _ => true) true m 5 [u0] = some x := field_at hf (List.mem_cons_self) (by kernel_rfl)
  have e1 : ∃ x, DataW.trod enc Try.prog W 0 (fun _ => true) true m 5 [u1] = some x := field_at hf (List.mem_cons_of_mem _ List.mem_cons_self) (by kernel_rfl)
  have e2 : ∃ x, DataW.trod enc Try.prog W 0 (fun _ => true) true m 23 [u2] = some x := field_at hf (List.mem_cons_of_mem _ (List.mem_cons_of_mem _ List.mem_cons_self)) (by kernel_rfl)
  have e3 : ∃ x, DataW.trod enc Try.prog W 0 (fun _ => true) true m 24 [u3] = some x := field_at hf (List.mem_cons_of_mem _ (List.mem_cons_of_mem _ (List.mem_cons_of_mem _ List.mem_cons_self))) (by kernel_rfl)
  have e4 : ∃ x, DataW.trod enc Try.prog W 0 (fun _ => true) true m 22 [u4] = some x := field_at hf (List.mem_cons_of_mem _ (List.mem_cons_of_mem _ (List.mem_cons_of_mem _ (List.mem_cons_of_mem _ List.mem_cons_self)))) (by kernel_rfl)
  obtain ⟨a0, g0, y0⟩ := is_int Try.underlying5 e0
  obtain ⟨a1, g1, y1⟩ := is_int Try.underlying5 e1
  obtain ⟨a2, g2, y2⟩ := is_int Try.underlying23 e2
  obtain ⟨A3, c3, l3, g3, hc3, hr3, y3⟩ := is_bytes Try.underlying24 Try.underlying5 (by kernel_rfl) e3
  obtain ⟨a4, g4, y4⟩ := is_string Try.underlying22 e4
  obtain rfl := (List.cons.inj g0).1
  obtain rfl := (List.cons.inj g1).1
  obtain rfl := (List.cons.inj g2).1
  obtain rfl := (List.cons.inj g3).1
  obtain rfl := (List.cons.inj g4).1
  exact ⟨⟨a0, a1, a2, l3, a4⟩, k26_mk W ⟨a0, a1, a2, l3, a4⟩ hc3 hr3, wf_u8 y0, wf_u8 y1, wf_u32 y2, y3⟩
set_option maxRecDepth 100000 in
theorem open_letters (hval : Value.okWide Try.prog W .any base 63 v) (h : DataW.Trod enc Try.prog W 0 (fun _ => true) true 63 v d p) :
    ∃ (A : Option Addr) (c : Nat) (l : List S26), v = .slice A l.length c ∧ l.length ≤ c ∧ Kd.C k26 W A l.length l ∧ ∀ y ∈ l, LetterOk y := by
  have e : k26.sz = 5 := rfl
  have hc : Try.prog.cellsOf 26 = 5 := by kernel_rfl
  exact open_rows k26 LetterOk Try.underlying63 (hc.trans e.symm) (fun n cs hl h => letter_dec n cs (hl.trans e) h) hval h
end
end Go.Proofs.Ytimfhdpgkoonaaa.Row
