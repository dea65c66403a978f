/- A slice of whole numbers of 64 bits among a row's arguments; the two laws on slices. -/
import Derived.Test.YtjpgdaphkmeijaaRowRows
import Derived.Test.YtjpgdaphkmeijaaRow01
import Derived.Test.YtjpgdaphkmeijaaMidIn01
set_option linter.unusedVariables false
namespace Go.Proofs.Ytjpgdaphkmeijaa.Row
open Go.RowKit Go.ChangeShapes Go.WideShapes Go.Proofs.YtjpgdaphkmeijaaW.PrintWords
theorem wf_u64 {a : Int} (h : (Lit.int .u64 a).wf = true) : 0 ≤ a ∧ a < 18446744073709551616 := by
  simp [Lit.wf, IntKind.min, IntKind.max, IntKind.signed, IntKind.bits] at h
  omega
section
variable {H : Type} {enc : TypeId × Value → H} {W : World} {base : Nat} {v : Value} {d : DataW H} {p : List MemPlace}
theorem open_u64s (hval : Value.okWide Try.prog W .any base 22 v) (h : DataW.Trod enc Try.prog W 0 (fun _ => true) true 22 v d p) :
    ∃ (A : Option Addr) (c : Nat) (l : List Int), v = .slice A l.length c ∧ l.length ≤ c ∧ Kd.C (Kd.int .u64) W A l.length l ∧ ∀ y ∈ l, 0 ≤ y ∧ y < 18446744073709551616 :=
  open_rows (Kd.int .u64) (fun y : Int => 0 ≤ y ∧ y < 18446744073709551616) Try.underlying22 (by kernel_rfl) (fun n cs hl h => by
    obtain ⟨a, rfl, hw⟩ := is_int Try.underlying25 h
    exact ⟨a, rfl, wf_u64 hw⟩) hval h
end
theorem nats {l : List Int} (h : ∀ y ∈ l, 0 ≤ y ∧ y < 18446744073709551616) : ∃ zs : List Nat, l = zs.map (fun n : Nat => (n : Int)) ∧ ∀ x ∈ zs, x < 18446744073709551616 := by
  refine ⟨l.map Int.toNat, ?_, ?_⟩
  · rw [List.map_map]
    refine (List.map_id l).symm.trans (List.map_congr_left fun x hx => ?_)
    have := h x hx
    simp only [id, Function.comp]; omega
  · intro x hx
    obtain ⟨y, hy, rfl⟩ := List.mem_map.1 hx
    have := h y hy
    omega
theorem block_lt {w : World} {p : Addr} {v : Value} (h : w.cell? p = some v) : p.block < w.heap.size := by
  unfold World.cell? at h
  cases hb : w.heap[p.block]? with
  | none => simp [hb] at h
  | some o => exact (Array.getElem?_eq_some_iff.1 hb).1
theorem cells_of {w : World} {ad : Addr} {zs : List Nat} (h : Kd.C (Kd.int .u64) w (some ad) (zs.map (fun n : Nat => (n : Int))).length (zs.map (fun n : Nat => (n : Int)))) :
    ∀ j, j < zs.length → w.cell? (ad.add j) = some (.int .u64 ((zs.getD j 0 : Nat) : Int)) := fun j hj => by
  obtain ⟨ad', e, hc⟩ := h.2.2 (by rw [List.length_map]; omega)
  cases e
  obtain ⟨c, _, hk, hu⟩ := hc j ((zs.getD j 0 : Nat) : Int) (by rw [List.getElem?_map, List.getElem?_eq_getElem hj, List.getD_eq_getElem?_getD, List.getElem?_eq_getElem hj]; rfl)
  have hk' : c = [.int .u64 ((zs.getD j 0 : Nat) : Int)] := hk
  have := hu 0 _ (by rw [hk']; rfl)
  have hs : (Kd.int IntKind.u64).sz = 1 := rfl
  rw [hs, Nat.mul_one, Nat.add_zero] at this
  exact this
theorem some_of {w : World} {A : Option Addr} {zs : List Nat} (hne : zs ≠ []) (h : Kd.C (Kd.int .u64) w A (zs.map (fun n : Nat => (n : Int))).length (zs.map (fun n : Nat => (n : Int)))) : ∃ ad, A = some ad := by
  obtain ⟨ad, e, _⟩ := h.2.2 (by rw [List.length_map]; exact List.length_pos_iff.2 hne)
  exact ⟨ad, e⟩
theorem mids_row (A : Option Addr) (cp : Nat) (zs : List Nat) (hz : ∀ x ∈ zs, x < 18446744073709551616) (W : World) (hc : (zs.map (fun n : Nat => (n : Int))).length ≤ cp)
    (hr : Kd.C (Kd.int .u64) W A (zs.map (fun n : Nat => (n : Int))).length (zs.map (fun n : Nat => (n : Int)))) :
    Calls Try.prog 3 #[.slice A (zs.map (fun n : Nat => (n : Int))).length cp] W (Rl.True1 W) := by
  by_cases h2 : 200 < zs.length
  · exact Rl.mids_many A _ cp (by rw [List.length_map]; exact h2) W
  · obtain ⟨k, hk⟩ := Rl.f_mid zs hz (by omega)
    have hR : ∀ W' : World, RowKit.Below W.heap.size W W' → Calls Try.prog 15 #[.slice A (zs.map (fun n : Nat => (n : Int))).length cp] W' fun e w' => e = .returned (.int .u64 (Rl.midF zs : Nat)) ∧ Drawn0 W' w' :=
      fun W' hb => Pr.chantryref01_Mid.calls k A cp _ _ W' (Kd.C_below hr hb) hc hk
    by_cases hne : zs = []
    · subst hne
      exact Rl.mids_none A cp W (fun W' => by
        have hr0 : Kd.C (Kd.int .u64) W' A 0 ([] : List Int) := ⟨rfl, by omega, fun h => by omega⟩
        exact Pr.chantryref01_Mid.calls k A cp [] _ W' hr0 (Nat.zero_le _) hk)
    · obtain ⟨ad, rfl⟩ := some_of hne hr
      have hcs := cells_of hr
      rw [List.length_map] at hR ⊢
      have hb : ad.block < W.heap.size := by
        have := block_lt (hcs 0 (List.length_pos_iff.2 hne))
        unfold Addr.add at this
        simpa using this
      exact Rl.mids_any ad cp zs hz hne (by omega) W hb hcs hR
theorem midin_row (A : Option Addr) (cp : Nat) (zs : List Nat) (hz : ∀ x ∈ zs, x < 18446744073709551616) (W : World)
    (hr : Kd.C (Kd.int .u64) W A (zs.map (fun n : Nat => (n : Int))).length (zs.map (fun n : Nat => (n : Int)))) :
    Calls Try.prog 6 #[.slice A (zs.map (fun n : Nat => (n : Int))).length cp] W (Rl.True1 W) := by
  by_cases h2 : 200 < zs.length ∨ zs.length = 0
  · exact Rl.midin_none A _ cp (by rw [List.length_map]; exact h2) W
  · have hne : zs ≠ [] := fun e => by subst e; exact h2 (.inr rfl)
    obtain ⟨ad, rfl⟩ := some_of hne hr
    have hcs := cells_of hr
    rw [List.length_map]
    have hb : ad.block < W.heap.size := by
      have := block_lt (hcs 0 (List.length_pos_iff.2 hne))
      unfold Addr.add at this
      simpa using this
    exact Rl.midin_any ad cp zs hz hne (by omega) W hb hcs
end Go.Proofs.Ytjpgdaphkmeijaa.Row
