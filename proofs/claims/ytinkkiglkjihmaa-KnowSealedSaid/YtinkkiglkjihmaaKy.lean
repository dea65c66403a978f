/- know.Known: its contract. -/
import Derived.Test.YtinkkiglkjihmaaKn
import Derived.Sort.KeysCollected
import Derived.Shelf.SlIter.Sorted
import Derived.Shelf.SlIter.Keys
import Derived.Shelf.SortM.Plain
import Derived.Shelf.SortM.SortNone
set_option linter.unusedVariables false
set_option linter.unusedSimpArgs false
set_option maxRecDepth 100000
namespace Go.Proofs.Ytinkkiglkjihmaa.Kw
open Go.RowKit Go.Maps Go.WideMaps Go.Sort Go.Shelf Go.Proofs.YtinkkiglkjihmaaW.PrintWords Go.Proofs.YtinkkiglkjihmaaW.PrintWords.Kd
open TT (check subsOf)

def keysI_ren : Go.Shelf.Ren := ⟨fun | 7 => 28 | 10 => 47 | n => n, fun | 23 => 57 | 26 => 23 | 3 => 58 | 28 => 55 | 0 => 0 | 27 => 54 | 33 => 41 | 4 => 4 | n => n, fun | n => n⟩
theorem keysI : Go.Proofs.SlLaysZ.n7 Try.prog keysI_ren := {
  mixed := by kernel_rfl,
  f7 := ⟨Try.f28.name, by decide, Try.func28.trans (congrArg some (by kernel_rfl))⟩,
  f10 := ⟨Try.f47.name, by decide, Try.func47.trans (congrArg some (by kernel_rfl))⟩,
  t0 := Try.underlying0,
  a0 := Try.isAgg0,
  z0 := Try.sizeOf0,
  v0 := Try.zeroValue0,
  t4 := Try.underlying4,
  a4 := Try.isAgg4,
  z4 := Try.sizeOf4,
  v4 := Try.zeroValue4,
  t23 := Try.underlying57,
  a23 := Try.isAgg57,
  z23 := Try.sizeOf57,
  v23 := Try.zeroValue57,
  t26 := Try.underlying23,
  a26 := Try.isAgg23,
  z26 := Try.sizeOf23,
  v26 := Try.zeroValue23,
  t27 := Try.underlying54,
  a27 := Try.isAgg54,
  z27 := Try.sizeOf54,
  v27 := Try.zeroValue54,
  t28 := Try.underlying55,
  a28 := Try.isAgg55,
  z28 := Try.sizeOf55,
  v28 := Try.zeroValue55,
  t33 := Try.underlying41,
  a33 := Try.isAgg41,
  z33 := Try.sizeOf41,
  v33 := Try.zeroValue41 }

def sortedI_ren : Go.Shelf.Ren := ⟨fun | 6 => 27 | 8 => 45 | 9 => 46 | 11 => 56 | 13 => 58 | 12 => 57 | 23 => 73 | 24 => 74 | 14 => 64 | 15 => 65 | 16 => 66 | 17 => 67 | 18 => 68 | 19 => 69 | 20 => 70 | 21 => 71 | 22 => 72 | 25 => 77 | 26 => 78 | 27 => 79 | 28 => 80 | 29 => 81 | 30 => 82 | 31 => 83 | n => n, fun | 26 => 23 | 28 => 55 | 24 => 22 | 0 => 0 | 3 => 3 | 37 => 67 | 48 => 113 | 50 => 115 | 4 => 4 | 40 => 105 | 39 => 104 | 45 => 110 | 5 => 5 | 9 => 9 | 51 => 117 | 55 => 121 | 57 => 123 | 58 => 124 | 33 => 41 | n => n, fun | n => n⟩
theorem sortedI : Go.Proofs.SlLaysZ.n6 Try.prog sortedI_ren := {
  mixed := by kernel_rfl,
  f6 := ⟨Try.f27.name, by decide, Try.func27.trans (congrArg some (by kernel_rfl))⟩,
  f8 := ⟨Try.f45.name, by decide, Try.func45.trans (congrArg some (by kernel_rfl))⟩,
  f11 := ⟨Try.f56.name, by decide, Try.func56.trans (congrArg some (by kernel_rfl))⟩,
  t0 := Try.underlying0,
  a0 := Try.isAgg0,
  z0 := Try.sizeOf0,
  v0 := Try.zeroValue0,
  t24 := Try.underlying22,
  a24 := Try.isAgg22,
  z24 := Try.sizeOf22,
  v24 := Try.zeroValue22,
  t26 := Try.underlying23,
  a26 := Try.isAgg23,
  z26 := Try.sizeOf23,
  v26 := Try.zeroValue23,
  t28 := Try.underlying55,
  a28 := Try.isAgg55,
  z28 := Try.sizeOf55,
  v28 := Try.zeroValue55,
  i26 := by kernel_rfl }

def sortI_ren : Go.Shelf.Ren := ⟨fun | 6 => 46 | 8 => 58 | 9 => 57 | 19 => 73 | 20 => 74 | 21 => 64 | 22 => 65 | 23 => 66 | 24 => 67 | 25 => 68 | 26 => 69 | 27 => 70 | 28 => 71 | 29 => 72 | 36 => 77 | 31 => 78 | 32 => 79 | 37 => 80 | 38 => 81 | 39 => 82 | 41 => 83 | n => n, fun | 27 => 22 | 29 => 23 | 3 => 3 | 32 => 67 | 26 => 22 | 0 => 0 | 44 => 113 | 46 => 115 | 4 => 4 | 36 => 105 | 35 => 104 | 41 => 110 | 5 => 5 | 9 => 9 | 53 => 117 | 57 => 121 | 63 => 123 | 64 => 124 | n => n, fun | n => n⟩
theorem sortI : Go.Proofs.SlLaysM.n6 Try.prog sortI_ren := {
  mixed := by kernel_rfl,
  f6 := ⟨Try.f46.name, by decide, Try.func46.trans (congrArg some (by kernel_rfl))⟩,
  f8 := Try.func58.trans (congrArg some (by kernel_rfl)),
  f9 := ⟨Try.f57.name, by decide, Try.func57.trans (congrArg some (by kernel_rfl))⟩,
  f19 := Try.func73.trans (congrArg some (by kernel_rfl)),
  f20 := Try.func74.trans (congrArg some (by kernel_rfl)),
  f21 := ⟨Try.f64.name, by decide, Try.func64.trans (congrArg some (by kernel_rfl))⟩,
  f22 := ⟨Try.f65.name, by decide, Try.func65.trans (congrArg some (by kernel_rfl))⟩,
  f23 := ⟨Try.f66.name, by decide, Try.func66.trans (congrArg some (by kernel_rfl))⟩,
  f24 := ⟨Try.f67.name, by decide, Try.func67.trans (congrArg some (by kernel_rfl))⟩,
  f25 := ⟨Try.f68.name, by decide, Try.func68.trans (congrArg some (by kernel_rfl))⟩,
  f26 := ⟨Try.f69.name, by decide, Try.func69.trans (congrArg some (by kernel_rfl))⟩,
  f27 := ⟨Try.f70.name, by decide, Try.func70.trans (congrArg some (by kernel_rfl))⟩,
  f28 := ⟨Try.f71.name, by decide, Try.func71.trans (congrArg some (by kernel_rfl))⟩,
  f29 := ⟨Try.f72.name, by decide, Try.func72.trans (congrArg some (by kernel_rfl))⟩,
  f31 := Try.func78.trans (congrArg some (by kernel_rfl)),
  f32 := Try.func79.trans (congrArg some (by kernel_rfl)),
  f36 := ⟨Try.f77.name, by decide, Try.func77.trans (congrArg some (by kernel_rfl))⟩,
  f37 := ⟨Try.f80.name, by decide, Try.func80.trans (congrArg some (by kernel_rfl))⟩,
  f38 := ⟨Try.f81.name, by decide, Try.func81.trans (congrArg some (by kernel_rfl))⟩,
  f39 := ⟨Try.f82.name, by decide, Try.func82.trans (congrArg some (by kernel_rfl))⟩,
  f41 := ⟨Try.f83.name, by decide, Try.func83.trans (congrArg some (by kernel_rfl))⟩,
  t0 := Try.underlying0,
  a0 := Try.isAgg0,
  z0 := Try.sizeOf0,
  v0 := Try.zeroValue0,
  t3 := Try.underlying3,
  a3 := Try.isAgg3,
  z3 := Try.sizeOf3,
  v3 := Try.zeroValue3,
  t4 := Try.underlying4,
  a4 := Try.isAgg4,
  z4 := Try.sizeOf4,
  v4 := Try.zeroValue4,
  t5 := Try.underlying5,
  a5 := Try.isAgg5,
  z5 := Try.sizeOf5,
  v5 := Try.zeroValue5,
  t9 := Try.underlying9,
  a9 := Try.isAgg9,
  z9 := Try.sizeOf9,
  v9 := Try.zeroValue9,
  t26 := Try.underlying22,
  a26 := Try.isAgg22,
  z26 := Try.sizeOf22,
  v26 := Try.zeroValue22,
  t27 := Try.underlying22,
  a27 := Try.isAgg22,
  z27 := Try.sizeOf22,
  v27 := Try.zeroValue22,
  t29 := Try.underlying23,
  a29 := Try.isAgg23,
  z29 := Try.sizeOf23,
  v29 := Try.zeroValue23,
  t32 := Try.underlying67,
  a32 := Try.isAgg67,
  z32 := Try.sizeOf67,
  v32 := Try.zeroValue67,
  t35 := Try.underlying104,
  a35 := Try.isAgg104,
  z35 := Try.sizeOf104,
  v35 := Try.zeroValue104,
  t36 := Try.underlying105,
  a36 := Try.isAgg105,
  z36 := Try.sizeOf105,
  v36 := Try.zeroValue105,
  t41 := Try.underlying110,
  a41 := Try.isAgg110,
  z41 := Try.sizeOf110,
  v41 := Try.zeroValue110,
  t44 := Try.underlying113,
  a44 := Try.isAgg113,
  z44 := Try.sizeOf113,
  v44 := Try.zeroValue113,
  t46 := Try.underlying115,
  a46 := Try.isAgg115,
  z46 := Try.sizeOf115,
  v46 := Try.zeroValue115,
  t53 := Try.underlying117,
  a53 := Try.isAgg117,
  z53 := Try.sizeOf117,
  v53 := Try.zeroValue117,
  t57 := Try.underlying121,
  a57 := Try.isAgg121,
  z57 := Try.sizeOf121,
  v57 := Try.zeroValue121,
  t63 := Try.underlying123,
  a63 := Try.isAgg123,
  z63 := Try.sizeOf123,
  v63 := Try.zeroValue123,
  t64 := Try.underlying124,
  a64 := Try.isAgg124,
  z64 := Try.sizeOf124,
  v64 := Try.zeroValue124 }

theorem sortsI (m : Nat) : AnyZ.SortsIn Try.prog sortedI_ren Fence.wide m :=
  ⟨fun blk off cap ss W hH hblk hsz => callsIn_wide.2 (AnyM.slices_Sort_string sortI blk off cap ss W hH hblk hsz),
   fun p cap W => callsIn_wide.2 (AnyM.slices_Sort_string_none sortI p cap W)⟩
set_option maxHeartbeats 1000000 in
/-- 'slices.Sorted(maps.Keys(m))', m being a map as MapAt has it: its keys, sorted. -/
theorem keys_sorted (b n : Nat) (H : List UInt8 → Option Value) (w : World) (hm : MapAt w b n H) (hn : n ≤ 100000000) (ks : List (List UInt8)) (hnd : ks.Nodup) (hk : ∀ k, k ∈ ks ↔ (H k).isSome = true) :
    (Calls Try.prog 28 #[.map (some b)] w fun e w' => e = .returned (.func (.func 47) #[] #[.pointer (some ⟨w.heap.size, 0, none⟩)]) ∧ w' = w.alloc (.cells #[.map (some b)] 57)) ∧
    Calls Try.prog 27 #[.func (.func 47) #[] #[.pointer (some ⟨w.heap.size, 0, none⟩)]] (w.alloc (.cells #[.map (some b)] 57)) fun e w' => ∃ v, e = .returned v ∧
      w'.ownsRow w.heap.size 23 1 v (ks.mergeSort leB).length ((ks.mergeSort leB).map encStr) ∧ RowKit.Below w.heap.size w w' := by
  obtain ⟨D0, hown, hR⟩ := hm
  have hbl := hown.lt
  have hsz := hown.size_le
  have hperm : ks.Perm (strKeys D0) := Collected.perm (left := fun _ => false) ⟨hnd, fun x => by rw [hk x, hR.has x]; simp⟩ hown law Try.underlying23 (fun _ => rfl)
  have hseq : SeqGives Fence.wide 2 Try.prog 47 #[.pointer (some ⟨w.heap.size, 0, none⟩)] encStr (fun ss => ss.Perm (strKeys D0)) (Maps.size D0) (w.alloc (.cells #[.map (some b)] 57)) :=
    AnyZ.keys_gives (ρ := keysI_ren) { keysI with } Fence.wide _ trivial rfl (by omega) w.heap.size b n D0 _ (by simp) (by simp) (by
      obtain ⟨es, clock, hb, Ft, hs, hD⟩ := hown
      exact ⟨es, clock, (Below.heap_alloc _ _ b hbl).trans hb, Ft, hs, hD⟩)
  have cK : CallsIn Fence.wide 5 Try.prog 28 #[.map (some b)] w fun e w' => e = .returned (.func (.func 47) #[] #[.pointer (some ⟨w.heap.size, 0, none⟩)]) ∧ w' = w.alloc (.cells #[.map (some b)] 57) := AnyZ.keys_in keysI Fence.wide 5 trivial rfl (some b) w
  have h63 : maxLen = 9223372036854775807 := rfl
  have cS := AnyZ.sorted_in sortedI Fence.wide 5 trivial trivial trivial trivial rfl (by omega) (sortsI _) (enters_of Try.func46 (by kernel_rfl) rfl) 47 #[.pointer (some ⟨w.heap.size, 0, none⟩)] trivial (enters_of Try.func47 (by kernel_rfl) rfl) _ _ (by omega) (by omega) _ hseq
  refine ⟨(callsIn_wide (n := 5)).1 cK, (callsIn_wide (n := 5)).1 (cS.mono ?_)⟩
  rintro e w' ⟨v, ss, rfl, hS, hrow, hnil, hb⟩
  have hp : ss.Perm ks := hS.trans hperm.symm
  have e1 : ss.mergeSort leB = ks.mergeSort leB := mergeSort_of_perm hp
  have e2 : ss.length = (ks.mergeSort leB).length := by rw [List.length_mergeSort]; exact hp.length_eq
  refine ⟨v, rfl, ?_, ((RowKit.Below.refl _ w).alloc (Nat.le_refl _) _).trans (hb.mono (by simp))⟩
  rw [← e1, List.length_mergeSort]
  exact ownsRow_base_a hrow (by simp)
end Go.Proofs.Ytinkkiglkjihmaa.Kw
