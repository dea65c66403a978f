/- slices.Backward over strings: its maker and its iterator's contract. -/
import Derived.Test.YtimfhdpgkoonaaaIterKp
set_option linter.unusedVariables false
set_option linter.unusedSimpArgs false
namespace Go.Proofs.Ytimfhdpgkoonaaa.Iter
open Go.RowKit Go.Shelf Go.Proofs.YtimfhdpgkoonaaaW.PrintWords
attribute [local go_sem] Oper.semAt_some

/-- What has come when k rounds are over: m - 1, .., m - k. -/
def downto (m k : Nat) : List Nat := (List.range k).map (fun j => m - 1 - j)
theorem downto_succ (m k : Nat) : downto m (k + 1) = downto m k ++ [m - 1 - k] := by simp [downto, List.range_succ]
theorem downto_length (m k : Nat) : (downto m k).length = k := by simp [downto]

set_option maxRecDepth 100000 in
set_option maxHeartbeats 2000000 in
theorem backward_in (F : Fence) (n : Nat) (h5 : F.fn 45) (hro : F.round = none) (a : Option Addr) (len cap : Nat) (w : World) :
    CallsIn F n Try.prog 45 #[.slice a len cap] w fun e w' => e = .returned (.func (.func 50) #[] #[.pointer (some ⟨w.heap.size, 0, none⟩)]) ∧
      w' = w.alloc (.cells #[.slice a len cap] 72) := by
  refine callsIn_of_wp Try.func45 rfl h5 ?_ hro
  simp only [Try.ntmps45, List.size_toArray, List.length_cons, List.length_nil, Nat.reduceAdd, Nat.reduceSub, Array.replicate_succ, Array.replicate_zero, List.push_toArray, List.append_toArray, List.nil_append, List.cons_append]
  gi_wp2
  go_ret
  exact ⟨rfl, rfl⟩

set_option maxRecDepth 100000 in
set_option maxHeartbeats 2000000 in
theorem backward1_in (F : Fence) (n : Nat) (h7 : F.fn 50) (hro : F.round = none) (hn : 1 ≤ n) (l Bs g len cap : Nat) (zs : List ByteArray) (hlen : len ≤ 100000) (J Jx : List Nat → World → Prop)
    (hY : ∀ (pre : List Nat) (x : Nat) W, J pre W → pre.length < len → YieldAt F (n - 1) Try.prog l #[.int .i64 (x : Int), .string (zs.getD x ⟨#[]⟩)] W fun e W' =>
      (e = .returned (.bool true) ∧ J (pre ++ [x]) W' ∧ Kp2 Bs g W W') ∨ (e = .returned (.bool false) ∧ Jx (pre ++ [x]) W'))
    (W : World) (hBs : W.cell? ⟨Bs, 0, none⟩ = some (.slice (some ⟨g, 0, none⟩) len cap)) (hc : ∀ j, j < len → W.cell? ⟨g, j, none⟩ = some (.string (zs.getD j ⟨#[]⟩))) (h0 : J [] W) :
    CallsIn F n Try.prog 50 #[.func (.yield l) #[] #[], .pointer (some ⟨Bs, 0, none⟩)] W fun e W' => (∃ v, e = .returned v) ∧
      ((∃ ys, ys = downto len len ∧ J ys W') ∨ (∃ pre, True ∧ Jx pre W')) := by
  refine callsIn_of_wp Try.func50 rfl h7 ?_ hro
  simp only [Try.ntmps50, List.size_toArray, List.length_cons, List.length_nil, Nat.reduceAdd, Nat.reduceSub, Array.replicate_succ, Array.replicate_zero, List.push_toArray, List.append_toArray, List.nil_append, List.cons_append]
  gi_wp2
  gi_loopw [3] (fun i wr => ∃ k : Nat, k ≤ len ∧ i = .int .i64 ((len : Int) - 1 - k) ∧ J (downto len k) wr ∧ Kp2 Bs g W wr)
    (fun i _ => (intOf i + 1).toNat)
  case atStart => exact ⟨0, Nat.zero_le _, by simp, h0, Kp2.refl _ _ _⟩
  case round =>
    obtain ⟨k, hk, rfl, hJs, hkp⟩ := hrel
    have hs' : wr.cell? ⟨Bs, 0, none⟩ = some (.slice (some ⟨g, 0, none⟩) len cap) := (hkp.cell1 0).trans hBs
    by_cases hlt : k < len
    · obtain ⟨m, hm⟩ : ∃ m : Nat, m = len - 1 - k := ⟨_, rfl⟩
      have hmi : (len : Int) - 1 - k = (m : Int) := by omega
      rw [hmi]
      have hcx : wr.cell? ⟨g, m, none⟩ = some (.string (zs.getD m ⟨#[]⟩)) := (hkp.cell2 m).trans (hc m (by omega))
      have hml : (m : Int) < (len : Int) := by omega
      obtain ⟨fn, tmps, assign, body, hy, hR⟩ := hY _ m wr hJs (by rw [downto_length]; exact hlt)
      have hm2 : RowKit.Hid (m = len - 1 - k) := hm
      clear hm hmi
      generalize zs.getD m ⟨#[]⟩ = z at hy hcx
      gi_wp2
      refine hR.mono ?_
      rintro e W3 (⟨rfl, hJ3, hk3⟩ | ⟨rfl, hJx3⟩)
      · gi_wp2
        go_roundw
        case rel => have hm : m = len - 1 - k := hm2; exact ⟨k + 1, by omega, by congr 1; omega, by rw [downto_succ, ← hm]; exact hJ3, hkp.trans hk3⟩
        case measure => have hm : m = len - 1 - k := hm2; simp [intOf] <;> omega
      · gi_wp2
        refine bodyPost_ret (results_none rfl _ _ _) rfl ?_
        exact ⟨⟨_, rfl⟩, .inr ⟨_, trivial, hJx3⟩⟩
    · obtain rfl : k = len := by omega
      have hz : (k : Int) - 1 - k = -1 := by omega
      rw [hz]
      gi_wp2
      go_end0
      exact ⟨⟨_, rfl⟩, .inl ⟨_, rfl, hJs⟩⟩

theorem backward_stops (F : Fence) (n : Nat) (h7 : F.fn 50) (hro : F.round = none) (hn : 1 ≤ n) (Bs g len cap : Nat) (zs : List ByteArray) (hlen : len ≤ 100000) (w : World) (hBl : Bs < w.heap.size) (hgl : g < w.heap.size)
    (hBs : w.cell? ⟨Bs, 0, none⟩ = some (.slice (some ⟨g, 0, none⟩) len cap)) (hc : ∀ j, j < len → w.cell? ⟨g, j, none⟩ = some (.string (zs.getD j ⟨#[]⟩))) :
    SeqStopsK F n Try.prog 50 #[.pointer (some ⟨Bs, 0, none⟩)] (fun x : Nat => #[Value.int .i64 (x : Int), .string (zs.getD x ⟨#[]⟩)]) (Kp2 Bs g) (fun ys => ys = downto len len)
      (fun _ => True) len w := fun l J Jx W hW _ _ hY h0 =>
  backward1_in F n h7 hro hn l Bs g len cap zs hlen J Jx hY W ((hW.cell (p := ⟨Bs, 0, none⟩) hBl).trans hBs) (fun j hj => (hW.cell (p := ⟨g, j, none⟩) hgl).trans (hc j hj)) h0
end Go.Proofs.Ytimfhdpgkoonaaa.Iter
