/- slices.Chunk over bytes: its iterator's contract: what each round is handed. After the shelf's page on ranges over functions. -/
import Derived.Test.YtimfhdpgkoonaaaIterKp
set_option linter.unusedVariables false
set_option linter.unusedSimpArgs false
namespace Go.Proofs.Ytimfhdpgkoonaaa.Iter
open Go.RowKit Go.Shelf Go.Proofs.YtimfhdpgkoonaaaW.PrintWords
attribute [local go_sem] Oper.semAt_some

/-- The numbers of the pieces of a row of so many bytes. -/
abbrev Ck (len : Nat) := { k : Nat // 40 * k < len }
def ckV (g len k : Nat) : Value := .slice (some ⟨g, 40 * k, none⟩) (min 40 (len - 40 * k)) (min 40 (len - 40 * k))

set_option maxRecDepth 100000 in
set_option maxHeartbeats 2000000 in
theorem chunk_in (F : Fence) (n : Nat) (h5 : F.fn 44) (hro : F.round = none) (a : Option Addr) (len cap : Nat) (w : World) :
    CallsIn F n Try.prog 44 #[.slice a len cap, .int .i64 40] w fun e w' => e = .returned (.func (.func 49) #[] #[.pointer (some ⟨w.heap.size, 0, none⟩), .pointer (some ⟨w.heap.size + 1, 0, none⟩)]) ∧
      w' = (w.alloc (.cells #[.slice a len cap] 24)).alloc (.cells #[.int .i64 40] 3) := by
  refine callsIn_of_wp Try.func44 rfl h5 ?_ hro
  simp only [Try.ntmps44, List.size_toArray, List.length_cons, List.length_nil, Nat.reduceAdd, Nat.reduceSub, Array.replicate_succ, Array.replicate_zero, List.push_toArray, List.append_toArray, List.nil_append, List.cons_append]
  gi_wp2
  go_ret
  exact ⟨rfl, rfl⟩

set_option maxRecDepth 100000 in
set_option maxHeartbeats 2000000 in
theorem chunk1_in (F : Fence) (n : Nat) (h7 : F.fn 49) (hro : F.round = none) (hn : 1 ≤ n) (l Bs Bn g len cap : Nat) (hlen : len ≤ 100000) (hcap : len ≤ cap) (J Jx : List (Ck len) → World → Prop) (hJd : ∀ pre W, J pre W → J pre W.drew)
    (hY : ∀ pre x W, J pre W → pre.length < len → YieldAt F (n - 1) Try.prog l #[ckV g len x.1] W fun e W' =>
      (e = .returned (.bool true) ∧ J (pre ++ [x]) W' ∧ Kp2 Bs Bn W W') ∨ (e = .returned (.bool false) ∧ Jx (pre ++ [x]) W'))
    (W : World) (hBs : W.heap[Bs]? = some (.cells #[.slice (some ⟨g, 0, none⟩) len cap] 24 (0, 0))) (hBn : W.heap[Bn]? = some (.cells #[.int .i64 40] 3 (0, 0))) (h0 : J [] W) :
    CallsIn F n Try.prog 49 #[.func (.yield l) #[] #[], .pointer (some ⟨Bs, 0, none⟩), .pointer (some ⟨Bn, 0, none⟩)] W fun e W' => (∃ v, e = .returned v) ∧
      ((∃ ys : List (Ck len), ys.map (·.1) = List.range ((len + 39) / 40) ∧ J ys W') ∨ (∃ pre, Jx pre W')) := by
  refine callsIn_of_wp Try.func49 rfl h7 ?_ hro
  simp only [Try.ntmps49, List.size_toArray, List.length_cons, List.length_nil, Nat.reduceAdd, Nat.reduceSub, Array.replicate_succ, Array.replicate_zero, List.push_toArray, List.append_toArray, List.nil_append, List.cons_append]
  gi_wp2
  gi_loopw [4] (fun i wr => ∃ (k : Nat) (pre : List (Ck len)), 40 * k < len + 40 ∧ i = .int .i64 ((40 * k : Nat) : Int) ∧ pre.map (·.1) = List.range k ∧ J pre wr ∧ Kp2 Bs Bn W wr)
    (fun i _ => len + 40 - (intOf i).toNat)
  case atStart => exact ⟨0, [], by omega, rfl, rfl, h0, Kp2.refl _ _ _⟩
  case round =>
    obtain ⟨k, pre, hk, rfl, hpre, hJs, hkp⟩ := hrel
    have hs := blk_cell (hkp.1.trans hBs) 0
    have hc := blk_cell (hkp.2.trans hBn) 0
    have hs' : wr.cell? ⟨Bs, 0, none⟩ = some (.slice (some ⟨g, 0, none⟩) len cap) := hs
    have hc' : wr.cell? ⟨Bn, 0, none⟩ = some (.int .i64 40) := hc
    clear hs hc
    have hpl : pre.length = k := by have := congrArg List.length hpre; simpa using this
    by_cases hlt : 40 * k < len
    · have z0 : (0 : Int) ≤ 40 * (k : Int) := by omega
      have z1 : 40 * (k : Int) ≤ (len : Int) := by omega
      obtain ⟨fn, tmps, assign, body, hy, hR⟩ := hY pre ⟨k, hlt⟩ wr.drew (hJd _ _ hJs) (by omega)
      dsimp only at hy
      by_cases hm : 40 * k + 40 ≤ len
      · have hv : ckV g len k = .slice (some ⟨g, 40 * k, none⟩) 40 40 := by
          unfold ckV; rw [Nat.min_eq_left (by omega)]
        rw [hv] at hy
        have e1 : (40 * (k : Int) + 40).toNat - 40 * k = 40 := by omega
        have e2 : (40 : Int) ≤ ((len - 40 * k : Nat) : Int) := by omega
        have e3 : (40 : Int) ≤ ((len - (40 * (k : Int)).toNat : Nat) : Int) := by omega
        gi_wp2
        gi_region
        all_goals gi_wp2
        all_goals (
          refine hR.mono ?_
          rintro e W3 (⟨rfl, hJ3, hk3⟩ | ⟨rfl, hJx3⟩)
          · have hkp3 : Kp2 Bs Bn W W3 := hkp.trans hk3
            have hc3 : W3.cell? ⟨Bn, 0, none⟩ = some (.int .i64 40) := blk_cell (hkp3.2.trans hBn) 0
            clear hs' hc'
            gi_wp2
            go_roundw
            case rel => exact ⟨k + 1, pre ++ [⟨k, hlt⟩], by omega, by congr 1, by rw [List.map_append, hpre, List.range_succ]; rfl, hJ3, hkp3⟩
            case measure => simp [intOf]; omega
          · gi_wp2
            refine bodyPost_ret (results_none rfl _ _ _) rfl ?_
            exact ⟨⟨_, rfl⟩, .inr ⟨_, hJx3⟩⟩)
      · have hv : ckV g len k = .slice (some ⟨g, 40 * k, none⟩) (len - 40 * k) (len - 40 * k) := by
          unfold ckV; rw [Nat.min_eq_right (by omega)]
        rw [hv] at hy
        have e1 : (40 * (k : Int) + ((len - 40 * k : Nat) : Int)).toNat - 40 * k = len - 40 * k := by omega
        have e2 : ((len - 40 * k : Nat) : Int) < 40 := by omega
        have e3 : ((len - (40 * (k : Int)).toNat : Nat) : Int) < 40 := by omega
        gi_wp2
        gi_region
        all_goals gi_wp2
        all_goals (
          refine hR.mono ?_
          rintro e W3 (⟨rfl, hJ3, hk3⟩ | ⟨rfl, hJx3⟩)
          · have hkp3 : Kp2 Bs Bn W W3 := hkp.trans hk3
            have hc3 : W3.cell? ⟨Bn, 0, none⟩ = some (.int .i64 40) := blk_cell (hkp3.2.trans hBn) 0
            clear hs' hc'
            gi_wp2
            go_roundw
            case rel => exact ⟨k + 1, pre ++ [⟨k, hlt⟩], by omega, by congr 1, by rw [List.map_append, hpre, List.range_succ]; rfl, hJ3, hkp3⟩
            case measure => simp [intOf]; omega
          · gi_wp2
            refine bodyPost_ret (results_none rfl _ _ _) rfl ?_
            exact ⟨⟨_, rfl⟩, .inr ⟨_, hJx3⟩⟩)
    · have hz : k = (len + 39) / 40 := by omega
      gi_wp2
      go_end0
      exact ⟨⟨_, rfl⟩, .inl ⟨pre, by rw [hpre, hz], hJs⟩⟩
end Go.Proofs.Ytimfhdpgkoonaaa.Iter
