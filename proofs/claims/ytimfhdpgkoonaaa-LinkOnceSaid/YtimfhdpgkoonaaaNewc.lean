/- term.NewConst of up to forty bytes: its contract. -/
import Derived.Test.YtimfhdpgkoonaaaMake
import Derived.Below
import Derived.Deep.Draws
import Derived.Deep.AppendLies
import Derived.Maps.AppendAt
import Derived.OwnWalk
import Derived.Laws.BytesArg
import Derived.Laws.MakeOwn
import Derived.Laws.OwnMore
import Derived.Deep.OwnRows
import Derived.Tactics
import Derived.Lib.ConvBytes
import Derived.Laws.Slices
import Derived.WalkKit
import Derived.KernelRfl
import Derived.RowKit3
import Derived.Deep.LoopGhost
import Derived.Deep.QuietTactic
import Derived.BigQuiet
import Derived.WideLaws
import Derived.Deep.DeepCutAuto
import Derived.Deep.CutBlock
import Derived.Deep.RegionHeld3
import Derived.Laws.Rows
import Derived.Lib.AppendStr
import Derived.ArgAppend
import Derived.Laws.IdiomCopy
import Derived.OrdersHeld
import Derived.Laws.BitsLemmas
import Derived.RowKit
import Derived.Test.YtimfhdpgkoonaaaWWords
import Derived.Test.YtimfhdpgkoonaaaWLast
import Derived.Test.YtimfhdpgkoonaaaWTab
import Derived.Test.YtimfhdpgkoonaaaWApart
import Derived.Test.YtimfhdpgkoonaaaWArr
import Derived.Test.YtimfhdpgkoonaaaWFoot
import Derived.Test.YtimfhdpgkoonaaaWKept
import Derived.Test.YtimfhdpgkoonaaaWShare
import Derived.Test.YtimfhdpgkoonaaaWN
import Derived.Test.YtimfhdpgkoonaaaWEqStruct
import Derived.Test.YtimfhdpgkoonaaaWRepsOne
import Derived.Test.YtimfhdpgkoonaaaWInv
import Derived.Test.YtimfhdpgkoonaaaWGuard
import Derived.Test.YtimfhdpgkoonaaaWMore
set_option linter.unusedVariables false
set_option linter.unusedSimpArgs false
namespace Go.Proofs.Ytimfhdpgkoonaaa.Iter
open Go.RowKit Go.Proofs.YtimfhdpgkoonaaaW.PrintWords Go.Proofs.YtimfhdpgkoonaaaW.PrintLast Go.Proofs.YtimfhdpgkoonaaaW.PrintMore

def constB (b : ByteArray) : ByteArray := strOfNums ([99, ((b.size : Int)) % 256] : List Int) ++ b
set_option maxHeartbeats 8000000 in
set_option maxRecDepth 100000 in
theorem newConst_calls (a0 : ByteArray) (w : World) (hs : a0.size ≤ 40) :
    Calls Try.prog 26 #[.string a0] w fun e w' => e = .returned (.tuple #[.string (constB a0), .int .i64 0]) ∧ Below w.heap.size w w' := by
  have HB := Aside0.mk (Below.refl w.heap.size w)
  have c2b0 : decide (40 < (a0.size : Int)) = false := decide_eq_false (by omega)
  have c2b1 : decide (40 < a0.size) = false := decide_eq_false (by omega)
  unfold constB
  obtain ⟨y101, hy101⟩ : ∃ y_ : List Int, y_ = (([99, ((a0.size : Int)) % 256] : List Int)) := ⟨_, rfl⟩
  rw [← hy101]
  have c3 : (strOfNums y101).size + a0.size ≤ 9223372036854775807 := by
    have e : (strOfNums y101).size = 2 := by rw [hy101]; rfl
    omega
  clear hs
  have Ny101 := Aside0.mk hy101
  clear hy101
  have c3b0 := eq_true c3
  have c3b1 : decide ((strOfNums y101).size + a0.size ≤ 9223372036854775807) = true := decide_eq_true c3
  try have c3b2 : (9223372036854775807 < (strOfNums y101).size + a0.size) = False := eq_false (Nat.not_lt.2 c3)
  go_enter Try.func26, Try.ntmps26
  go_wp2_with (first | ((with_reducible refine gate_dst (N := 10) rfl ?_); refine Kd.R_lit (Kd.int .u8) _ 5 ?hg (N := 10) ?hd (xs := ([99, ((a0.size : Int)) % 256] : List Int)) (inner := [.int .u8 99, .int .u8 (((a0.size : Int)) % 256)]) (ok := fun _ => True) (okp := fun _ => True) ?hr ?hp (fun _ hk => hk) trivial (Below.refl _ _) (Nat.le_refl _) (by simp) ?_; (case hd => rfl); (case hg => rfl); (case hr => first | (go_simp; done) | (go_simp; rfl)); (case hp => exact (Reps.one (show Kd.M (Kd.int .u8) _ _ _ 99 [.int .u8 99] from rfl) (Reps.one (show Kd.M (Kd.int .u8) _ _ _ (((a0.size : Int)) % 256) [.int .u8 (((a0.size : Int)) % 256)] from rfl) (Reps.none _ _)))); intro v102 w4 ho5 hb hg_ hnew_; clear hg_ hnew_; (first | rw [← Ny101.out] at ho5 | (simp only [Int.reduceToNat] at ho5; rw [← Ny101.out] at ho5)); have n0_ := Aside0.mk (Kd.R_lower ho5 (below_size (by repeat (first | (with_reducible first | exact HB.out | apply below_alloc | apply pw_below_drewN | apply below_drew1) | exact HB.out)))); have n1_ := Aside0.mk (below_step (by repeat (first | (with_reducible first | exact HB.out | apply below_alloc | apply pw_below_drewN | apply below_drew1) | exact HB.out)) hb); clear HB; have HO103 := n0_; have HB := n1_; clear n0_ n1_; clear hb ho5; have hcv6 := own_string (P := Try.prog) Try.underlying24 Try.underlying5 Try.underlying22 (Kd.own_of_R HO103.out)))
  go_ret2
  exact ⟨by first | rfl | (simp [] <;> rfl) | (simp [*] <;> rfl), by repeat (first | (with_reducible first | exact HB.out | apply below_alloc | apply pw_below_drewN | apply below_drew1) | exact HB.out)⟩
end Go.Proofs.Ytimfhdpgkoonaaa.Iter
