/- tree.Below leaves the world as it is: for regions that draw their order. -/
import Derived.Test.YtnpabhoflkppaaaDoorBelow14
set_option linter.unusedVariables false
set_option linter.unusedSimpArgs false
namespace Go.Proofs.YtnpabhoflkppaaaDoor.Pr
open Go.RowKit Go.Shelf Go.Proofs.YtnpabhoflkppaaaDoorW.PrintWords Go.Proofs.YtnpabhoflkppaaaDoorW.PrintLast

theorem len_same (a0 r : Int) (w : World) (h : bits_Len.f a0 = some r) : Calls Tryd.prog 22 #[.int .u64 a0] w fun e w' => e = .returned (.int .i64 r) ∧ w = w' := by
  unfold bits_Len.f at h
  split at h
  · rename_i hb
    obtain rfl := Option.some.inj h
    exact (Any.bits_Len bitsLen a0 w hb.1 hb.2).mono fun e w' ⟨he, hw⟩ => ⟨he, hw.symm⟩
  · cases h
set_option maxHeartbeats 8000000 in
set_option maxRecDepth 100000 in
theorem same_out (m n : Int) (h : n < 1 ∨ 31 < n) (w : World) : Calls Tryd.prog 15 #[.int .u16 m, .int .i64 n] w fun e w' => e = .returned (.int .u16 0) ∧ w = w' := by
  rcases h with h | h
  · go_enter Tryd.func15, Tryd.ntmps15
    go_wp2
    go_ret
    exact ⟨rfl, rfl⟩
  · have h1 : ¬ n < 1 := by omega
    go_enter Tryd.func15, Tryd.ntmps15
    go_wp2
    go_ret
    exact ⟨rfl, rfl⟩
set_option maxHeartbeats 8000000 in
set_option maxRecDepth 100000 in
theorem same_in (m : Nat) (hm : m < 65536) (w : World) : ∀ n : Nat, 1 ≤ n → n ≤ 31 → Calls Tryd.prog 15 #[.int .u16 (m : Int), .int .i64 (n : Int)] w fun e w' => e = .returned (.int .u16 ((m &&& maskN n : Nat) : Int)) ∧ w = w' := by
  intro n h1 h31
  have hn : n = 1 ∨ n = 2 ∨ n = 3 ∨ n = 4 ∨ n = 5 ∨ n = 6 ∨ n = 7 ∨ n = 8 ∨ n = 9 ∨ n = 10 ∨ n = 11 ∨ n = 12 ∨ n = 13 ∨ n = 14 ∨ n = 15 ∨ n = 16 ∨ n = 17 ∨ n = 18 ∨ n = 19 ∨ n = 20 ∨ n = 21 ∨ n = 22 ∨ n = 23 ∨ n = 24 ∨ n = 25 ∨ n = 26 ∨ n = 27 ∨ n = 28 ∨ n = 29 ∨ n = 30 ∨ n = 31 := by omega
  rcases hn with rfl | rfl | rfl | rfl | rfl | rfl | rfl | rfl | rfl | rfl | rfl | rfl | rfl | rfl | rfl | rfl | rfl | rfl | rfl | rfl | rfl | rfl | rfl | rfl | rfl | rfl | rfl | rfl | rfl | rfl | rfl
  · have hL : bits_Len.f 1 = some 1 := by kernel_rfl
    have hA : Go.bits .and .u16 (m : Int) 65535 = ((m &&& 65535 : Nat) : Int) := u16_and_nat m 65535 hm (by decide)
    go_enter Tryd.func15, Tryd.ntmps15
    go_wp2_with (first | (go_at_call 22; (with_reducible refine (len_same 16 5 _ l16).mono ?_); rintro e w' ⟨rfl, rfl⟩) | (go_at_call 22; (with_reducible refine (len_same 1 1 _ hL).mono ?_); rintro e w' ⟨rfl, rfl⟩))
    go_ret
    exact ⟨by first | rfl | (show _ = Ending.returned (Value.int IntKind.u16 ((m &&& 1 : Nat) : Int)); rw [Nat.and_one_is_mod]; rfl), rfl⟩
  · have hL : bits_Len.f 2 = some 2 := by kernel_rfl
    have hA : Go.bits .and .u16 (m : Int) 255 = ((m &&& 255 : Nat) : Int) := u16_and_nat m 255 hm (by decide)
    go_enter Tryd.func15, Tryd.ntmps15
    go_wp2_with (first | (go_at_call 22; (with_reducible refine (len_same 16 5 _ l16).mono ?_); rintro e w' ⟨rfl, rfl⟩) | (go_at_call 22; (with_reducible refine (len_same 2 2 _ hL).mono ?_); rintro e w' ⟨rfl, rfl⟩))
    go_ret
    exact ⟨by first | rfl | (show _ = Ending.returned (Value.int IntKind.u16 ((m &&& 1 : Nat) : Int)); rw [Nat.and_one_is_mod]; rfl), rfl⟩
  · have hL : bits_Len.f 3 = some 2 := by kernel_rfl
    have hA : Go.bits .and .u16 (m : Int) 65280 = ((m &&& 65280 : Nat) : Int) := u16_and_nat m 65280 hm (by decide)
    go_enter Tryd.func15, Tryd.ntmps15
    go_wp2_with (first | (go_at_call 22; (with_reducible refine (len_same 16 5 _ l16).mono ?_); rintro e w' ⟨rfl, rfl⟩) | (go_at_call 22; (with_reducible refine (len_same 3 2 _ hL).mono ?_); rintro e w' ⟨rfl, rfl⟩))
    go_ret
    exact ⟨by first | rfl | (show _ = Ending.returned (Value.int IntKind.u16 ((m &&& 1 : Nat) : Int)); rw [Nat.and_one_is_mod]; rfl), rfl⟩
  · have hL : bits_Len.f 4 = some 3 := by kernel_rfl
    have hA : Go.bits .and .u16 (m : Int) 15 = ((m &&& 15 : Nat) : Int) := u16_and_nat m 15 hm (by decide)
    go_enter Tryd.func15, Tryd.ntmps15
    go_wp2_with (first | (go_at_call 22; (with_reducible refine (len_same 16 5 _ l16).mono ?_); rintro e w' ⟨rfl, rfl⟩) | (go_at_call 22; (with_reducible refine (len_same 4 3 _ hL).mono ?_); rintro e w' ⟨rfl, rfl⟩))
    go_ret
    exact ⟨by first | rfl | (show _ = Ending.returned (Value.int IntKind.u16 ((m &&& 1 : Nat) : Int)); rw [Nat.and_one_is_mod]; rfl), rfl⟩
  · have hL : bits_Len.f 5 = some 3 := by kernel_rfl
    have hA : Go.bits .and .u16 (m : Int) 240 = ((m &&& 240 : Nat) : Int) := u16_and_nat m 240 hm (by decide)
    go_enter Tryd.func15, Tryd.ntmps15
    go_wp2_with (first | (go_at_call 22; (with_reducible refine (len_same 16 5 _ l16).mono ?_); rintro e w' ⟨rfl, rfl⟩) | (go_at_call 22; (with_reducible refine (len_same 5 3 _ hL).mono ?_); rintro e w' ⟨rfl, rfl⟩))
    go_ret
    exact ⟨by first | rfl | (show _ = Ending.returned (Value.int IntKind.u16 ((m &&& 1 : Nat) : Int)); rw [Nat.and_one_is_mod]; rfl), rfl⟩
  · have hL : bits_Len.f 6 = some 3 := by kernel_rfl
    have hA : Go.bits .and .u16 (m : Int) 3840 = ((m &&& 3840 : Nat) : Int) := u16_and_nat m 3840 hm (by decide)
    go_enter Tryd.func15, Tryd.ntmps15
    go_wp2_with (first | (go_at_call 22; (with_reducible refine (len_same 16 5 _ l16).mono ?_); rintro e w' ⟨rfl, rfl⟩) | (go_at_call 22; (with_reducible refine (len_same 6 3 _ hL).mono ?_); rintro e w' ⟨rfl, rfl⟩))
    go_ret
    exact ⟨by first | rfl | (show _ = Ending.returned (Value.int IntKind.u16 ((m &&& 1 : Nat) : Int)); rw [Nat.and_one_is_mod]; rfl), rfl⟩
  · have hL : bits_Len.f 7 = some 3 := by kernel_rfl
    have hA : Go.bits .and .u16 (m : Int) 61440 = ((m &&& 61440 : Nat) : Int) := u16_and_nat m 61440 hm (by decide)
    go_enter Tryd.func15, Tryd.ntmps15
    go_wp2_with (first | (go_at_call 22; (with_reducible refine (len_same 16 5 _ l16).mono ?_); rintro e w' ⟨rfl, rfl⟩) | (go_at_call 22; (with_reducible refine (len_same 7 3 _ hL).mono ?_); rintro e w' ⟨rfl, rfl⟩))
    go_ret
    exact ⟨by first | rfl | (show _ = Ending.returned (Value.int IntKind.u16 ((m &&& 1 : Nat) : Int)); rw [Nat.and_one_is_mod]; rfl), rfl⟩
  · have hL : bits_Len.f 8 = some 4 := by kernel_rfl
    have hA : Go.bits .and .u16 (m : Int) 3 = ((m &&& 3 : Nat) : Int) := u16_and_nat m 3 hm (by decide)
    go_enter Tryd.func15, Tryd.ntmps15
    go_wp2_with (first | (go_at_call 22; (with_reducible refine (len_same 16 5 _ l16).mono ?_); rintro e w' ⟨rfl, rfl⟩) | (go_at_call 22; (with_reducible refine (len_same 8 4 _ hL).mono ?_); rintro e w' ⟨rfl, rfl⟩))
    go_ret
    exact ⟨by first | rfl | (show _ = Ending.returned (Value.int IntKind.u16 ((m &&& 1 : Nat) : Int)); rw [Nat.and_one_is_mod]; rfl), rfl⟩
  · have hL : bits_Len.f 9 = some 4 := by kernel_rfl
    have hA : Go.bits .and .u16 (m : Int) 12 = ((m &&& 12 : Nat) : Int) := u16_and_nat m 12 hm (by decide)
    go_enter Tryd.func15, Tryd.ntmps15
    go_wp2_with (first | (go_at_call 22; (with_reducible refine (len_same 16 5 _ l16).mono ?_); rintro e w' ⟨rfl, rfl⟩) | (go_at_call 22; (with_reducible refine (len_same 9 4 _ hL).mono ?_); rintro e w' ⟨rfl, rfl⟩))
    go_ret
    exact ⟨by first | rfl | (show _ = Ending.returned (Value.int IntKind.u16 ((m &&& 1 : Nat) : Int)); rw [Nat.and_one_is_mod]; rfl), rfl⟩
  · have hL : bits_Len.f 10 = some 4 := by kernel_rfl
    have hA : Go.bits .and .u16 (m : Int) 48 = ((m &&& 48 : Nat) : Int) := u16_and_nat m 48 hm (by decide)
    go_enter Tryd.func15, Tryd.ntmps15
    go_wp2_with (first | (go_at_call 22; (with_reducible refine (len_same 16 5 _ l16).mono ?_); rintro e w' ⟨rfl, rfl⟩) | (go_at_call 22; (with_reducible refine (len_same 10 4 _ hL).mono ?_); rintro e w' ⟨rfl, rfl⟩))
    go_ret
    exact ⟨by first | rfl | (show _ = Ending.returned (Value.int IntKind.u16 ((m &&& 1 : Nat) : Int)); rw [Nat.and_one_is_mod]; rfl), rfl⟩
  · have hL : bits_Len.f 11 = some 4 := by kernel_rfl
    have hA : Go.bits .and .u16 (m : Int) 192 = ((m &&& 192 : Nat) : Int) := u16_and_nat m 192 hm (by decide)
    go_enter Tryd.func15, Tryd.ntmps15
    go_wp2_with (first | (go_at_call 22; (with_reducible refine (len_same 16 5 _ l16).mono ?_); rintro e w' ⟨rfl, rfl⟩) | (go_at_call 22; (with_reducible refine (len_same 11 4 _ hL).mono ?_); rintro e w' ⟨rfl, rfl⟩))
    go_ret
    exact ⟨by first | rfl | (show _ = Ending.returned (Value.int IntKind.u16 ((m &&& 1 : Nat) : Int)); rw [Nat.and_one_is_mod]; rfl), rfl⟩
  · have hL : bits_Len.f 12 = some 4 := by kernel_rfl
    have hA : Go.bits .and .u16 (m : Int) 768 = ((m &&& 768 : Nat) : Int) := u16_and_nat m 768 hm (by decide)
    go_enter Tryd.func15, Tryd.ntmps15
    go_wp2_with (first | (go_at_call 22; (with_reducible refine (len_same 16 5 _ l16).mono ?_); rintro e w' ⟨rfl, rfl⟩) | (go_at_call 22; (with_reducible refine (len_same 12 4 _ hL).mono ?_); rintro e w' ⟨rfl, rfl⟩))
    go_ret
    exact ⟨by first | rfl | (show _ = Ending.returned (Value.int IntKind.u16 ((m &&& 1 : Nat) : Int)); rw [Nat.and_one_is_mod]; rfl), rfl⟩
  · have hL : bits_Len.f 13 = some 4 := by kernel_rfl
    have hA : Go.bits .and .u16 (m : Int) 3072 = ((m &&& 3072 : Nat) : Int) := u16_and_nat m 3072 hm (by decide)
    go_enter Tryd.func15, Tryd.ntmps15
    go_wp2_with (first | (go_at_call 22; (with_reducible refine (len_same 16 5 _ l16).mono ?_); rintro e w' ⟨rfl, rfl⟩) | (go_at_call 22; (with_reducible refine (len_same 13 4 _ hL).mono ?_); rintro e w' ⟨rfl, rfl⟩))
    go_ret
    exact ⟨by first | rfl | (show _ = Ending.returned (Value.int IntKind.u16 ((m &&& 1 : Nat) : Int)); rw [Nat.and_one_is_mod]; rfl), rfl⟩
  · have hL : bits_Len.f 14 = some 4 := by kernel_rfl
    have hA : Go.bits .and .u16 (m : Int) 12288 = ((m &&& 12288 : Nat) : Int) := u16_and_nat m 12288 hm (by decide)
    go_enter Tryd.func15, Tryd.ntmps15
    go_wp2_with (first | (go_at_call 22; (with_reducible refine (len_same 16 5 _ l16).mono ?_); rintro e w' ⟨rfl, rfl⟩) | (go_at_call 22; (with_reducible refine (len_same 14 4 _ hL).mono ?_); rintro e w' ⟨rfl, rfl⟩))
    go_ret
    exact ⟨by first | rfl | (show _ = Ending.returned (Value.int IntKind.u16 ((m &&& 1 : Nat) : Int)); rw [Nat.and_one_is_mod]; rfl), rfl⟩
  · have hL : bits_Len.f 15 = some 4 := by kernel_rfl
    have hA : Go.bits .and .u16 (m : Int) 49152 = ((m &&& 49152 : Nat) : Int) := u16_and_nat m 49152 hm (by decide)
    go_enter Tryd.func15, Tryd.ntmps15
    go_wp2_with (first | (go_at_call 22; (with_reducible refine (len_same 16 5 _ l16).mono ?_); rintro e w' ⟨rfl, rfl⟩) | (go_at_call 22; (with_reducible refine (len_same 15 4 _ hL).mono ?_); rintro e w' ⟨rfl, rfl⟩))
    go_ret
    exact ⟨by first | rfl | (show _ = Ending.returned (Value.int IntKind.u16 ((m &&& 1 : Nat) : Int)); rw [Nat.and_one_is_mod]; rfl), rfl⟩
  · have hL : bits_Len.f 16 = some 5 := by kernel_rfl
    have hA : Go.bits .and .u16 (m : Int) 1 = ((m &&& 1 : Nat) : Int) := u16_and_nat m 1 hm (by decide)
    go_enter Tryd.func15, Tryd.ntmps15
    go_wp2_with (first | (go_at_call 22; (with_reducible refine (len_same 16 5 _ l16).mono ?_); rintro e w' ⟨rfl, rfl⟩) | (go_at_call 22; (with_reducible refine (len_same 16 5 _ hL).mono ?_); rintro e w' ⟨rfl, rfl⟩))
    go_ret
    exact ⟨by first | rfl | (show _ = Ending.returned (Value.int IntKind.u16 ((m &&& 1 : Nat) : Int)); rw [Nat.and_one_is_mod]; rfl), rfl⟩
  · have hL : bits_Len.f 17 = some 5 := by kernel_rfl
    have hA : Go.bits .and .u16 (m : Int) 2 = ((m &&& 2 : Nat) : Int) := u16_and_nat m 2 hm (by decide)
    go_enter Tryd.func15, Tryd.ntmps15
    go_wp2_with (first | (go_at_call 22; (with_reducible refine (len_same 16 5 _ l16).mono ?_); rintro e w' ⟨rfl, rfl⟩) | (go_at_call 22; (with_reducible refine (len_same 17 5 _ hL).mono ?_); rintro e w' ⟨rfl, rfl⟩))
    go_ret
    exact ⟨by first | rfl | (show _ = Ending.returned (Value.int IntKind.u16 ((m &&& 1 : Nat) : Int)); rw [Nat.and_one_is_mod]; rfl), rfl⟩
  · have hL : bits_Len.f 18 = some 5 := by kernel_rfl
    have hA : Go.bits .and .u16 (m : Int) 4 = ((m &&& 4 : Nat) : Int) := u16_and_nat m 4 hm (by decide)
    go_enter Tryd.func15, Tryd.ntmps15
    go_wp2_with (first | (go_at_call 22; (with_reducible refine (len_same 16 5 _ l16).mono ?_); rintro e w' ⟨rfl, rfl⟩) | (go_at_call 22; (with_reducible refine (len_same 18 5 _ hL).mono ?_); rintro e w' ⟨rfl, rfl⟩))
    go_ret
    exact ⟨by first | rfl | (show _ = Ending.returned (Value.int IntKind.u16 ((m &&& 1 : Nat) : Int)); rw [Nat.and_one_is_mod]; rfl), rfl⟩
  · have hL : bits_Len.f 19 = some 5 := by kernel_rfl
    have hA : Go.bits .and .u16 (m : Int) 8 = ((m &&& 8 : Nat) : Int) := u16_and_nat m 8 hm (by decide)
    go_enter Tryd.func15, Tryd.ntmps15
    go_wp2_with (first | (go_at_call 22; (with_reducible refine (len_same 16 5 _ l16).mono ?_); rintro e w' ⟨rfl, rfl⟩) | (go_at_call 22; (with_reducible refine (len_same 19 5 _ hL).mono ?_); rintro e w' ⟨rfl, rfl⟩))
    go_ret
    exact ⟨by first | rfl | (show _ = Ending.returned (Value.int IntKind.u16 ((m &&& 1 : Nat) : Int)); rw [Nat.and_one_is_mod]; rfl), rfl⟩
  · have hL : bits_Len.f 20 = some 5 := by kernel_rfl
    have hA : Go.bits .and .u16 (m : Int) 16 = ((m &&& 16 : Nat) : Int) := u16_and_nat m 16 hm (by decide)
    go_enter Tryd.func15, Tryd.ntmps15
    go_wp2_with (first | (go_at_call 22; (with_reducible refine (len_same 16 5 _ l16).mono ?_); rintro e w' ⟨rfl, rfl⟩) | (go_at_call 22; (with_reducible refine (len_same 20 5 _ hL).mono ?_); rintro e w' ⟨rfl, rfl⟩))
    go_ret
    exact ⟨by first | rfl | (show _ = Ending.returned (Value.int IntKind.u16 ((m &&& 1 : Nat) : Int)); rw [Nat.and_one_is_mod]; rfl), rfl⟩
  · have hL : bits_Len.f 21 = some 5 := by kernel_rfl
    have hA : Go.bits .and .u16 (m : Int) 32 = ((m &&& 32 : Nat) : Int) := u16_and_nat m 32 hm (by decide)
    go_enter Tryd.func15, Tryd.ntmps15
    go_wp2_with (first | (go_at_call 22; (with_reducible refine (len_same 16 5 _ l16).mono ?_); rintro e w' ⟨rfl, rfl⟩) | (go_at_call 22; (with_reducible refine (len_same 21 5 _ hL).mono ?_); rintro e w' ⟨rfl, rfl⟩))
    go_ret
    exact ⟨by first | rfl | (show _ = Ending.returned (Value.int IntKind.u16 ((m &&& 1 : Nat) : Int)); rw [Nat.and_one_is_mod]; rfl), rfl⟩
  · have hL : bits_Len.f 22 = some 5 := by kernel_rfl
    have hA : Go.bits .and .u16 (m : Int) 64 = ((m &&& 64 : Nat) : Int) := u16_and_nat m 64 hm (by decide)
    go_enter Tryd.func15, Tryd.ntmps15
    go_wp2_with (first | (go_at_call 22; (with_reducible refine (len_same 16 5 _ l16).mono ?_); rintro e w' ⟨rfl, rfl⟩) | (go_at_call 22; (with_reducible refine (len_same 22 5 _ hL).mono ?_); rintro e w' ⟨rfl, rfl⟩))
    go_ret
    exact ⟨by first | rfl | (show _ = Ending.returned (Value.int IntKind.u16 ((m &&& 1 : Nat) : Int)); rw [Nat.and_one_is_mod]; rfl), rfl⟩
  · have hL : bits_Len.f 23 = some 5 := by kernel_rfl
    have hA : Go.bits .and .u16 (m : Int) 128 = ((m &&& 128 : Nat) : Int) := u16_and_nat m 128 hm (by decide)
    go_enter Tryd.func15, Tryd.ntmps15
    go_wp2_with (first | (go_at_call 22; (with_reducible refine (len_same 16 5 _ l16).mono ?_); rintro e w' ⟨rfl, rfl⟩) | (go_at_call 22; (with_reducible refine (len_same 23 5 _ hL).mono ?_); rintro e w' ⟨rfl, rfl⟩))
    go_ret
    exact ⟨by first | rfl | (show _ = Ending.returned (Value.int IntKind.u16 ((m &&& 1 : Nat) : Int)); rw [Nat.and_one_is_mod]; rfl), rfl⟩
  · have hL : bits_Len.f 24 = some 5 := by kernel_rfl
    have hA : Go.bits .and .u16 (m : Int) 256 = ((m &&& 256 : Nat) : Int) := u16_and_nat m 256 hm (by decide)
    go_enter Tryd.func15, Tryd.ntmps15
    go_wp2_with (first | (go_at_call 22; (with_reducible refine (len_same 16 5 _ l16).mono ?_); rintro e w' ⟨rfl, rfl⟩) | (go_at_call 22; (with_reducible refine (len_same 24 5 _ hL).mono ?_); rintro e w' ⟨rfl, rfl⟩))
    go_ret
    exact ⟨by first | rfl | (show _ = Ending.returned (Value.int IntKind.u16 ((m &&& 1 : Nat) : Int)); rw [Nat.and_one_is_mod]; rfl), rfl⟩
  · have hL : bits_Len.f 25 = some 5 := by kernel_rfl
    have hA : Go.bits .and .u16 (m : Int) 512 = ((m &&& 512 : Nat) : Int) := u16_and_nat m 512 hm (by decide)
    go_enter Tryd.func15, Tryd.ntmps15
    go_wp2_with (first | (go_at_call 22; (with_reducible refine (len_same 16 5 _ l16).mono ?_); rintro e w' ⟨rfl, rfl⟩) | (go_at_call 22; (with_reducible refine (len_same 25 5 _ hL).mono ?_); rintro e w' ⟨rfl, rfl⟩))
    go_ret
    exact ⟨by first | rfl | (show _ = Ending.returned (Value.int IntKind.u16 ((m &&& 1 : Nat) : Int)); rw [Nat.and_one_is_mod]; rfl), rfl⟩
  · have hL : bits_Len.f 26 = some 5 := by kernel_rfl
    have hA : Go.bits .and .u16 (m : Int) 1024 = ((m &&& 1024 : Nat) : Int) := u16_and_nat m 1024 hm (by decide)
    go_enter Tryd.func15, Tryd.ntmps15
    go_wp2_with (first | (go_at_call 22; (with_reducible refine (len_same 16 5 _ l16).mono ?_); rintro e w' ⟨rfl, rfl⟩) | (go_at_call 22; (with_reducible refine (len_same 26 5 _ hL).mono ?_); rintro e w' ⟨rfl, rfl⟩))
    go_ret
    exact ⟨by first | rfl | (show _ = Ending.returned (Value.int IntKind.u16 ((m &&& 1 : Nat) : Int)); rw [Nat.and_one_is_mod]; rfl), rfl⟩
  · have hL : bits_Len.f 27 = some 5 := by kernel_rfl
    have hA : Go.bits .and .u16 (m : Int) 2048 = ((m &&& 2048 : Nat) : Int) := u16_and_nat m 2048 hm (by decide)
    go_enter Tryd.func15, Tryd.ntmps15
    go_wp2_with (first | (go_at_call 22; (with_reducible refine (len_same 16 5 _ l16).mono ?_); rintro e w' ⟨rfl, rfl⟩) | (go_at_call 22; (with_reducible refine (len_same 27 5 _ hL).mono ?_); rintro e w' ⟨rfl, rfl⟩))
    go_ret
    exact ⟨by first | rfl | (show _ = Ending.returned (Value.int IntKind.u16 ((m &&& 1 : Nat) : Int)); rw [Nat.and_one_is_mod]; rfl), rfl⟩
  · have hL : bits_Len.f 28 = some 5 := by kernel_rfl
    have hA : Go.bits .and .u16 (m : Int) 4096 = ((m &&& 4096 : Nat) : Int) := u16_and_nat m 4096 hm (by decide)
    go_enter Tryd.func15, Tryd.ntmps15
    go_wp2_with (first | (go_at_call 22; (with_reducible refine (len_same 16 5 _ l16).mono ?_); rintro e w' ⟨rfl, rfl⟩) | (go_at_call 22; (with_reducible refine (len_same 28 5 _ hL).mono ?_); rintro e w' ⟨rfl, rfl⟩))
    go_ret
    exact ⟨by first | rfl | (show _ = Ending.returned (Value.int IntKind.u16 ((m &&& 1 : Nat) : Int)); rw [Nat.and_one_is_mod]; rfl), rfl⟩
  · have hL : bits_Len.f 29 = some 5 := by kernel_rfl
    have hA : Go.bits .and .u16 (m : Int) 8192 = ((m &&& 8192 : Nat) : Int) := u16_and_nat m 8192 hm (by decide)
    go_enter Tryd.func15, Tryd.ntmps15
    go_wp2_with (first | (go_at_call 22; (with_reducible refine (len_same 16 5 _ l16).mono ?_); rintro e w' ⟨rfl, rfl⟩) | (go_at_call 22; (with_reducible refine (len_same 29 5 _ hL).mono ?_); rintro e w' ⟨rfl, rfl⟩))
    go_ret
    exact ⟨by first | rfl | (show _ = Ending.returned (Value.int IntKind.u16 ((m &&& 1 : Nat) : Int)); rw [Nat.and_one_is_mod]; rfl), rfl⟩
  · have hL : bits_Len.f 30 = some 5 := by kernel_rfl
    have hA : Go.bits .and .u16 (m : Int) 16384 = ((m &&& 16384 : Nat) : Int) := u16_and_nat m 16384 hm (by decide)
    go_enter Tryd.func15, Tryd.ntmps15
    go_wp2_with (first | (go_at_call 22; (with_reducible refine (len_same 16 5 _ l16).mono ?_); rintro e w' ⟨rfl, rfl⟩) | (go_at_call 22; (with_reducible refine (len_same 30 5 _ hL).mono ?_); rintro e w' ⟨rfl, rfl⟩))
    go_ret
    exact ⟨by first | rfl | (show _ = Ending.returned (Value.int IntKind.u16 ((m &&& 1 : Nat) : Int)); rw [Nat.and_one_is_mod]; rfl), rfl⟩
  · have hL : bits_Len.f 31 = some 5 := by kernel_rfl
    have hA : Go.bits .and .u16 (m : Int) 32768 = ((m &&& 32768 : Nat) : Int) := u16_and_nat m 32768 hm (by decide)
    go_enter Tryd.func15, Tryd.ntmps15
    go_wp2_with (first | (go_at_call 22; (with_reducible refine (len_same 16 5 _ l16).mono ?_); rintro e w' ⟨rfl, rfl⟩) | (go_at_call 22; (with_reducible refine (len_same 31 5 _ hL).mono ?_); rintro e w' ⟨rfl, rfl⟩))
    go_ret
    exact ⟨by first | rfl | (show _ = Ending.returned (Value.int IntKind.u16 ((m &&& 1 : Nat) : Int)); rw [Nat.and_one_is_mod]; rfl), rfl⟩

theorem below_same (s : Nat) (hs : s < 65536) (nd : Int) (w : World) : Calls Tryd.prog 15 #[.int .u16 (s : Int), .int .i64 nd] w fun e w' => e = .returned (.int .u16 (belowI (s : Int) nd)) ∧ w = w' := by
  unfold belowI
  split
  · rename_i hn
    have := same_in s hs w nd.toNat (by omega) (by omega)
    rw [Int.toNat_of_nonneg (by omega)] at this
    rw [Int.toNat_natCast]
    exact this
  · rename_i hn
    exact same_out (s : Int) nd (by omega) w
end Go.Proofs.YtnpabhoflkppaaaDoor.Pr
