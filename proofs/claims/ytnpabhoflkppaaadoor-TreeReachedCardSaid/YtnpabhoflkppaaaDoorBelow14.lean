/- tree.Below: its contract, in the print's form; sets of members by their bits. -/
import Derived.Test.YtnpabhoflkppaaaDoorPrx2
set_option linter.unusedVariables false
set_option linter.unusedSimpArgs false
namespace Go.Proofs.YtnpabhoflkppaaaDoor.Pr
open Go.RowKit Go.Shelf Go.Proofs.YtnpabhoflkppaaaDoorW.PrintWords Go.Proofs.YtnpabhoflkppaaaDoorW.PrintLast

/-- The members below a node, as a set. -/
def maskL : List Nat := [0, 65535, 255, 65280, 15, 240, 3840, 61440, 3, 12, 48, 192, 768, 3072, 12288, 49152, 1, 2, 4, 8, 16, 32, 64, 128, 256, 512, 1024, 2048, 4096, 8192, 16384, 32768]
def maskN (n : Nat) : Nat := maskL.getD n 0
def belowI (m : Int) (node : Int) : Int := if 1 ≤ node ∧ node ≤ 31 then ((m.toNat &&& maskN node.toNat : Nat) : Int) else 0
def tree_Below.f (k : Nat) (a0 : Int) (a1 : Int) : Option Int := if 0 ≤ a0 ∧ a0 < 65536 then some (belowI a0 a1) else none
theorem tree_Below.mono : ∀ a0 a1 k, LeO (tree_Below.f k a0 a1) (tree_Below.f (k + 1) a0 a1) := fun _ _ _ => LeO.refl _

theorem len_all : ((List.range 32).all fun n => n == 0 || (bits_Len.f (n : Int) == some ((Lib.bitLen n : Nat) : Int))) = true := by decide +kernel
set_option maxHeartbeats 8000000 in
set_option maxRecDepth 100000 in
theorem below_out (m n : Int) (h : n < 1 ∨ 31 < n) (w : World) : Calls Tryd.prog 15 #[.int .u16 m, .int .i64 n] w fun e w' => e = .returned (.int .u16 0) ∧ RowKit.Below w.heap.size w w' := by
  rcases h with h | h
  · go_enter Tryd.func15, Tryd.ntmps15
    go_wp2
    go_ret
    exact ⟨rfl, RowKit.Below.refl _ _⟩
  · have h1 : ¬ n < 1 := by omega
    go_enter Tryd.func15, Tryd.ntmps15
    go_wp2
    go_ret
    exact ⟨rfl, RowKit.Below.refl _ _⟩
theorem l16 : bits_Len.f 16 = some 5 := by kernel_rfl
set_option maxHeartbeats 8000000 in
set_option maxRecDepth 100000 in
theorem below_in (m : Nat) (hm : m < 65536) (w : World) : ∀ n : Nat, 1 ≤ n → n ≤ 31 → Calls Tryd.prog 15 #[.int .u16 (m : Int), .int .i64 (n : Int)] w fun e w' => e = .returned (.int .u16 ((m &&& maskN n : Nat) : Int)) ∧ RowKit.Below w.heap.size w w' := by
  intro n h1 h31
  have hn : n = 1 ∨ n = 2 ∨ n = 3 ∨ n = 4 ∨ n = 5 ∨ n = 6 ∨ n = 7 ∨ n = 8 ∨ n = 9 ∨ n = 10 ∨ n = 11 ∨ n = 12 ∨ n = 13 ∨ n = 14 ∨ n = 15 ∨ n = 16 ∨ n = 17 ∨ n = 18 ∨ n = 19 ∨ n = 20 ∨ n = 21 ∨ n = 22 ∨ n = 23 ∨ n = 24 ∨ n = 25 ∨ n = 26 ∨ n = 27 ∨ n = 28 ∨ n = 29 ∨ n = 30 ∨ n = 31 := by omega
  rcases hn with rfl | rfl | rfl | rfl | rfl | rfl | rfl | rfl | rfl | rfl | rfl | rfl | rfl | rfl | rfl | rfl | rfl | rfl | rfl | rfl | rfl | rfl | rfl | rfl | rfl | rfl | rfl | rfl | rfl | rfl | rfl
  · have hL : bits_Len.f 1 = some 1 := by kernel_rfl
    have hA : Go.bits .and .u16 (m : Int) 65535 = ((m &&& 65535 : Nat) : Int) := u16_and_nat m 65535 hm (by decide)
    have HB := Lib.hid (RowKit.Below.refl w.heap.size w)
    go_enter Tryd.func15, Tryd.ntmps15
    go_wp2_with (first | (go_at_call 22; (with_reducible refine (bits_Len.calls 16 5 _ l16).mono ?_); rintro e w' ⟨rfl, hb⟩; have HB2 := Lib.hid (HB.out.trans (hb.mono HB.out.size)); clear HB hb; have HB := HB2; clear HB2) | (go_at_call 22; (with_reducible refine (bits_Len.calls 1 1 _ hL).mono ?_); rintro e w' ⟨rfl, hb⟩; have HB2 := Lib.hid (HB.out.trans (hb.mono HB.out.size)); clear HB hb; have HB := HB2; clear HB2))
    go_ret
    exact ⟨by first | rfl | (show _ = Ending.returned (Value.int IntKind.u16 ((m &&& 1 : Nat) : Int)); rw [Nat.and_one_is_mod]; rfl), HB.out⟩
  · have hL : bits_Len.f 2 = some 2 := by kernel_rfl
    have hA : Go.bits .and .u16 (m : Int) 255 = ((m &&& 255 : Nat) : Int) := u16_and_nat m 255 hm (by decide)
    have HB := Lib.hid (RowKit.Below.refl w.heap.size w)
    go_enter Tryd.func15, Tryd.ntmps15
    go_wp2_with (first | (go_at_call 22; (with_reducible refine (bits_Len.calls 16 5 _ l16).mono ?_); rintro e w' ⟨rfl, hb⟩; have HB2 := Lib.hid (HB.out.trans (hb.mono HB.out.size)); clear HB hb; have HB := HB2; clear HB2) | (go_at_call 22; (with_reducible refine (bits_Len.calls 2 2 _ hL).mono ?_); rintro e w' ⟨rfl, hb⟩; have HB2 := Lib.hid (HB.out.trans (hb.mono HB.out.size)); clear HB hb; have HB := HB2; clear HB2))
    go_ret
    exact ⟨by first | rfl | (show _ = Ending.returned (Value.int IntKind.u16 ((m &&& 1 : Nat) : Int)); rw [Nat.and_one_is_mod]; rfl), HB.out⟩
  · have hL : bits_Len.f 3 = some 2 := by kernel_rfl
    have hA : Go.bits .and .u16 (m : Int) 65280 = ((m &&& 65280 : Nat) : Int) := u16_and_nat m 65280 hm (by decide)
    have HB := Lib.hid (RowKit.Below.refl w.heap.size w)
    go_enter Tryd.func15, Tryd.ntmps15
    go_wp2_with (first | (go_at_call 22; (with_reducible refine (bits_Len.calls 16 5 _ l16).mono ?_); rintro e w' ⟨rfl, hb⟩; have HB2 := Lib.hid (HB.out.trans (hb.mono HB.out.size)); clear HB hb; have HB := HB2; clear HB2) | (go_at_call 22; (with_reducible refine (bits_Len.calls 3 2 _ hL).mono ?_); rintro e w' ⟨rfl, hb⟩; have HB2 := Lib.hid (HB.out.trans (hb.mono HB.out.size)); clear HB hb; have HB := HB2; clear HB2))
    go_ret
    exact ⟨by first | rfl | (show _ = Ending.returned (Value.int IntKind.u16 ((m &&& 1 : Nat) : Int)); rw [Nat.and_one_is_mod]; rfl), HB.out⟩
  · have hL : bits_Len.f 4 = some 3 := by kernel_rfl
    have hA : Go.bits .and .u16 (m : Int) 15 = ((m &&& 15 : Nat) : Int) := u16_and_nat m 15 hm (by decide)
    have HB := Lib.hid (RowKit.Below.refl w.heap.size w)
    go_enter Tryd.func15, Tryd.ntmps15
    go_wp2_with (first | (go_at_call 22; (with_reducible refine (bits_Len.calls 16 5 _ l16).mono ?_); rintro e w' ⟨rfl, hb⟩; have HB2 := Lib.hid (HB.out.trans (hb.mono HB.out.size)); clear HB hb; have HB := HB2; clear HB2) | (go_at_call 22; (with_reducible refine (bits_Len.calls 4 3 _ hL).mono ?_); rintro e w' ⟨rfl, hb⟩; have HB2 := Lib.hid (HB.out.trans (hb.mono HB.out.size)); clear HB hb; have HB := HB2; clear HB2))
    go_ret
    exact ⟨by first | rfl | (show _ = Ending.returned (Value.int IntKind.u16 ((m &&& 1 : Nat) : Int)); rw [Nat.and_one_is_mod]; rfl), HB.out⟩
  · have hL : bits_Len.f 5 = some 3 := by kernel_rfl
    have hA : Go.bits .and .u16 (m : Int) 240 = ((m &&& 240 : Nat) : Int) := u16_and_nat m 240 hm (by decide)
    have HB := Lib.hid (RowKit.Below.refl w.heap.size w)
    go_enter Tryd.func15, Tryd.ntmps15
    go_wp2_with (first | (go_at_call 22; (with_reducible refine (bits_Len.calls 16 5 _ l16).mono ?_); rintro e w' ⟨rfl, hb⟩; have HB2 := Lib.hid (HB.out.trans (hb.mono HB.out.size)); clear HB hb; have HB := HB2; clear HB2) | (go_at_call 22; (with_reducible refine (bits_Len.calls 5 3 _ hL).mono ?_); rintro e w' ⟨rfl, hb⟩; have HB2 := Lib.hid (HB.out.trans (hb.mono HB.out.size)); clear HB hb; have HB := HB2; clear HB2))
    go_ret
    exact ⟨by first | rfl | (show _ = Ending.returned (Value.int IntKind.u16 ((m &&& 1 : Nat) : Int)); rw [Nat.and_one_is_mod]; rfl), HB.out⟩
  · have hL : bits_Len.f 6 = some 3 := by kernel_rfl
    have hA : Go.bits .and .u16 (m : Int) 3840 = ((m &&& 3840 : Nat) : Int) := u16_and_nat m 3840 hm (by decide)
    have HB := Lib.hid (RowKit.Below.refl w.heap.size w)
    go_enter Tryd.func15, Tryd.ntmps15
    go_wp2_with (first | (go_at_call 22; (with_reducible refine (bits_Len.calls 16 5 _ l16).mono ?_); rintro e w' ⟨rfl, hb⟩; have HB2 := Lib.hid (HB.out.trans (hb.mono HB.out.size)); clear HB hb; have HB := HB2; clear HB2) | (go_at_call 22; (with_reducible refine (bits_Len.calls 6 3 _ hL).mono ?_); rintro e w' ⟨rfl, hb⟩; have HB2 := Lib.hid (HB.out.trans (hb.mono HB.out.size)); clear HB hb; have HB := HB2; clear HB2))
    go_ret
    exact ⟨by first | rfl | (show _ = Ending.returned (Value.int IntKind.u16 ((m &&& 1 : Nat) : Int)); rw [Nat.and_one_is_mod]; rfl), HB.out⟩
  · have hL : bits_Len.f 7 = some 3 := by kernel_rfl
    have hA : Go.bits .and .u16 (m : Int) 61440 = ((m &&& 61440 : Nat) : Int) := u16_and_nat m 61440 hm (by decide)
    have HB := Lib.hid (RowKit.Below.refl w.heap.size w)
    go_enter Tryd.func15, Tryd.ntmps15
    go_wp2_with (first | (go_at_call 22; (with_reducible refine (bits_Len.calls 16 5 _ l16).mono ?_); rintro e w' ⟨rfl, hb⟩; have HB2 := Lib.hid (HB.out.trans (hb.mono HB.out.size)); clear HB hb; have HB := HB2; clear HB2) | (go_at_call 22; (with_reducible refine (bits_Len.calls 7 3 _ hL).mono ?_); rintro e w' ⟨rfl, hb⟩; have HB2 := Lib.hid (HB.out.trans (hb.mono HB.out.size)); clear HB hb; have HB := HB2; clear HB2))
    go_ret
    exact ⟨by first | rfl | (show _ = Ending.returned (Value.int IntKind.u16 ((m &&& 1 : Nat) : Int)); rw [Nat.and_one_is_mod]; rfl), HB.out⟩
  · have hL : bits_Len.f 8 = some 4 := by kernel_rfl
    have hA : Go.bits .and .u16 (m : Int) 3 = ((m &&& 3 : Nat) : Int) := u16_and_nat m 3 hm (by decide)
    have HB := Lib.hid (RowKit.Below.refl w.heap.size w)
    go_enter Tryd.func15, Tryd.ntmps15
    go_wp2_with (first | (go_at_call 22; (with_reducible refine (bits_Len.calls 16 5 _ l16).mono ?_); rintro e w' ⟨rfl, hb⟩; have HB2 := Lib.hid (HB.out.trans (hb.mono HB.out.size)); clear HB hb; have HB := HB2; clear HB2) | (go_at_call 22; (with_reducible refine (bits_Len.calls 8 4 _ hL).mono ?_); rintro e w' ⟨rfl, hb⟩; have HB2 := Lib.hid (HB.out.trans (hb.mono HB.out.size)); clear HB hb; have HB := HB2; clear HB2))
    go_ret
    exact ⟨by first | rfl | (show _ = Ending.returned (Value.int IntKind.u16 ((m &&& 1 : Nat) : Int)); rw [Nat.and_one_is_mod]; rfl), HB.out⟩
  · have hL : bits_Len.f 9 = some 4 := by kernel_rfl
    have hA : Go.bits .and .u16 (m : Int) 12 = ((m &&& 12 : Nat) : Int) := u16_and_nat m 12 hm (by decide)
    have HB := Lib.hid (RowKit.Below.refl w.heap.size w)
    go_enter Tryd.func15, Tryd.ntmps15
    go_wp2_with (first | (go_at_call 22; (with_reducible refine (bits_Len.calls 16 5 _ l16).mono ?_); rintro e w' ⟨rfl, hb⟩; have HB2 := Lib.hid (HB.out.trans (hb.mono HB.out.size)); clear HB hb; have HB := HB2; clear HB2) | (go_at_call 22; (with_reducible refine (bits_Len.calls 9 4 _ hL).mono ?_); rintro e w' ⟨rfl, hb⟩; have HB2 := Lib.hid (HB.out.trans (hb.mono HB.out.size)); clear HB hb; have HB := HB2; clear HB2))
    go_ret
    exact ⟨by first | rfl | (show _ = Ending.returned (Value.int IntKind.u16 ((m &&& 1 : Nat) : Int)); rw [Nat.and_one_is_mod]; rfl), HB.out⟩
  · have hL : bits_Len.f 10 = some 4 := by kernel_rfl
    have hA : Go.bits .and .u16 (m : Int) 48 = ((m &&& 48 : Nat) : Int) := u16_and_nat m 48 hm (by decide)
    have HB := Lib.hid (RowKit.Below.refl w.heap.size w)
    go_enter Tryd.func15, Tryd.ntmps15
    go_wp2_with (first | (go_at_call 22; (with_reducible refine (bits_Len.calls 16 5 _ l16).mono ?_); rintro e w' ⟨rfl, hb⟩; have HB2 := Lib.hid (HB.out.trans (hb.mono HB.out.size)); clear HB hb; have HB := HB2; clear HB2) | (go_at_call 22; (with_reducible refine (bits_Len.calls 10 4 _ hL).mono ?_); rintro e w' ⟨rfl, hb⟩; have HB2 := Lib.hid (HB.out.trans (hb.mono HB.out.size)); clear HB hb; have HB := HB2; clear HB2))
    go_ret
    exact ⟨by first | rfl | (show _ = Ending.returned (Value.int IntKind.u16 ((m &&& 1 : Nat) : Int)); rw [Nat.and_one_is_mod]; rfl), HB.out⟩
  · have hL : bits_Len.f 11 = some 4 := by kernel_rfl
    have hA : Go.bits .and .u16 (m : Int) 192 = ((m &&& 192 : Nat) : Int) := u16_and_nat m 192 hm (by decide)
    have HB := Lib.hid (RowKit.Below.refl w.heap.size w)
    go_enter Tryd.func15, Tryd.ntmps15
    go_wp2_with (first | (go_at_call 22; (with_reducible refine (bits_Len.calls 16 5 _ l16).mono ?_); rintro e w' ⟨rfl, hb⟩; have HB2 := Lib.hid (HB.out.trans (hb.mono HB.out.size)); clear HB hb; have HB := HB2; clear HB2) | (go_at_call 22; (with_reducible refine (bits_Len.calls 11 4 _ hL).mono ?_); rintro e w' ⟨rfl, hb⟩; have HB2 := Lib.hid (HB.out.trans (hb.mono HB.out.size)); clear HB hb; have HB := HB2; clear HB2))
    go_ret
    exact ⟨by first | rfl | (show _ = Ending.returned (Value.int IntKind.u16 ((m &&& 1 : Nat) : Int)); rw [Nat.and_one_is_mod]; rfl), HB.out⟩
  · have hL : bits_Len.f 12 = some 4 := by kernel_rfl
    have hA : Go.bits .and .u16 (m : Int) 768 = ((m &&& 768 : Nat) : Int) := u16_and_nat m 768 hm (by decide)
    have HB := Lib.hid (RowKit.Below.refl w.heap.size w)
    go_enter Tryd.func15, Tryd.ntmps15
    go_wp2_with (first | (go_at_call 22; (with_reducible refine (bits_Len.calls 16 5 _ l16).mono ?_); rintro e w' ⟨rfl, hb⟩; have HB2 := Lib.hid (HB.out.trans (hb.mono HB.out.size)); clear HB hb; have HB := HB2; clear HB2) | (go_at_call 22; (with_reducible refine (bits_Len.calls 12 4 _ hL).mono ?_); rintro e w' ⟨rfl, hb⟩; have HB2 := Lib.hid (HB.out.trans (hb.mono HB.out.size)); clear HB hb; have HB := HB2; clear HB2))
    go_ret
    exact ⟨by first | rfl | (show _ = Ending.returned (Value.int IntKind.u16 ((m &&& 1 : Nat) : Int)); rw [Nat.and_one_is_mod]; rfl), HB.out⟩
  · have hL : bits_Len.f 13 = some 4 := by kernel_rfl
    have hA : Go.bits .and .u16 (m : Int) 3072 = ((m &&& 3072 : Nat) : Int) := u16_and_nat m 3072 hm (by decide)
    have HB := Lib.hid (RowKit.Below.refl w.heap.size w)
    go_enter Tryd.func15, Tryd.ntmps15
    go_wp2_with (first | (go_at_call 22; (with_reducible refine (bits_Len.calls 16 5 _ l16).mono ?_); rintro e w' ⟨rfl, hb⟩; have HB2 := Lib.hid (HB.out.trans (hb.mono HB.out.size)); clear HB hb; have HB := HB2; clear HB2) | (go_at_call 22; (with_reducible refine (bits_Len.calls 13 4 _ hL).mono ?_); rintro e w' ⟨rfl, hb⟩; have HB2 := Lib.hid (HB.out.trans (hb.mono HB.out.size)); clear HB hb; have HB := HB2; clear HB2))
    go_ret
    exact ⟨by first | rfl | (show _ = Ending.returned (Value.int IntKind.u16 ((m &&& 1 : Nat) : Int)); rw [Nat.and_one_is_mod]; rfl), HB.out⟩
  · have hL : bits_Len.f 14 = some 4 := by kernel_rfl
    have hA : Go.bits .and .u16 (m : Int) 12288 = ((m &&& 12288 : Nat) : Int) := u16_and_nat m 12288 hm (by decide)
    have HB := Lib.hid (RowKit.Below.refl w.heap.size w)
    go_enter Tryd.func15, Tryd.ntmps15
    go_wp2_with (first | (go_at_call 22; (with_reducible refine (bits_Len.calls 16 5 _ l16).mono ?_); rintro e w' ⟨rfl, hb⟩; have HB2 := Lib.hid (HB.out.trans (hb.mono HB.out.size)); clear HB hb; have HB := HB2; clear HB2) | (go_at_call 22; (with_reducible refine (bits_Len.calls 14 4 _ hL).mono ?_); rintro e w' ⟨rfl, hb⟩; have HB2 := Lib.hid (HB.out.trans (hb.mono HB.out.size)); clear HB hb; have HB := HB2; clear HB2))
    go_ret
    exact ⟨by first | rfl | (show _ = Ending.returned (Value.int IntKind.u16 ((m &&& 1 : Nat) : Int)); rw [Nat.and_one_is_mod]; rfl), HB.out⟩
  · have hL : bits_Len.f 15 = some 4 := by kernel_rfl
    have hA : Go.bits .and .u16 (m : Int) 49152 = ((m &&& 49152 : Nat) : Int) := u16_and_nat m 49152 hm (by decide)
    have HB := Lib.hid (RowKit.Below.refl w.heap.size w)
    go_enter Tryd.func15, Tryd.ntmps15
    go_wp2_with (first | (go_at_call 22; (with_reducible refine (bits_Len.calls 16 5 _ l16).mono ?_); rintro e w' ⟨rfl, hb⟩; have HB2 := Lib.hid (HB.out.trans (hb.mono HB.out.size)); clear HB hb; have HB := HB2; clear HB2) | (go_at_call 22; (with_reducible refine (bits_Len.calls 15 4 _ hL).mono ?_); rintro e w' ⟨rfl, hb⟩; have HB2 := Lib.hid (HB.out.trans (hb.mono HB.out.size)); clear HB hb; have HB := HB2; clear HB2))
    go_ret
    exact ⟨by first | rfl | (show _ = Ending.returned (Value.int IntKind.u16 ((m &&& 1 : Nat) : Int)); rw [Nat.and_one_is_mod]; rfl), HB.out⟩
  · have hL : bits_Len.f 16 = some 5 := by kernel_rfl
    have hA : Go.bits .and .u16 (m : Int) 1 = ((m &&& 1 : Nat) : Int) := u16_and_nat m 1 hm (by decide)
    have HB := Lib.hid (RowKit.Below.refl w.heap.size w)
    go_enter Tryd.func15, Tryd.ntmps15
    go_wp2_with (first | (go_at_call 22; (with_reducible refine (bits_Len.calls 16 5 _ l16).mono ?_); rintro e w' ⟨rfl, hb⟩; have HB2 := Lib.hid (HB.out.trans (hb.mono HB.out.size)); clear HB hb; have HB := HB2; clear HB2) | (go_at_call 22; (with_reducible refine (bits_Len.calls 16 5 _ hL).mono ?_); rintro e w' ⟨rfl, hb⟩; have HB2 := Lib.hid (HB.out.trans (hb.mono HB.out.size)); clear HB hb; have HB := HB2; clear HB2))
    go_ret
    exact ⟨by first | rfl | (show _ = Ending.returned (Value.int IntKind.u16 ((m &&& 1 : Nat) : Int)); rw [Nat.and_one_is_mod]; rfl), HB.out⟩
  · have hL : bits_Len.f 17 = some 5 := by kernel_rfl
    have hA : Go.bits .and .u16 (m : Int) 2 = ((m &&& 2 : Nat) : Int) := u16_and_nat m 2 hm (by decide)
    have HB := Lib.hid (RowKit.Below.refl w.heap.size w)
    go_enter Tryd.func15, Tryd.ntmps15
    go_wp2_with (first | (go_at_call 22; (with_reducible refine (bits_Len.calls 16 5 _ l16).mono ?_); rintro e w' ⟨rfl, hb⟩; have HB2 := Lib.hid (HB.out.trans (hb.mono HB.out.size)); clear HB hb; have HB := HB2; clear HB2) | (go_at_call 22; (with_reducible refine (bits_Len.calls 17 5 _ hL).mono ?_); rintro e w' ⟨rfl, hb⟩; have HB2 := Lib.hid (HB.out.trans (hb.mono HB.out.size)); clear HB hb; have HB := HB2; clear HB2))
    go_ret
    exact ⟨by first | rfl | (show _ = Ending.returned (Value.int IntKind.u16 ((m &&& 1 : Nat) : Int)); rw [Nat.and_one_is_mod]; rfl), HB.out⟩
  · have hL : bits_Len.f 18 = some 5 := by kernel_rfl
    have hA : Go.bits .and .u16 (m : Int) 4 = ((m &&& 4 : Nat) : Int) := u16_and_nat m 4 hm (by decide)
    have HB := Lib.hid (RowKit.Below.refl w.heap.size w)
    go_enter Tryd.func15, Tryd.ntmps15
    go_wp2_with (first | (go_at_call 22; (with_reducible refine (bits_Len.calls 16 5 _ l16).mono ?_); rintro e w' ⟨rfl, hb⟩; have HB2 := Lib.hid (HB.out.trans (hb.mono HB.out.size)); clear HB hb; have HB := HB2; clear HB2) | (go_at_call 22; (with_reducible refine (bits_Len.calls 18 5 _ hL).mono ?_); rintro e w' ⟨rfl, hb⟩; have HB2 := Lib.hid (HB.out.trans (hb.mono HB.out.size)); clear HB hb; have HB := HB2; clear HB2))
    go_ret
    exact ⟨by first | rfl | (show _ = Ending.returned (Value.int IntKind.u16 ((m &&& 1 : Nat) : Int)); rw [Nat.and_one_is_mod]; rfl), HB.out⟩
  · have hL : bits_Len.f 19 = some 5 := by kernel_rfl
    have hA : Go.bits .and .u16 (m : Int) 8 = ((m &&& 8 : Nat) : Int) := u16_and_nat m 8 hm (by decide)
    have HB := Lib.hid (RowKit.Below.refl w.heap.size w)
    go_enter Tryd.func15, Tryd.ntmps15
    go_wp2_with (first | (go_at_call 22; (with_reducible refine (bits_Len.calls 16 5 _ l16).mono ?_); rintro e w' ⟨rfl, hb⟩; have HB2 := Lib.hid (HB.out.trans (hb.mono HB.out.size)); clear HB hb; have HB := HB2; clear HB2) | (go_at_call 22; (with_reducible refine (bits_Len.calls 19 5 _ hL).mono ?_); rintro e w' ⟨rfl, hb⟩; have HB2 := Lib.hid (HB.out.trans (hb.mono HB.out.size)); clear HB hb; have HB := HB2; clear HB2))
    go_ret
    exact ⟨by first | rfl | (show _ = Ending.returned (Value.int IntKind.u16 ((m &&& 1 : Nat) : Int)); rw [Nat.and_one_is_mod]; rfl), HB.out⟩
  · have hL : bits_Len.f 20 = some 5 := by kernel_rfl
    have hA : Go.bits .and .u16 (m : Int) 16 = ((m &&& 16 : Nat) : Int) := u16_and_nat m 16 hm (by decide)
    have HB := Lib.hid (RowKit.Below.refl w.heap.size w)
    go_enter Tryd.func15, Tryd.ntmps15
    go_wp2_with (first | (go_at_call 22; (with_reducible refine (bits_Len.calls 16 5 _ l16).mono ?_); rintro e w' ⟨rfl, hb⟩; have HB2 := Lib.hid (HB.out.trans (hb.mono HB.out.size)); clear HB hb; have HB := HB2; clear HB2) | (go_at_call 22; (with_reducible refine (bits_Len.calls 20 5 _ hL).mono ?_); rintro e w' ⟨rfl, hb⟩; have HB2 := Lib.hid (HB.out.trans (hb.mono HB.out.size)); clear HB hb; have HB := HB2; clear HB2))
    go_ret
    exact ⟨by first | rfl | (show _ = Ending.returned (Value.int IntKind.u16 ((m &&& 1 : Nat) : Int)); rw [Nat.and_one_is_mod]; rfl), HB.out⟩
  · have hL : bits_Len.f 21 = some 5 := by kernel_rfl
    have hA : Go.bits .and .u16 (m : Int) 32 = ((m &&& 32 : Nat) : Int) := u16_and_nat m 32 hm (by decide)
    have HB := Lib.hid (RowKit.Below.refl w.heap.size w)
    go_enter Tryd.func15, Tryd.ntmps15
    go_wp2_with (first | (go_at_call 22; (with_reducible refine (bits_Len.calls 16 5 _ l16).mono ?_); rintro e w' ⟨rfl, hb⟩; have HB2 := Lib.hid (HB.out.trans (hb.mono HB.out.size)); clear HB hb; have HB := HB2; clear HB2) | (go_at_call 22; (with_reducible refine (bits_Len.calls 21 5 _ hL).mono ?_); rintro e w' ⟨rfl, hb⟩; have HB2 := Lib.hid (HB.out.trans (hb.mono HB.out.size)); clear HB hb; have HB := HB2; clear HB2))
    go_ret
    exact ⟨by first | rfl | (show _ = Ending.returned (Value.int IntKind.u16 ((m &&& 1 : Nat) : Int)); rw [Nat.and_one_is_mod]; rfl), HB.out⟩
  · have hL : bits_Len.f 22 = some 5 := by kernel_rfl
    have hA : Go.bits .and .u16 (m : Int) 64 = ((m &&& 64 : Nat) : Int) := u16_and_nat m 64 hm (by decide)
    have HB := Lib.hid (RowKit.Below.refl w.heap.size w)
    go_enter Tryd.func15, Tryd.ntmps15
    go_wp2_with (first | (go_at_call 22; (with_reducible refine (bits_Len.calls 16 5 _ l16).mono ?_); rintro e w' ⟨rfl, hb⟩; have HB2 := Lib.hid (HB.out.trans (hb.mono HB.out.size)); clear HB hb; have HB := HB2; clear HB2) | (go_at_call 22; (with_reducible refine (bits_Len.calls 22 5 _ hL).mono ?_); rintro e w' ⟨rfl, hb⟩; have HB2 := Lib.hid (HB.out.trans (hb.mono HB.out.size)); clear HB hb; have HB := HB2; clear HB2))
    go_ret
    exact ⟨by first | rfl | (show _ = Ending.returned (Value.int IntKind.u16 ((m &&& 1 : Nat) : Int)); rw [Nat.and_one_is_mod]; rfl), HB.out⟩
  · have hL : bits_Len.f 23 = some 5 := by kernel_rfl
    have hA : Go.bits .and .u16 (m : Int) 128 = ((m &&& 128 : Nat) : Int) := u16_and_nat m 128 hm (by decide)
    have HB := Lib.hid (RowKit.Below.refl w.heap.size w)
    go_enter Tryd.func15, Tryd.ntmps15
    go_wp2_with (first | (go_at_call 22; (with_reducible refine (bits_Len.calls 16 5 _ l16).mono ?_); rintro e w' ⟨rfl, hb⟩; have HB2 := Lib.hid (HB.out.trans (hb.mono HB.out.size)); clear HB hb; have HB := HB2; clear HB2) | (go_at_call 22; (with_reducible refine (bits_Len.calls 23 5 _ hL).mono ?_); rintro e w' ⟨rfl, hb⟩; have HB2 := Lib.hid (HB.out.trans (hb.mono HB.out.size)); clear HB hb; have HB := HB2; clear HB2))
    go_ret
    exact ⟨by first | rfl | (show _ = Ending.returned (Value.int IntKind.u16 ((m &&& 1 : Nat) : Int)); rw [Nat.and_one_is_mod]; rfl), HB.out⟩
  · have hL : bits_Len.f 24 = some 5 := by kernel_rfl
    have hA : Go.bits .and .u16 (m : Int) 256 = ((m &&& 256 : Nat) : Int) := u16_and_nat m 256 hm (by decide)
    have HB := Lib.hid (RowKit.Below.refl w.heap.size w)
    go_enter Tryd.func15, Tryd.ntmps15
    go_wp2_with (first | (go_at_call 22; (with_reducible refine (bits_Len.calls 16 5 _ l16).mono ?_); rintro e w' ⟨rfl, hb⟩; have HB2 := Lib.hid (HB.out.trans (hb.mono HB.out.size)); clear HB hb; have HB := HB2; clear HB2) | (go_at_call 22; (with_reducible refine (bits_Len.calls 24 5 _ hL).mono ?_); rintro e w' ⟨rfl, hb⟩; have HB2 := Lib.hid (HB.out.trans (hb.mono HB.out.size)); clear HB hb; have HB := HB2; clear HB2))
    go_ret
    exact ⟨by first | rfl | (show _ = Ending.returned (Value.int IntKind.u16 ((m &&& 1 : Nat) : Int)); rw [Nat.and_one_is_mod]; rfl), HB.out⟩
  · have hL : bits_Len.f 25 = some 5 := by kernel_rfl
    have hA : Go.bits .and .u16 (m : Int) 512 = ((m &&& 512 : Nat) : Int) := u16_and_nat m 512 hm (by decide)
    have HB := Lib.hid (RowKit.Below.refl w.heap.size w)
    go_enter Tryd.func15, Tryd.ntmps15
    go_wp2_with (first | (go_at_call 22; (with_reducible refine (bits_Len.calls 16 5 _ l16).mono ?_); rintro e w' ⟨rfl, hb⟩; have HB2 := Lib.hid (HB.out.trans (hb.mono HB.out.size)); clear HB hb; have HB := HB2; clear HB2) | (go_at_call 22; (with_reducible refine (bits_Len.calls 25 5 _ hL).mono ?_); rintro e w' ⟨rfl, hb⟩; have HB2 := Lib.hid (HB.out.trans (hb.mono HB.out.size)); clear HB hb; have HB := HB2; clear HB2))
    go_ret
    exact ⟨by first | rfl | (show _ = Ending.returned (Value.int IntKind.u16 ((m &&& 1 : Nat) : Int)); rw [Nat.and_one_is_mod]; rfl), HB.out⟩
  · have hL : bits_Len.f 26 = some 5 := by kernel_rfl
    have hA : Go.bits .and .u16 (m : Int) 1024 = ((m &&& 1024 : Nat) : Int) := u16_and_nat m 1024 hm (by decide)
    have HB := Lib.hid (RowKit.Below.refl w.heap.size w)
    go_enter Tryd.func15, Tryd.ntmps15
    go_wp2_with (first | (go_at_call 22; (with_reducible refine (bits_Len.calls 16 5 _ l16).mono ?_); rintro e w' ⟨rfl, hb⟩; have HB2 := Lib.hid (HB.out.trans (hb.mono HB.out.size)); clear HB hb; have HB := HB2; clear HB2) | (go_at_call 22; (with_reducible refine (bits_Len.calls 26 5 _ hL).mono ?_); rintro e w' ⟨rfl, hb⟩; have HB2 := Lib.hid (HB.out.trans (hb.mono HB.out.size)); clear HB hb; have HB := HB2; clear HB2))
    go_ret
    exact ⟨by first | rfl | (show _ = Ending.returned (Value.int IntKind.u16 ((m &&& 1 : Nat) : Int)); rw [Nat.and_one_is_mod]; rfl), HB.out⟩
  · have hL : bits_Len.f 27 = some 5 := by kernel_rfl
    have hA : Go.bits .and .u16 (m : Int) 2048 = ((m &&& 2048 : Nat) : Int) := u16_and_nat m 2048 hm (by decide)
    have HB := Lib.hid (RowKit.Below.refl w.heap.size w)
    go_enter Tryd.func15, Tryd.ntmps15
    go_wp2_with (first | (go_at_call 22; (with_reducible refine (bits_Len.calls 16 5 _ l16).mono ?_); rintro e w' ⟨rfl, hb⟩; have HB2 := Lib.hid (HB.out.trans (hb.mono HB.out.size)); clear HB hb; have HB := HB2; clear HB2) | (go_at_call 22; (with_reducible refine (bits_Len.calls 27 5 _ hL).mono ?_); rintro e w' ⟨rfl, hb⟩; have HB2 := Lib.hid (HB.out.trans (hb.mono HB.out.size)); clear HB hb; have HB := HB2; clear HB2))
    go_ret
    exact ⟨by first | rfl | (show _ = Ending.returned (Value.int IntKind.u16 ((m &&& 1 : Nat) : Int)); rw [Nat.and_one_is_mod]; rfl), HB.out⟩
  · have hL : bits_Len.f 28 = some 5 := by kernel_rfl
    have hA : Go.bits .and .u16 (m : Int) 4096 = ((m &&& 4096 : Nat) : Int) := u16_and_nat m 4096 hm (by decide)
    have HB := Lib.hid (RowKit.Below.refl w.heap.size w)
    go_enter Tryd.func15, Tryd.ntmps15
    go_wp2_with (first | (go_at_call 22; (with_reducible refine (bits_Len.calls 16 5 _ l16).mono ?_); rintro e w' ⟨rfl, hb⟩; have HB2 := Lib.hid (HB.out.trans (hb.mono HB.out.size)); clear HB hb; have HB := HB2; clear HB2) | (go_at_call 22; (with_reducible refine (bits_Len.calls 28 5 _ hL).mono ?_); rintro e w' ⟨rfl, hb⟩; have HB2 := Lib.hid (HB.out.trans (hb.mono HB.out.size)); clear HB hb; have HB := HB2; clear HB2))
    go_ret
    exact ⟨by first | rfl | (show _ = Ending.returned (Value.int IntKind.u16 ((m &&& 1 : Nat) : Int)); rw [Nat.and_one_is_mod]; rfl), HB.out⟩
  · have hL : bits_Len.f 29 = some 5 := by kernel_rfl
    have hA : Go.bits .and .u16 (m : Int) 8192 = ((m &&& 8192 : Nat) : Int) := u16_and_nat m 8192 hm (by decide)
    have HB := Lib.hid (RowKit.Below.refl w.heap.size w)
    go_enter Tryd.func15, Tryd.ntmps15
    go_wp2_with (first | (go_at_call 22; (with_reducible refine (bits_Len.calls 16 5 _ l16).mono ?_); rintro e w' ⟨rfl, hb⟩; have HB2 := Lib.hid (HB.out.trans (hb.mono HB.out.size)); clear HB hb; have HB := HB2; clear HB2) | (go_at_call 22; (with_reducible refine (bits_Len.calls 29 5 _ hL).mono ?_); rintro e w' ⟨rfl, hb⟩; have HB2 := Lib.hid (HB.out.trans (hb.mono HB.out.size)); clear HB hb; have HB := HB2; clear HB2))
    go_ret
    exact ⟨by first | rfl | (show _ = Ending.returned (Value.int IntKind.u16 ((m &&& 1 : Nat) : Int)); rw [Nat.and_one_is_mod]; rfl), HB.out⟩
  · have hL : bits_Len.f 30 = some 5 := by kernel_rfl
    have hA : Go.bits .and .u16 (m : Int) 16384 = ((m &&& 16384 : Nat) : Int) := u16_and_nat m 16384 hm (by decide)
    have HB := Lib.hid (RowKit.Below.refl w.heap.size w)
    go_enter Tryd.func15, Tryd.ntmps15
    go_wp2_with (first | (go_at_call 22; (with_reducible refine (bits_Len.calls 16 5 _ l16).mono ?_); rintro e w' ⟨rfl, hb⟩; have HB2 := Lib.hid (HB.out.trans (hb.mono HB.out.size)); clear HB hb; have HB := HB2; clear HB2) | (go_at_call 22; (with_reducible refine (bits_Len.calls 30 5 _ hL).mono ?_); rintro e w' ⟨rfl, hb⟩; have HB2 := Lib.hid (HB.out.trans (hb.mono HB.out.size)); clear HB hb; have HB := HB2; clear HB2))
    go_ret
    exact ⟨by first | rfl | (show _ = Ending.returned (Value.int IntKind.u16 ((m &&& 1 : Nat) : Int)); rw [Nat.and_one_is_mod]; rfl), HB.out⟩
  · have hL : bits_Len.f 31 = some 5 := by kernel_rfl
    have hA : Go.bits .and .u16 (m : Int) 32768 = ((m &&& 32768 : Nat) : Int) := u16_and_nat m 32768 hm (by decide)
    have HB := Lib.hid (RowKit.Below.refl w.heap.size w)
    go_enter Tryd.func15, Tryd.ntmps15
    go_wp2_with (first | (go_at_call 22; (with_reducible refine (bits_Len.calls 16 5 _ l16).mono ?_); rintro e w' ⟨rfl, hb⟩; have HB2 := Lib.hid (HB.out.trans (hb.mono HB.out.size)); clear HB hb; have HB := HB2; clear HB2) | (go_at_call 22; (with_reducible refine (bits_Len.calls 31 5 _ hL).mono ?_); rintro e w' ⟨rfl, hb⟩; have HB2 := Lib.hid (HB.out.trans (hb.mono HB.out.size)); clear HB hb; have HB := HB2; clear HB2))
    go_ret
    exact ⟨by first | rfl | (show _ = Ending.returned (Value.int IntKind.u16 ((m &&& 1 : Nat) : Int)); rw [Nat.and_one_is_mod]; rfl), HB.out⟩
theorem tree_Below.calls (k : Nat) (a0 : Int) (a1 : Int) (r : Int) (w : World) (h : tree_Below.f k a0 a1 = some r) :
    Calls Tryd.prog 15 #[.int .u16 a0, .int .i64 a1] w fun e w' => e = .returned (.int .u16 r) ∧ RowKit.Below w.heap.size w w' := by
  unfold tree_Below.f at h
  split at h
  · rename_i hb
    obtain rfl := Option.some.inj h
    unfold belowI
    split
    · rename_i hn
      have := below_in a0.toNat (by omega) w a1.toNat (by omega) (by omega)
      rwa [Int.toNat_of_nonneg hb.1, Int.toNat_of_nonneg (by omega)] at this
    · rename_i hn
      exact below_out a0 a1 (by omega) w
  · cases h
end Go.Proofs.YtnpabhoflkppaaaDoor.Pr
