import Derived.Test.YtkmpfmhbkflgpaaGreatDoorCPrxT
import Derived.Test.YtkmpfmhbkflgpaaGreatDoorCFin
import Derived.Maps.AppendAt
import Derived.OwnWalk
/- tree.Below: its contract, in the print's form; sets of members by their bits. -/
set_option linter.unusedVariables false
set_option linter.unusedSimpArgs false
namespace Go.Proofs.YtkmpfmhbkflgpaaGreatDoor.Pr
open Go.RowKit Go.Shelf Go.Proofs.YtkmpfmhbkflgpaaGreatDoorW.PrintWords Go.Proofs.YtkmpfmhbkflgpaaGreatDoorW.PrintLast

/-- The members below a node, as a set. -/
def maskL : List Nat := [0, 65535, 255, 65280, 15, 240, 3840, 61440, 3, 12, 48, 192, 768, 3072, 12288, 49152, 1, 2, 4, 8, 16, 32, 64, 128, 256, 512, 1024, 2048, 4096, 8192, 16384, 32768]
def maskN (n : Nat) : Nat := maskL.getD n 0
def belowI (m : Int) (node : Int) : Int := if 1 ≤ node ∧ node ≤ 31 then ((m.toNat &&& maskN node.toNat : Nat) : Int) else 0
def tree_Below.f (k : Nat) (a0 : Int) (a1 : Int) : Option Int := if 0 ≤ a0 ∧ a0 < 65536 then some (belowI a0 a1) else none
theorem tree_Below.mono : ∀ a0 a1 k, LeO (tree_Below.f k a0 a1) (tree_Below.f (k + 1) a0 a1) := fun _ _ _ => LeO.refl _

set_option maxHeartbeats 8000000 in
set_option maxRecDepth 100000 in
theorem below_out (m n : Int) (h : n < 1 ∨ 31 < n) (w : World) : Calls Tryz.prog 24 #[.int .u16 m, .int .i64 n] w fun e w' => e = .returned (.int .u16 0) ∧ RowKit.Below w.heap.size w w' := by
  rcases h with h | h
  · go_enter Tryz.func24, Tryz.ntmps24
    go_wp2
    go_ret
    exact ⟨rfl, RowKit.Below.refl _ _⟩
  · have h1 : ¬ n < 1 := by omega
    go_enter Tryz.func24, Tryz.ntmps24
    go_wp2
    go_ret
    exact ⟨rfl, RowKit.Below.refl _ _⟩
theorem l16 : bits_Len.f 16 = some 5 := by kernel_rfl
set_option maxHeartbeats 8000000 in
set_option maxRecDepth 100000 in
theorem below_in (m : Nat) (hm : m < 65536) (w : World) : ∀ n : Nat, 1 ≤ n → n ≤ 31 → Calls Tryz.prog 24 #[.int .u16 (m : Int), .int .i64 (n : Int)] w fun e w' => e = .returned (.int .u16 ((m &&& maskN n : Nat) : Int)) ∧ RowKit.Below w.heap.size w w' := by
  intro n h1 h31
  have hn : n = 1 ∨ n = 2 ∨ n = 3 ∨ n = 4 ∨ n = 5 ∨ n = 6 ∨ n = 7 ∨ n = 8 ∨ n = 9 ∨ n = 10 ∨ n = 11 ∨ n = 12 ∨ n = 13 ∨ n = 14 ∨ n = 15 ∨ n = 16 ∨ n = 17 ∨ n = 18 ∨ n = 19 ∨ n = 20 ∨ n = 21 ∨ n = 22 ∨ n = 23 ∨ n = 24 ∨ n = 25 ∨ n = 26 ∨ n = 27 ∨ n = 28 ∨ n = 29 ∨ n = 30 ∨ n = 31 := by omega
  rcases hn with rfl | rfl | rfl | rfl | rfl | rfl | rfl | rfl | rfl | rfl | rfl | rfl | rfl | rfl | rfl | rfl | rfl | rfl | rfl | rfl | rfl | rfl | rfl | rfl | rfl | rfl | rfl | rfl | rfl | rfl | rfl
  · have hL : bits_Len.f 1 = some 1 := by kernel_rfl
    have hA : Go.bits .and .u16 (m : Int) 65535 = ((m &&& 65535 : Nat) : Int) := u16_and_nat m 65535 hm (by decide)
    have HB := Lib.hid (RowKit.Below.refl w.heap.size w)
    go_enter Tryz.func24, Tryz.ntmps24
    go_wp2_with (first | (go_at_call 62; (with_reducible refine (bits_Len.calls 16 5 _ l16).mono ?_); rintro e w' ⟨rfl, hb⟩; have HB2 := Lib.hid (HB.out.trans (hb.mono HB.out.size)); clear HB hb; have HB := HB2; clear HB2) | (go_at_call 62; (with_reducible refine (bits_Len.calls 1 1 _ hL).mono ?_); rintro e w' ⟨rfl, hb⟩; have HB2 := Lib.hid (HB.out.trans (hb.mono HB.out.size)); clear HB hb; have HB := HB2; clear HB2))
    go_ret
    exact ⟨by first | rfl | (show _ = Ending.returned (Value.int IntKind.u16 ((m &&& 1 : Nat) : Int)); rw [Nat.and_one_is_mod]; rfl), HB.out⟩
  · have hL : bits_Len.f 2 = some 2 := by kernel_rfl
    have hA : Go.bits .and .u16 (m : Int) 255 = ((m &&& 255 : Nat) : Int) := u16_and_nat m 255 hm (by decide)
    have HB := Lib.hid (RowKit.Below.refl w.heap.size w)
    go_enter Tryz.func24, Tryz.ntmps24
    go_wp2_with (first | (go_at_call 62; (with_reducible refine (bits_Len.calls 16 5 _ l16).mono ?_); rintro e w' ⟨rfl, hb⟩; have HB2 := Lib.hid (HB.out.trans (hb.mono HB.out.size)); clear HB hb; have HB := HB2; clear HB2) | (go_at_call 62; (with_reducible refine (bits_Len.calls 2 2 _ hL).mono ?_); rintro e w' ⟨rfl, hb⟩; have HB2 := Lib.hid (HB.out.trans (hb.mono HB.out.size)); clear HB hb; have HB := HB2; clear HB2))
    go_ret
    exact ⟨by first | rfl | (show _ = Ending.returned (Value.int IntKind.u16 ((m &&& 1 : Nat) : Int)); rw [Nat.and_one_is_mod]; rfl), HB.out⟩
  · have hL : bits_Len.f 3 = some 2 := by kernel_rfl
    have hA : Go.bits .and .u16 (m : Int) 65280 = ((m &&& 65280 : Nat) : Int) := u16_and_nat m 65280 hm (by decide)
    have HB := Lib.hid (RowKit.Below.refl w.heap.size w)
    go_enter Tryz.func24, Tryz.ntmps24
    go_wp2_with (first | (go_at_call 62; (with_reducible refine (bits_Len.calls 16 5 _ l16).mono ?_); rintro e w' ⟨rfl, hb⟩; have HB2 := Lib.hid (HB.out.trans (hb.mono HB.out.size)); clear HB hb; have HB := HB2; clear HB2) | (go_at_call 62; (with_reducible refine (bits_Len.calls 3 2 _ hL).mono ?_); rintro e w' ⟨rfl, hb⟩; have HB2 := Lib.hid (HB.out.trans (hb.mono HB.out.size)); clear HB hb; have HB := HB2; clear HB2))
    go_ret
    exact ⟨by first | rfl | (show _ = Ending.returned (Value.int IntKind.u16 ((m &&& 1 : Nat) : Int)); rw [Nat.and_one_is_mod]; rfl), HB.out⟩
  · have hL : bits_Len.f 4 = some 3 := by kernel_rfl
    have hA : Go.bits .and .u16 (m : Int) 15 = ((m &&& 15 : Nat) : Int) := u16_and_nat m 15 hm (by decide)
    have HB := Lib.hid (RowKit.Below.refl w.heap.size w)
    go_enter Tryz.func24, Tryz.ntmps24
    go_wp2_with (first | (go_at_call 62; (with_reducible refine (bits_Len.calls 16 5 _ l16).mono ?_); rintro e w' ⟨rfl, hb⟩; have HB2 := Lib.hid (HB.out.trans (hb.mono HB.out.size)); clear HB hb; have HB := HB2; clear HB2) | (go_at_call 62; (with_reducible refine (bits_Len.calls 4 3 _ hL).mono ?_); rintro e w' ⟨rfl, hb⟩; have HB2 := Lib.hid (HB.out.trans (hb.mono HB.out.size)); clear HB hb; have HB := HB2; clear HB2))
    go_ret
    exact ⟨by first | rfl | (show _ = Ending.returned (Value.int IntKind.u16 ((m &&& 1 : Nat) : Int)); rw [Nat.and_one_is_mod]; rfl), HB.out⟩
  · have hL : bits_Len.f 5 = some 3 := by kernel_rfl
    have hA : Go.bits .and .u16 (m : Int) 240 = ((m &&& 240 : Nat) : Int) := u16_and_nat m 240 hm (by decide)
    have HB := Lib.hid (RowKit.Below.refl w.heap.size w)
    go_enter Tryz.func24, Tryz.ntmps24
    go_wp2_with (first | (go_at_call 62; (with_reducible refine (bits_Len.calls 16 5 _ l16).mono ?_); rintro e w' ⟨rfl, hb⟩; have HB2 := Lib.hid (HB.out.trans (hb.mono HB.out.size)); clear HB hb; have HB := HB2; clear HB2) | (go_at_call 62; (with_reducible refine (bits_Len.calls 5 3 _ hL).mono ?_); rintro e w' ⟨rfl, hb⟩; have HB2 := Lib.hid (HB.out.trans (hb.mono HB.out.size)); clear HB hb; have HB := HB2; clear HB2))
    go_ret
    exact ⟨by first | rfl | (show _ = Ending.returned (Value.int IntKind.u16 ((m &&& 1 : Nat) : Int)); rw [Nat.and_one_is_mod]; rfl), HB.out⟩
  · have hL : bits_Len.f 6 = some 3 := by kernel_rfl
    have hA : Go.bits .and .u16 (m : Int) 3840 = ((m &&& 3840 : Nat) : Int) := u16_and_nat m 3840 hm (by decide)
    have HB := Lib.hid (RowKit.Below.refl w.heap.size w)
    go_enter Tryz.func24, Tryz.ntmps24
    go_wp2_with (first | (go_at_call 62; (with_reducible refine (bits_Len.calls 16 5 _ l16).mono ?_); rintro e w' ⟨rfl, hb⟩; have HB2 := Lib.hid (HB.out.trans (hb.mono HB.out.size)); clear HB hb; have HB := HB2; clear HB2) | (go_at_call 62; (with_reducible refine (bits_Len.calls 6 3 _ hL).mono ?_); rintro e w' ⟨rfl, hb⟩; have HB2 := Lib.hid (HB.out.trans (hb.mono HB.out.size)); clear HB hb; have HB := HB2; clear HB2))
    go_ret
    exact ⟨by first | rfl | (show _ = Ending.returned (Value.int IntKind.u16 ((m &&& 1 : Nat) : Int)); rw [Nat.and_one_is_mod]; rfl), HB.out⟩
  · have hL : bits_Len.f 7 = some 3 := by kernel_rfl
    have hA : Go.bits .and .u16 (m : Int) 61440 = ((m &&& 61440 : Nat) : Int) := u16_and_nat m 61440 hm (by decide)
    have HB := Lib.hid (RowKit.Below.refl w.heap.size w)
    go_enter Tryz.func24, Tryz.ntmps24
    go_wp2_with (first | (go_at_call 62; (with_reducible refine (bits_Len.calls 16 5 _ l16).mono ?_); rintro e w' ⟨rfl, hb⟩; have HB2 := Lib.hid (HB.out.trans (hb.mono HB.out.size)); clear HB hb; have HB := HB2; clear HB2) | (go_at_call 62; (with_reducible refine (bits_Len.calls 7 3 _ hL).mono ?_); rintro e w' ⟨rfl, hb⟩; have HB2 := Lib.hid (HB.out.trans (hb.mono HB.out.size)); clear HB hb; have HB := HB2; clear HB2))
    go_ret
    exact ⟨by first | rfl | (show _ = Ending.returned (Value.int IntKind.u16 ((m &&& 1 : Nat) : Int)); rw [Nat.and_one_is_mod]; rfl), HB.out⟩
  · have hL : bits_Len.f 8 = some 4 := by kernel_rfl
    have hA : Go.bits .and .u16 (m : Int) 3 = ((m &&& 3 : Nat) : Int) := u16_and_nat m 3 hm (by decide)
    have HB := Lib.hid (RowKit.Below.refl w.heap.size w)
    go_enter Tryz.func24, Tryz.ntmps24
    go_wp2_with (first | (go_at_call 62; (with_reducible refine (bits_Len.calls 16 5 _ l16).mono ?_); rintro e w' ⟨rfl, hb⟩; have HB2 := Lib.hid (HB.out.trans (hb.mono HB.out.size)); clear HB hb; have HB := HB2; clear HB2) | (go_at_call 62; (with_reducible refine (bits_Len.calls 8 4 _ hL).mono ?_); rintro e w' ⟨rfl, hb⟩; have HB2 := Lib.hid (HB.out.trans (hb.mono HB.out.size)); clear HB hb; have HB := HB2; clear HB2))
    go_ret
    exact ⟨by first | rfl | (show _ = Ending.returned (Value.int IntKind.u16 ((m &&& 1 : Nat) : Int)); rw [Nat.and_one_is_mod]; rfl), HB.out⟩
  · have hL : bits_Len.f 9 = some 4 := by kernel_rfl
    have hA : Go.bits .and .u16 (m : Int) 12 = ((m &&& 12 : Nat) : Int) := u16_and_nat m 12 hm (by decide)
    have HB := Lib.hid (RowKit.Below.refl w.heap.size w)
    go_enter Tryz.func24, Tryz.ntmps24
    go_wp2_with (first | (go_at_call 62; (with_reducible refine (bits_Len.calls 16 5 _ l16).mono ?_); rintro e w' ⟨rfl, hb⟩; have HB2 := Lib.hid (HB.out.trans (hb.mono HB.out.size)); clear HB hb; have HB := HB2; clear HB2) | (go_at_call 62; (with_reducible refine (bits_Len.calls 9 4 _ hL).mono ?_); rintro e w' ⟨rfl, hb⟩; have HB2 := Lib.hid (HB.out.trans (hb.mono HB.out.size)); clear HB hb; have HB := HB2; clear HB2))
    go_ret
    exact ⟨by first | rfl | (show _ = Ending.returned (Value.int IntKind.u16 ((m &&& 1 : Nat) : Int)); rw [Nat.and_one_is_mod]; rfl), HB.out⟩
  · have hL : bits_Len.f 10 = some 4 := by kernel_rfl
    have hA : Go.bits .and .u16 (m : Int) 48 = ((m &&& 48 : Nat) : Int) := u16_and_nat m 48 hm (by decide)
    have HB := Lib.hid (RowKit.Below.refl w.heap.size w)
    go_enter Tryz.func24, Tryz.ntmps24
    go_wp2_with (first | (go_at_call 62; (with_reducible refine (bits_Len.calls 16 5 _ l16).mono ?_); rintro e w' ⟨rfl, hb⟩; have HB2 := Lib.hid (HB.out.trans (hb.mono HB.out.size)); clear HB hb; have HB := HB2; clear HB2) | (go_at_call 62; (with_reducible refine (bits_Len.calls 10 4 _ hL).mono ?_); rintro e w' ⟨rfl, hb⟩; have HB2 := Lib.hid (HB.out.trans (hb.mono HB.out.size)); clear HB hb; have HB := HB2; clear HB2))
    go_ret
    exact ⟨by first | rfl | (show _ = Ending.returned (Value.int IntKind.u16 ((m &&& 1 : Nat) : Int)); rw [Nat.and_one_is_mod]; rfl), HB.out⟩
  · have hL : bits_Len.f 11 = some 4 := by kernel_rfl
    have hA : Go.bits .and .u16 (m : Int) 192 = ((m &&& 192 : Nat) : Int) := u16_and_nat m 192 hm (by decide)
    have HB := Lib.hid (RowKit.Below.refl w.heap.size w)
    go_enter Tryz.func24, Tryz.ntmps24
    go_wp2_with (first | (go_at_call 62; (with_reducible refine (bits_Len.calls 16 5 _ l16).mono ?_); rintro e w' ⟨rfl, hb⟩; have HB2 := Lib.hid (HB.out.trans (hb.mono HB.out.size)); clear HB hb; have HB := HB2; clear HB2) | (go_at_call 62; (with_reducible refine (bits_Len.calls 11 4 _ hL).mono ?_); rintro e w' ⟨rfl, hb⟩; have HB2 := Lib.hid (HB.out.trans (hb.mono HB.out.size)); clear HB hb; have HB := HB2; clear HB2))
    go_ret
    exact ⟨by first | rfl | (show _ = Ending.returned (Value.int IntKind.u16 ((m &&& 1 : Nat) : Int)); rw [Nat.and_one_is_mod]; rfl), HB.out⟩
  · have hL : bits_Len.f 12 = some 4 := by kernel_rfl
    have hA : Go.bits .and .u16 (m : Int) 768 = ((m &&& 768 : Nat) : Int) := u16_and_nat m 768 hm (by decide)
    have HB := Lib.hid (RowKit.Below.refl w.heap.size w)
    go_enter Tryz.func24, Tryz.ntmps24
    go_wp2_with (first | (go_at_call 62; (with_reducible refine (bits_Len.calls 16 5 _ l16).mono ?_); rintro e w' ⟨rfl, hb⟩; have HB2 := Lib.hid (HB.out.trans (hb.mono HB.out.size)); clear HB hb; have HB := HB2; clear HB2) | (go_at_call 62; (with_reducible refine (bits_Len.calls 12 4 _ hL).mono ?_); rintro e w' ⟨rfl, hb⟩; have HB2 := Lib.hid (HB.out.trans (hb.mono HB.out.size)); clear HB hb; have HB := HB2; clear HB2))
    go_ret
    exact ⟨by first | rfl | (show _ = Ending.returned (Value.int IntKind.u16 ((m &&& 1 : Nat) : Int)); rw [Nat.and_one_is_mod]; rfl), HB.out⟩
  · have hL : bits_Len.f 13 = some 4 := by kernel_rfl
    have hA : Go.bits .and .u16 (m : Int) 3072 = ((m &&& 3072 : Nat) : Int) := u16_and_nat m 3072 hm (by decide)
    have HB := Lib.hid (RowKit.Below.refl w.heap.size w)
    go_enter Tryz.func24, Tryz.ntmps24
    go_wp2_with (first | (go_at_call 62; (with_reducible refine (bits_Len.calls 16 5 _ l16).mono ?_); rintro e w' ⟨rfl, hb⟩; have HB2 := Lib.hid (HB.out.trans (hb.mono HB.out.size)); clear HB hb; have HB := HB2; clear HB2) | (go_at_call 62; (with_reducible refine (bits_Len.calls 13 4 _ hL).mono ?_); rintro e w' ⟨rfl, hb⟩; have HB2 := Lib.hid (HB.out.trans (hb.mono HB.out.size)); clear HB hb; have HB := HB2; clear HB2))
    go_ret
    exact ⟨by first | rfl | (show _ = Ending.returned (Value.int IntKind.u16 ((m &&& 1 : Nat) : Int)); rw [Nat.and_one_is_mod]; rfl), HB.out⟩
  · have hL : bits_Len.f 14 = some 4 := by kernel_rfl
    have hA : Go.bits .and .u16 (m : Int) 12288 = ((m &&& 12288 : Nat) : Int) := u16_and_nat m 12288 hm (by decide)
    have HB := Lib.hid (RowKit.Below.refl w.heap.size w)
    go_enter Tryz.func24, Tryz.ntmps24
    go_wp2_with (first | (go_at_call 62; (with_reducible refine (bits_Len.calls 16 5 _ l16).mono ?_); rintro e w' ⟨rfl, hb⟩; have HB2 := Lib.hid (HB.out.trans (hb.mono HB.out.size)); clear HB hb; have HB := HB2; clear HB2) | (go_at_call 62; (with_reducible refine (bits_Len.calls 14 4 _ hL).mono ?_); rintro e w' ⟨rfl, hb⟩; have HB2 := Lib.hid (HB.out.trans (hb.mono HB.out.size)); clear HB hb; have HB := HB2; clear HB2))
    go_ret
    exact ⟨by first | rfl | (show _ = Ending.returned (Value.int IntKind.u16 ((m &&& 1 : Nat) : Int)); rw [Nat.and_one_is_mod]; rfl), HB.out⟩
  · have hL : bits_Len.f 15 = some 4 := by kernel_rfl
    have hA : Go.bits .and .u16 (m : Int) 49152 = ((m &&& 49152 : Nat) : Int) := u16_and_nat m 49152 hm (by decide)
    have HB := Lib.hid (RowKit.Below.refl w.heap.size w)
    go_enter Tryz.func24, Tryz.ntmps24
    go_wp2_with (first | (go_at_call 62; (with_reducible refine (bits_Len.calls 16 5 _ l16).mono ?_); rintro e w' ⟨rfl, hb⟩; have HB2 := Lib.hid (HB.out.trans (hb.mono HB.out.size)); clear HB hb; have HB := HB2; clear HB2) | (go_at_call 62; (with_reducible refine (bits_Len.calls 15 4 _ hL).mono ?_); rintro e w' ⟨rfl, hb⟩; have HB2 := Lib.hid (HB.out.trans (hb.mono HB.out.size)); clear HB hb; have HB := HB2; clear HB2))
    go_ret
    exact ⟨by first | rfl | (show _ = Ending.returned (Value.int IntKind.u16 ((m &&& 1 : Nat) : Int)); rw [Nat.and_one_is_mod]; rfl), HB.out⟩
  · have hL : bits_Len.f 16 = some 5 := by kernel_rfl
    have hA : Go.bits .and .u16 (m : Int) 1 = ((m &&& 1 : Nat) : Int) := u16_and_nat m 1 hm (by decide)
    have HB := Lib.hid (RowKit.Below.refl w.heap.size w)
    go_enter Tryz.func24, Tryz.ntmps24
    go_wp2_with (first | (go_at_call 62; (with_reducible refine (bits_Len.calls 16 5 _ l16).mono ?_); rintro e w' ⟨rfl, hb⟩; have HB2 := Lib.hid (HB.out.trans (hb.mono HB.out.size)); clear HB hb; have HB := HB2; clear HB2) | (go_at_call 62; (with_reducible refine (bits_Len.calls 16 5 _ hL).mono ?_); rintro e w' ⟨rfl, hb⟩; have HB2 := Lib.hid (HB.out.trans (hb.mono HB.out.size)); clear HB hb; have HB := HB2; clear HB2))
    go_ret
    exact ⟨by first | rfl | (show _ = Ending.returned (Value.int IntKind.u16 ((m &&& 1 : Nat) : Int)); rw [Nat.and_one_is_mod]; rfl), HB.out⟩
  · have hL : bits_Len.f 17 = some 5 := by kernel_rfl
    have hA : Go.bits .and .u16 (m : Int) 2 = ((m &&& 2 : Nat) : Int) := u16_and_nat m 2 hm (by decide)
    have HB := Lib.hid (RowKit.Below.refl w.heap.size w)
    go_enter Tryz.func24, Tryz.ntmps24
    go_wp2_with (first | (go_at_call 62; (with_reducible refine (bits_Len.calls 16 5 _ l16).mono ?_); rintro e w' ⟨rfl, hb⟩; have HB2 := Lib.hid (HB.out.trans (hb.mono HB.out.size)); clear HB hb; have HB := HB2; clear HB2) | (go_at_call 62; (with_reducible refine (bits_Len.calls 17 5 _ hL).mono ?_); rintro e w' ⟨rfl, hb⟩; have HB2 := Lib.hid (HB.out.trans (hb.mono HB.out.size)); clear HB hb; have HB := HB2; clear HB2))
    go_ret
    exact ⟨by first | rfl | (show _ = Ending.returned (Value.int IntKind.u16 ((m &&& 1 : Nat) : Int)); rw [Nat.and_one_is_mod]; rfl), HB.out⟩
  · have hL : bits_Len.f 18 = some 5 := by kernel_rfl
    have hA : Go.bits .and .u16 (m : Int) 4 = ((m &&& 4 : Nat) : Int) := u16_and_nat m 4 hm (by decide)
    have HB := Lib.hid (RowKit.Below.refl w.heap.size w)
    go_enter Tryz.func24, Tryz.ntmps24
    go_wp2_with (first | (go_at_call 62; (with_reducible refine (bits_Len.calls 16 5 _ l16).mono ?_); rintro e w' ⟨rfl, hb⟩; have HB2 := Lib.hid (HB.out.trans (hb.mono HB.out.size)); clear HB hb; have HB := HB2; clear HB2) | (go_at_call 62; (with_reducible refine (bits_Len.calls 18 5 _ hL).mono ?_); rintro e w' ⟨rfl, hb⟩; have HB2 := Lib.hid (HB.out.trans (hb.mono HB.out.size)); clear HB hb; have HB := HB2; clear HB2))
    go_ret
    exact ⟨by first | rfl | (show _ = Ending.returned (Value.int IntKind.u16 ((m &&& 1 : Nat) : Int)); rw [Nat.and_one_is_mod]; rfl), HB.out⟩
  · have hL : bits_Len.f 19 = some 5 := by kernel_rfl
    have hA : Go.bits .and .u16 (m : Int) 8 = ((m &&& 8 : Nat) : Int) := u16_and_nat m 8 hm (by decide)
    have HB := Lib.hid (RowKit.Below.refl w.heap.size w)
    go_enter Tryz.func24, Tryz.ntmps24
    go_wp2_with (first | (go_at_call 62; (with_reducible refine (bits_Len.calls 16 5 _ l16).mono ?_); rintro e w' ⟨rfl, hb⟩; have HB2 := Lib.hid (HB.out.trans (hb.mono HB.out.size)); clear HB hb; have HB := HB2; clear HB2) | (go_at_call 62; (with_reducible refine (bits_Len.calls 19 5 _ hL).mono ?_); rintro e w' ⟨rfl, hb⟩; have HB2 := Lib.hid (HB.out.trans (hb.mono HB.out.size)); clear HB hb; have HB := HB2; clear HB2))
    go_ret
    exact ⟨by first | rfl | (show _ = Ending.returned (Value.int IntKind.u16 ((m &&& 1 : Nat) : Int)); rw [Nat.and_one_is_mod]; rfl), HB.out⟩
  · have hL : bits_Len.f 20 = some 5 := by kernel_rfl
    have hA : Go.bits .and .u16 (m : Int) 16 = ((m &&& 16 : Nat) : Int) := u16_and_nat m 16 hm (by decide)
    have HB := Lib.hid (RowKit.Below.refl w.heap.size w)
    go_enter Tryz.func24, Tryz.ntmps24
    go_wp2_with (first | (go_at_call 62; (with_reducible refine (bits_Len.calls 16 5 _ l16).mono ?_); rintro e w' ⟨rfl, hb⟩; have HB2 := Lib.hid (HB.out.trans (hb.mono HB.out.size)); clear HB hb; have HB := HB2; clear HB2) | (go_at_call 62; (with_reducible refine (bits_Len.calls 20 5 _ hL).mono ?_); rintro e w' ⟨rfl, hb⟩; have HB2 := Lib.hid (HB.out.trans (hb.mono HB.out.size)); clear HB hb; have HB := HB2; clear HB2))
    go_ret
    exact ⟨by first | rfl | (show _ = Ending.returned (Value.int IntKind.u16 ((m &&& 1 : Nat) : Int)); rw [Nat.and_one_is_mod]; rfl), HB.out⟩
  · have hL : bits_Len.f 21 = some 5 := by kernel_rfl
    have hA : Go.bits .and .u16 (m : Int) 32 = ((m &&& 32 : Nat) : Int) := u16_and_nat m 32 hm (by decide)
    have HB := Lib.hid (RowKit.Below.refl w.heap.size w)
    go_enter Tryz.func24, Tryz.ntmps24
    go_wp2_with (first | (go_at_call 62; (with_reducible refine (bits_Len.calls 16 5 _ l16).mono ?_); rintro e w' ⟨rfl, hb⟩; have HB2 := Lib.hid (HB.out.trans (hb.mono HB.out.size)); clear HB hb; have HB := HB2; clear HB2) | (go_at_call 62; (with_reducible refine (bits_Len.calls 21 5 _ hL).mono ?_); rintro e w' ⟨rfl, hb⟩; have HB2 := Lib.hid (HB.out.trans (hb.mono HB.out.size)); clear HB hb; have HB := HB2; clear HB2))
    go_ret
    exact ⟨by first | rfl | (show _ = Ending.returned (Value.int IntKind.u16 ((m &&& 1 : Nat) : Int)); rw [Nat.and_one_is_mod]; rfl), HB.out⟩
  · have hL : bits_Len.f 22 = some 5 := by kernel_rfl
    have hA : Go.bits .and .u16 (m : Int) 64 = ((m &&& 64 : Nat) : Int) := u16_and_nat m 64 hm (by decide)
    have HB := Lib.hid (RowKit.Below.refl w.heap.size w)
    go_enter Tryz.func24, Tryz.ntmps24
    go_wp2_with (first | (go_at_call 62; (with_reducible refine (bits_Len.calls 16 5 _ l16).mono ?_); rintro e w' ⟨rfl, hb⟩; have HB2 := Lib.hid (HB.out.trans (hb.mono HB.out.size)); clear HB hb; have HB := HB2; clear HB2) | (go_at_call 62; (with_reducible refine (bits_Len.calls 22 5 _ hL).mono ?_); rintro e w' ⟨rfl, hb⟩; have HB2 := Lib.hid (HB.out.trans (hb.mono HB.out.size)); clear HB hb; have HB := HB2; clear HB2))
    go_ret
    exact ⟨by first | rfl | (show _ = Ending.returned (Value.int IntKind.u16 ((m &&& 1 : Nat) : Int)); rw [Nat.and_one_is_mod]; rfl), HB.out⟩
  · have hL : bits_Len.f 23 = some 5 := by kernel_rfl
    have hA : Go.bits .and .u16 (m : Int) 128 = ((m &&& 128 : Nat) : Int) := u16_and_nat m 128 hm (by decide)
    have HB := Lib.hid (RowKit.Below.refl w.heap.size w)
    go_enter Tryz.func24, Tryz.ntmps24
    go_wp2_with (first | (go_at_call 62; (with_reducible refine (bits_Len.calls 16 5 _ l16).mono ?_); rintro e w' ⟨rfl, hb⟩; have HB2 := Lib.hid (HB.out.trans (hb.mono HB.out.size)); clear HB hb; have HB := HB2; clear HB2) | (go_at_call 62; (with_reducible refine (bits_Len.calls 23 5 _ hL).mono ?_); rintro e w' ⟨rfl, hb⟩; have HB2 := Lib.hid (HB.out.trans (hb.mono HB.out.size)); clear HB hb; have HB := HB2; clear HB2))
    go_ret
    exact ⟨by first | rfl | (show _ = Ending.returned (Value.int IntKind.u16 ((m &&& 1 : Nat) : Int)); rw [Nat.and_one_is_mod]; rfl), HB.out⟩
  · have hL : bits_Len.f 24 = some 5 := by kernel_rfl
    have hA : Go.bits .and .u16 (m : Int) 256 = ((m &&& 256 : Nat) : Int) := u16_and_nat m 256 hm (by decide)
    have HB := Lib.hid (RowKit.Below.refl w.heap.size w)
    go_enter Tryz.func24, Tryz.ntmps24
    go_wp2_with (first | (go_at_call 62; (with_reducible refine (bits_Len.calls 16 5 _ l16).mono ?_); rintro e w' ⟨rfl, hb⟩; have HB2 := Lib.hid (HB.out.trans (hb.mono HB.out.size)); clear HB hb; have HB := HB2; clear HB2) | (go_at_call 62; (with_reducible refine (bits_Len.calls 24 5 _ hL).mono ?_); rintro e w' ⟨rfl, hb⟩; have HB2 := Lib.hid (HB.out.trans (hb.mono HB.out.size)); clear HB hb; have HB := HB2; clear HB2))
    go_ret
    exact ⟨by first | rfl | (show _ = Ending.returned (Value.int IntKind.u16 ((m &&& 1 : Nat) : Int)); rw [Nat.and_one_is_mod]; rfl), HB.out⟩
  · have hL : bits_Len.f 25 = some 5 := by kernel_rfl
    have hA : Go.bits .and .u16 (m : Int) 512 = ((m &&& 512 : Nat) : Int) := u16_and_nat m 512 hm (by decide)
    have HB := Lib.hid (RowKit.Below.refl w.heap.size w)
    go_enter Tryz.func24, Tryz.ntmps24
    go_wp2_with (first | (go_at_call 62; (with_reducible refine (bits_Len.calls 16 5 _ l16).mono ?_); rintro e w' ⟨rfl, hb⟩; have HB2 := Lib.hid (HB.out.trans (hb.mono HB.out.size)); clear HB hb; have HB := HB2; clear HB2) | (go_at_call 62; (with_reducible refine (bits_Len.calls 25 5 _ hL).mono ?_); rintro e w' ⟨rfl, hb⟩; have HB2 := Lib.hid (HB.out.trans (hb.mono HB.out.size)); clear HB hb; have HB := HB2; clear HB2))
    go_ret
    exact ⟨by first | rfl | (show _ = Ending.returned (Value.int IntKind.u16 ((m &&& 1 : Nat) : Int)); rw [Nat.and_one_is_mod]; rfl), HB.out⟩
  · have hL : bits_Len.f 26 = some 5 := by kernel_rfl
    have hA : Go.bits .and .u16 (m : Int) 1024 = ((m &&& 1024 : Nat) : Int) := u16_and_nat m 1024 hm (by decide)
    have HB := Lib.hid (RowKit.Below.refl w.heap.size w)
    go_enter Tryz.func24, Tryz.ntmps24
    go_wp2_with (first | (go_at_call 62; (with_reducible refine (bits_Len.calls 16 5 _ l16).mono ?_); rintro e w' ⟨rfl, hb⟩; have HB2 := Lib.hid (HB.out.trans (hb.mono HB.out.size)); clear HB hb; have HB := HB2; clear HB2) | (go_at_call 62; (with_reducible refine (bits_Len.calls 26 5 _ hL).mono ?_); rintro e w' ⟨rfl, hb⟩; have HB2 := Lib.hid (HB.out.trans (hb.mono HB.out.size)); clear HB hb; have HB := HB2; clear HB2))
    go_ret
    exact ⟨by first | rfl | (show _ = Ending.returned (Value.int IntKind.u16 ((m &&& 1 : Nat) : Int)); rw [Nat.and_one_is_mod]; rfl), HB.out⟩
  · have hL : bits_Len.f 27 = some 5 := by kernel_rfl
    have hA : Go.bits .and .u16 (m : Int) 2048 = ((m &&& 2048 : Nat) : Int) := u16_and_nat m 2048 hm (by decide)
    have HB := Lib.hid (RowKit.Below.refl w.heap.size w)
    go_enter Tryz.func24, Tryz.ntmps24
    go_wp2_with (first | (go_at_call 62; (with_reducible refine (bits_Len.calls 16 5 _ l16).mono ?_); rintro e w' ⟨rfl, hb⟩; have HB2 := Lib.hid (HB.out.trans (hb.mono HB.out.size)); clear HB hb; have HB := HB2; clear HB2) | (go_at_call 62; (with_reducible refine (bits_Len.calls 27 5 _ hL).mono ?_); rintro e w' ⟨rfl, hb⟩; have HB2 := Lib.hid (HB.out.trans (hb.mono HB.out.size)); clear HB hb; have HB := HB2; clear HB2))
    go_ret
    exact ⟨by first | rfl | (show _ = Ending.returned (Value.int IntKind.u16 ((m &&& 1 : Nat) : Int)); rw [Nat.and_one_is_mod]; rfl), HB.out⟩
  · have hL : bits_Len.f 28 = some 5 := by kernel_rfl
    have hA : Go.bits .and .u16 (m : Int) 4096 = ((m &&& 4096 : Nat) : Int) := u16_and_nat m 4096 hm (by decide)
    have HB := Lib.hid (RowKit.Below.refl w.heap.size w)
    go_enter Tryz.func24, Tryz.ntmps24
    go_wp2_with (first | (go_at_call 62; (with_reducible refine (bits_Len.calls 16 5 _ l16).mono ?_); rintro e w' ⟨rfl, hb⟩; have HB2 := Lib.hid (HB.out.trans (hb.mono HB.out.size)); clear HB hb; have HB := HB2; clear HB2) | (go_at_call 62; (with_reducible refine (bits_Len.calls 28 5 _ hL).mono ?_); rintro e w' ⟨rfl, hb⟩; have HB2 := Lib.hid (HB.out.trans (hb.mono HB.out.size)); clear HB hb; have HB := HB2; clear HB2))
    go_ret
    exact ⟨by first | rfl | (show _ = Ending.returned (Value.int IntKind.u16 ((m &&& 1 : Nat) : Int)); rw [Nat.and_one_is_mod]; rfl), HB.out⟩
  · have hL : bits_Len.f 29 = some 5 := by kernel_rfl
    have hA : Go.bits .and .u16 (m : Int) 8192 = ((m &&& 8192 : Nat) : Int) := u16_and_nat m 8192 hm (by decide)
    have HB := Lib.hid (RowKit.Below.refl w.heap.size w)
    go_enter Tryz.func24, Tryz.ntmps24
    go_wp2_with (first | (go_at_call 62; (with_reducible refine (bits_Len.calls 16 5 _ l16).mono ?_); rintro e w' ⟨rfl, hb⟩; have HB2 := Lib.hid (HB.out.trans (hb.mono HB.out.size)); clear HB hb; have HB := HB2; clear HB2) | (go_at_call 62; (with_reducible refine (bits_Len.calls 29 5 _ hL).mono ?_); rintro e w' ⟨rfl, hb⟩; have HB2 := Lib.hid (HB.out.trans (hb.mono HB.out.size)); clear HB hb; have HB := HB2; clear HB2))
    go_ret
    exact ⟨by first | rfl | (show _ = Ending.returned (Value.int IntKind.u16 ((m &&& 1 : Nat) : Int)); rw [Nat.and_one_is_mod]; rfl), HB.out⟩
  · have hL : bits_Len.f 30 = some 5 := by kernel_rfl
    have hA : Go.bits .and .u16 (m : Int) 16384 = ((m &&& 16384 : Nat) : Int) := u16_and_nat m 16384 hm (by decide)
    have HB := Lib.hid (RowKit.Below.refl w.heap.size w)
    go_enter Tryz.func24, Tryz.ntmps24
    go_wp2_with (first | (go_at_call 62; (with_reducible refine (bits_Len.calls 16 5 _ l16).mono ?_); rintro e w' ⟨rfl, hb⟩; have HB2 := Lib.hid (HB.out.trans (hb.mono HB.out.size)); clear HB hb; have HB := HB2; clear HB2) | (go_at_call 62; (with_reducible refine (bits_Len.calls 30 5 _ hL).mono ?_); rintro e w' ⟨rfl, hb⟩; have HB2 := Lib.hid (HB.out.trans (hb.mono HB.out.size)); clear HB hb; have HB := HB2; clear HB2))
    go_ret
    exact ⟨by first | rfl | (show _ = Ending.returned (Value.int IntKind.u16 ((m &&& 1 : Nat) : Int)); rw [Nat.and_one_is_mod]; rfl), HB.out⟩
  · have hL : bits_Len.f 31 = some 5 := by kernel_rfl
    have hA : Go.bits .and .u16 (m : Int) 32768 = ((m &&& 32768 : Nat) : Int) := u16_and_nat m 32768 hm (by decide)
    have HB := Lib.hid (RowKit.Below.refl w.heap.size w)
    go_enter Tryz.func24, Tryz.ntmps24
    go_wp2_with (first | (go_at_call 62; (with_reducible refine (bits_Len.calls 16 5 _ l16).mono ?_); rintro e w' ⟨rfl, hb⟩; have HB2 := Lib.hid (HB.out.trans (hb.mono HB.out.size)); clear HB hb; have HB := HB2; clear HB2) | (go_at_call 62; (with_reducible refine (bits_Len.calls 31 5 _ hL).mono ?_); rintro e w' ⟨rfl, hb⟩; have HB2 := Lib.hid (HB.out.trans (hb.mono HB.out.size)); clear HB hb; have HB := HB2; clear HB2))
    go_ret
    exact ⟨by first | rfl | (show _ = Ending.returned (Value.int IntKind.u16 ((m &&& 1 : Nat) : Int)); rw [Nat.and_one_is_mod]; rfl), HB.out⟩
theorem tree_Below.calls (k : Nat) (a0 : Int) (a1 : Int) (r : Int) (w : World) (h : tree_Below.f k a0 a1 = some r) :
    Calls Tryz.prog 24 #[.int .u16 a0, .int .i64 a1] w fun e w' => e = .returned (.int .u16 r) ∧ RowKit.Below w.heap.size w w' := by
  unfold tree_Below.f at h
  split at h
  · rename_i hb
    obtain rfl := Option.some.inj h
    unfold belowI
    split
    · rename_i hn
      have := below_in a0.toNat (by omega) w a1.toNat (by omega) (by omega)
      rwa [Int.toNat_of_nonneg hb.1, Int.toNat_of_nonneg (by omega)] at this
    · rename_i hn
      exact below_out a0 a1 (by omega) w
  · cases h
end Go.Proofs.YtkmpfmhbkflgpaaGreatDoor.Pr

/- The tree of keys: what its functions compute, in closed form; sets of members by their bits. -/
set_option linter.unusedVariables false
set_option linter.unusedSimpArgs false
namespace Go.Proofs.YtkmpfmhbkflgpaaGreatDoor.Pr
open Go.RowKit Go.Proofs.YtkmpfmhbkflgpaaGreatDoorW.PrintWords

/-- A member's nodes. -/
def pathI (id : Int) : List Int := if 0 ≤ id ∧ id < 16 then [16 + id, (16 + id) / 2, (16 + id) / 4, (16 + id) / 8, 1] else []
theorem path_f (id : Int) (h0 : 0 ≤ id) (h1 : id ≤ 255) : Ev (fun k => tree_Path.f k id) (pathI id) := by
  by_cases h : id < 16
  · have hid : id = 0 ∨ id = 1 ∨ id = 2 ∨ id = 3 ∨ id = 4 ∨ id = 5 ∨ id = 6 ∨ id = 7 ∨ id = 8 ∨ id = 9 ∨ id = 10 ∨ id = 11 ∨ id = 12 ∨ id = 13 ∨ id = 14 ∨ id = 15 := by omega
    rcases hid with rfl | rfl | rfl | rfl | rfl | rfl | rfl | rfl | rfl | rfl | rfl | rfl | rfl | rfl | rfl | rfl <;> exact Ev.of (fun k => tree_Path.mono _ k) (k := 6) (by kernel_rfl)
  · have e : pathI id = [] := by unfold pathI; rw [if_neg (by omega)]
    rw [e]
    refine ⟨1, fun k hk => ?_⟩
    obtain ⟨k, rfl⟩ : ∃ m, k = m + 1 := ⟨k - 1, by omega⟩
    unfold tree_Path.f tree_Leaf.f
    rw [if_pos (by omega)]
    rfl

/-! ### Members of a set -/
def bit (s i : Nat) : Bool := s / 2 ^ i % 2 == 1
theorem bit_eq (s i : Nat) : bit s i = s.testBit i := by
  unfold bit
  rw [Nat.testBit_eq_decide_div_mod_eq, Bool.eq_iff_iff]
  simp
def idsN (s : Nat) : List Nat := (List.range 16).filter (bit s)
theorem mem_ids {s i : Nat} : i ∈ idsN s ↔ i < 16 ∧ bit s i = true := by unfold idsN; simp [List.mem_filter]
theorem ids_asc (s : Nat) : (idsN s).Pairwise (· < ·) := List.Pairwise.filter _ List.pairwise_lt_range
/-- Two lists that rise, with the same members, are one. -/
theorem asc_ext : ∀ {l1 l2 : List Nat}, l1.Pairwise (· < ·) → l2.Pairwise (· < ·) → (∀ x, x ∈ l1 ↔ x ∈ l2) → l1 = l2
  | [], [], _, _, _ => rfl
  | [], y :: l2, _, _, h => absurd ((h y).2 List.mem_cons_self) (by simp)
  | x :: l1, [], _, _, h => absurd ((h x).1 List.mem_cons_self) (by simp)
  | x :: l1, y :: l2, h1, h2, h => by
    obtain ⟨a1, b1⟩ := List.pairwise_cons.1 h1
    obtain ⟨a2, b2⟩ := List.pairwise_cons.1 h2
    have hxy : x = y := by
      rcases List.mem_cons.1 ((h x).1 List.mem_cons_self) with e | e
      · exact e
      · rcases List.mem_cons.1 ((h y).2 List.mem_cons_self) with e' | e'
        · exact e'.symm
        · have := a2 x e; have := a1 y e'; omega
    subst hxy
    rw [asc_ext b1 b2 fun z => ?_]
    constructor
    · intro hz
      rcases List.mem_cons.1 ((h z).1 (List.mem_cons_of_mem _ hz)) with e | e
      · have := a1 z hz; omega
      · exact e
    · intro hz
      rcases List.mem_cons.1 ((h z).2 (List.mem_cons_of_mem _ hz)) with e | e
      · have := a2 z hz; omega
      · exact e
theorem ids_step (s : Nat) (h0 : 0 < s) (h : s < 65536) : idsN s = tz s :: idsN (s &&& (s - 1)) := by
  have ht : tz s < 16 := tz_lt 16 s h0 h
  obtain ⟨t1, t2⟩ := tz_bit 16 s h0 h
  refine asc_ext (ids_asc s) (List.pairwise_cons.2 ⟨fun i hi => ?_, ids_asc _⟩) fun i => ?_
  · obtain ⟨_, hb⟩ := mem_ids.1 hi
    rw [bit_eq, strip_bit 16 s h0 h] at hb
    simp only [Bool.and_eq_true, decide_eq_true_eq] at hb
    rcases Nat.lt_trichotomy (tz s) i with g | g | g
    · exact g
    · exact absurd g.symm hb.2
    · rw [t2 i g] at hb; cases hb.1
  · rw [List.mem_cons, mem_ids, mem_ids, bit_eq, bit_eq, strip_bit 16 s h0 h]
    simp only [Bool.and_eq_true, decide_eq_true_eq]
    show _ ↔ i = tz s ∨ _ ∧ _ ∧ i ≠ tz s
    constructor
    · rintro ⟨a, b⟩
      by_cases g : i = tz s
      · exact .inl g
      · exact .inr ⟨a, b, g⟩
    · rintro (rfl | ⟨a, b, _⟩)
      · exact ⟨ht, t1⟩
      · exact ⟨a, b⟩
theorem ids_zero : idsN 0 = [] := by decide
theorem list_l (s : Nat) : ∀ acc : List Int, s < 65536 → acc.length + s ≤ 100000 → Ev (fun k => count_List.l0 k (s : Int) acc) (acc ++ (idsN s).map (fun n : Nat => (n : Int))) := by
  induction s using Nat.strongRecOn with
  | ind s ih =>
    intro acc hs ha
    by_cases h0 : s = 0
    · subst h0
      rw [ids_zero]
      exact Ev.step (f := fun _ => some acc) (fun k => by simp only [count_List.l0]; rw [if_pos (by rfl)]) (by simpa using Ev.now acc)
    · have hl : s &&& (s - 1) ≤ s - 1 := Nat.and_le_right
      have hz : tz s ≤ 16 := tzAux_le 16 s
      have h1 : bits_TrailingZeros16.f (s : Int) = some ((tz s : Nat) : Int) := by
        unfold bits_TrailingZeros16.f
        rw [if_pos ⟨by omega, by omega⟩, Int.toNat_natCast]
      have h2 : Go.bits .and .u16 (s : Int) (IntKind.u16.wrap ((s : Int) - 1)) = ((s &&& (s - 1) : Nat) : Int) := by
        have e : IntKind.u16.wrap ((s : Int) - 1) = ((s - 1 : Nat) : Int) := by simp only [IntKind.wrap, IntKind.bits, IntKind.signed]; simp; omega
        rw [e, u16_and_nat s (s - 1) hs (by omega)]
      have hi := ih (s &&& (s - 1)) (by omega) (acc ++ [((tz s : Nat) : Int)]) (by omega) (by simp; omega)
      refine Ev.step (f := fun k => count_List.l0 k ((s &&& (s - 1) : Nat) : Int) (acc ++ [((tz s : Nat) : Int)])) (fun k => ?_) ?_
      · simp only [count_List.l0]
        rw [if_neg (by omega), h1]
        simp only [Option.bind_some]
        rw [if_pos (by omega), h2, show ((tz s : Nat) : Int) % 256 = ((tz s : Nat) : Int) by omega]
      · rw [ids_step s (by omega) hs]
        simpa using hi
def idsI (s : Int) : List Int := (idsN s.toNat).map (fun n : Nat => (n : Int))
theorem list_f (s : Nat) (hs : s < 65536) : Ev (fun k => count_List.f k (s : Int)) (idsI (s : Int)) := by
  have h := list_l s [] hs (by simp; omega)
  unfold idsI
  rw [Int.toNat_natCast]
  rw [List.nil_append] at h
  exact h
theorem ids_len (s : Nat) : (idsN s).length ≤ 16 := Nat.le_trans (List.length_filter_le _ _) (by simp)

/-! ### Bits -/
theorem bit_and (a b i : Nat) : bit (a &&& b) i = (bit a i && bit b i) := by simp only [bit_eq, Nat.testBit_and]
theorem bit_xor (a b i : Nat) : bit (a ^^^ b) i = Bool.xor (bit a i) (bit b i) := by simp only [bit_eq, Nat.testBit_xor]
theorem bit_big {s i : Nat} (hs : s < 65536) (hi : 16 ≤ i) : bit s i = false := by
  rw [bit_eq]
  exact Nat.testBit_lt_two_pow (Nat.lt_of_lt_of_le (show s < 2 ^ 16 from hs) (Nat.pow_le_pow_right (by decide) hi))
theorem ext16 {a b : Nat} (ha : a < 65536) (hb : b < 65536) (h : ∀ i, i < 16 → bit a i = bit b i) : a = b := by
  apply Nat.eq_of_testBit_eq
  intro i
  rw [← bit_eq, ← bit_eq]
  by_cases hi : i < 16
  · exact h i hi
  · rw [bit_big ha (by omega), bit_big hb (by omega)]
theorem ne_zero {a : Nat} (ha : a < 65536) : a ≠ 0 ↔ ∃ i, i < 16 ∧ bit a i = true := by
  constructor
  · intro h
    exact Classical.byContradiction fun hn => h (ext16 ha (by decide) fun i hi => by
      cases hb : bit a i with
      | true => exact absurd ⟨i, hi, hb⟩ hn
      | false => rw [bit_eq, Nat.zero_testBit])
  · rintro ⟨i, hi, hb⟩ rfl
    rw [bit_eq, Nat.zero_testBit] at hb
    cases hb
/-- Which members are below which nodes: those on whose way the node is. -/
theorem mask_all : ((List.range 32).all fun n => maskN n < 65536 && (List.range 16).all fun i => bit (maskN n) i == (pathI (i : Int)).contains (n : Int)) = true := by decide +kernel
theorem mask_bit (n i : Nat) (hn : n < 32) (hi : i < 16) : bit (maskN n) i = (pathI (i : Int)).contains (n : Int) := by
  have := List.all_eq_true.1 mask_all n (List.mem_range.2 hn)
  simp only [Bool.and_eq_true] at this
  exact beq_iff_eq.1 (List.all_eq_true.1 this.2 i (List.mem_range.2 hi))
end Go.Proofs.YtkmpfmhbkflgpaaGreatDoor.Pr

/- tree.Fresh: its walk. -/
set_option linter.unusedVariables false
set_option linter.unusedSimpArgs false
namespace Go.Proofs.YtkmpfmhbkflgpaaGreatDoor.Pr
open Go.RowKit Go.Shelf Go.Sort Go.Proofs.YtkmpfmhbkflgpaaGreatDoorW.PrintWords

/-- One node more, where somebody is left below. -/
def stepO (is : Int) (n : Int) : List Int := if belowI is n = 0 then [] else [n]
def ofId (is : Int) (id : Nat) : List Int := ((pathI (id : Int)).tail).flatMap (stepO is)
def outL (is : Int) (ids : List Nat) : List Int := ids.flatMap (ofId is)

theorem block_kept {w w2 : World} {g : Nat} {o tmp : Obj} {row : Option Nat} (h : w.heap[g]? = some o) (hg : (w.alloc tmp).grownBy w2 row) (hne : row ≠ some g) : w2.heap[g]? = some o := by
  have hlt := (Array.getElem?_eq_some_iff.1 h).1
  rw [hg.block g (by simp; omega) (fun e => hne e.symm)]
  exact (Below.heap_alloc w tmp g hlt).trans h
theorem cell_block {w : World} {g : Nat} {cur : Array Value} {e : TypeId} (h : w.heap[g]? = some (.cells cur e (0, 0))) (j : Nat) : w.cell? ⟨g, j, none⟩ = cur[j]? := by
  simp [World.cell?, h]
theorem irow_ne {base : Nat} {w : World} {v : Value} {xs : List Int} (h : IRow base w v xs) {g : Nat} {cur : Array Value} {e : TypeId} (hg : w.heap[g]? = some (.cells cur e (0, 0))) (he : e ≠ 3) : v.ownBlock ≠ some g := fun hv => by
  obtain ⟨cells, hc⟩ := own_typed h g hv
  rw [hc] at hg
  injection hg with hg
  injection hg with _ hg
  exact he hg.symm
theorem irow_lt {base : Nat} {w : World} {v : Value} {xs : List Int} (h : IRow base w v xs) (k : Nat) (hk : v.ownBlock = some k) : k < w.heap.size := by
  obtain ⟨cells, hc⟩ := own_typed h k hk
  exact (Array.getElem?_eq_some_iff.1 hc).1
theorem irow_below {base : Nat} {w w' : World} {v : Value} {xs : List Int} (h : IRow base w v xs) (hb : RowKit.Below w.heap.size w w') : IRow base w' v xs := own_move h (fun k hk => hb.block k (irow_lt h k hk))

/-- What tree.Path hands back for a member: five nodes in a row of their own. -/
def PathPost (id : Nat) (w : World) (e : Ending) (w' : World) : Prop :=
  ∃ g cap cur, e = .returned (.slice (some ⟨g, 0, none⟩) 5 cap) ∧ 5 ≤ cap ∧ w.heap.size ≤ g ∧ w'.heap[g]? = some (.cells cur 3 (0, 0)) ∧ (∀ j, j < 5 → cur[j]? = some (.int .i64 ((pathI (id : Int)).getD j 0))) ∧ RowKit.Below w.heap.size w w'
theorem path_len (id : Nat) (h : id < 16) : (pathI (id : Int)).length = 5 := by unfold pathI; rw [if_pos (by omega)]; rfl
theorem path_any (id : Nat) (h : id < 16) (w : World) : Calls Tryz.prog 30 #[.int .u8 (id : Int)] w (PathPost id w) := by
  obtain ⟨K, hK⟩ := path_f (id : Int) (by omega) (by omega)
  refine (tree_Path.calls K (id : Int) _ w (hK K (Nat.le_refl _))).mono ?_
  rintro e w' ⟨v, rfl, hr, hb⟩
  have ho : IRow w.heap.size w' v (pathI (id : Int)) := IRow.ofR hr
  rcases ho.2 with ⟨_, h0⟩ | ⟨g, cap, cur, rfl, hbase, hg, h1, h2, h3, h4⟩
  · rw [path_len id h] at h0; omega
  · rw [path_len id h] at h1 h4 ⊢
    refine ⟨g, cap, cur, rfl, h1, hbase, hg, fun j hj => ?_, hb⟩
    have e1 : (cur.toList.take 5)[j]? = ((pathI (id : Int)).map (Value.int .i64))[j]? := by rw [show (5 : Nat) = 5 * 1 from rfl, h4]
    rw [List.getElem?_take_of_lt hj, Array.getElem?_toList, List.getElem?_map, List.getElem?_eq_getElem (by rw [path_len id h]; exact hj)] at e1
    rw [e1, List.getD_eq_getElem?_getD, List.getElem?_eq_getElem (by rw [path_len id h]; exact hj)]; rfl

def FreshPost (is : Nat) (ids : List Nat) (w : World) (e : Ending) (w' : World) : Prop := ∃ v, e = .returned v ∧ IRow w.heap.size w' v (finL (outL (is : Int) ids)) ∧ RowKit.Below w.heap.size w w'
theorem flat_snoc {α β : Type} (l : List α) (f : α → List β) (x : α) : (l ++ [x]).flatMap f = l.flatMap f ++ f x := by simp [List.flatMap_append]
theorem stepO_len (is n : Int) : (stepO is n).length ≤ 1 := by unfold stepO; split <;> simp
theorem flat_len {α β : Type} (f : α → List β) (b : Nat) (hf : ∀ x, (f x).length ≤ b) : ∀ l : List α, (l.flatMap f).length ≤ l.length * b
  | [] => by simp
  | x :: l => by
    have := flat_len f b hf l
    have := hf x
    simp only [List.flatMap_cons, List.length_append, List.length_cons, Nat.succ_mul]; omega
theorem ofId_len (is : Int) (id : Nat) : (ofId is id).length ≤ 5 := by
  unfold ofId
  refine Nat.le_trans (flat_len _ 1 (stepO_len is) _) ?_
  unfold pathI; split <;> simp

set_option maxHeartbeats 8000000 in
set_option maxRecDepth 100000 in
theorem fresh_walk (was is : Nat) (hw : was < 65536) (hi : is < 65536) (w : World) (HT0 : TabAt w) :
    Calls Tryz.prog 20 #[.int .u16 (was : Int), .int .u16 (is : Int)] w (FreshPost is (idsN (was ^^^ is)) w) := by
  have hx : Go.bits .xor .u16 (was : Int) (is : Int) = ((was ^^^ is : Nat) : Int) := u16_xor_nat was is hw hi
  have hlt : was ^^^ is < 65536 := Nat.xor_lt_two_pow (n := 16) hw hi
  obtain ⟨K, hK⟩ := list_f (was ^^^ is) hlt
  have hlist : Calls Tryz.prog 56 #[.int .u16 ((was ^^^ is : Nat) : Int)] w _ := count_List.calls K ((was ^^^ is : Nat) : Int) _ w (hK K (Nat.le_refl _)) HT0
  have hids : ∀ x ∈ idsN (was ^^^ is), x < 16 := fun x hx => (mem_ids.1 hx).1
  have hidl := ids_len (was ^^^ is)
  have hidsI : idsI ((was ^^^ is : Nat) : Int) = (idsN (was ^^^ is)).map (fun n : Nat => (n : Int)) := by unfold idsI; rw [Int.toNat_natCast]
  rw [hidsI] at hlist
  generalize was ^^^ is = s at hx hlist hids hidl hK hlt hidsI
  generalize idsN s = ids at hlist hids hidl hK hidsI
  clear hK hidsI hlt HT0
  obtain ⟨i0, hii, hz0, hz1, hz2⟩ := info_parts infoI
  go_enter Tryz.func20, Tryz.ntmps20
  go_wp2_with (go_at_call 56; refine hlist.mono ?_; clear hlist; rintro e w1 ⟨v1, rfl, hr, hb⟩; have ho := Kd.own_of_R hr; clear hr; rw [List.length_map] at ho; rcases ho.2 with ⟨rfl, hz⟩ | ⟨gi, capi, cur, rfl, hbase, hgi, h1, h2, h3, h4⟩)
  · -- nobody has changed
    obtain rfl : ids = [] := List.eq_nil_of_length_eq_zero hz
    have HB := Lib.hid hb
    have HSZ := hb.size
    have HI : IRow w.heap.size w1 (.slice none 0 0) [] := World.ownsRow_nil _ _ _ _
    have cF : ([] : List Int).length < 1000000 := by decide
    clear hb hz ho
    refine wp_loop_rounds 1 ?_
    rw [rounds_succ]
    have hs := sort_row HI cF
    go_wp2_with (go_at_call 57; refine hs.mono ?_; rintro e w27 ⟨rfl, hp1⟩)
    have hc := compact_row hp1.1 (by rw [sortL_len]; exact cF)
    have HP1 := Lib.hid hp1
    clear hs hp1
    go_wp2_with (go_at_call 58; refine hc.mono ?_; rintro e w28 ⟨v28, rfl, hp2⟩)
    have hv := reverse_row hp2.1 (Nat.lt_of_le_of_lt (compact_le _) (by rw [sortL_len]; exact cF))
    obtain ⟨A28, c28, e28⟩ := Kd.R_slice hp2.1.toR
    subst e28
    have HP2 := Lib.hid hp2
    clear hc hp2
    go_wp2_with (go_at_call 59; refine hv.mono ?_; rintro e w29 ⟨rfl, hp3⟩)
    have hb1 := HP1.out.below HI HB.out HSZ
    have hb2 := HP2.out.below HP1.out.1 hb1 (Nat.le_trans HSZ HP1.out.le)
    have hb3 := hp3.below HP2.out.1 hb2 (Nat.le_trans (Nat.le_trans HSZ HP1.out.le) HP2.out.le)
    go_ret
    exact ⟨_, rfl, hp3.1, hb3⟩
  · have hcur : ∀ j, j < ids.length → cur[j]? = some (.int .u8 ((ids.getD j 0 : Nat) : Int)) := fun j hj => by
      have e1 : (cur.toList.take ids.length)[j]? = (encs (Value.int .u8) (ids.map (fun n : Nat => (n : Int))))[j]? := by rw [← h4, Nat.mul_one]
      rw [List.getElem?_take_of_lt hj, Array.getElem?_toList] at e1
      rw [e1]
      simp [encs, hj]
    obtain ⟨n, hn⟩ : ∃ n, n = ids.length := ⟨_, rfl⟩
    rw [← hn] at hcur hidl h1
    rw [← hn]
    have HN := Lib.hid hn
    have HB1 := Lib.hid hb
    have HCUR := Lib.hid hcur
    have HIDS := Lib.hid hids
    have HW := hb.size
    clear hcur hn hb hids ho h2 h3 h4 h1
    go_loopw [5, 15] (fun v5 v15 wr => ∃ i : Nat, i ≤ n ∧ v15 = .int .i64 i ∧ IRow w.heap.size wr v5 (outL (is : Int) (ids.take i)) ∧ wr.heap[gi]? = some (.cells cur 5 (0, 0)) ∧ RowKit.Below w.heap.size w wr) (fun _ v15 _ => n - (intOf v15).toNat)
    case atStart => exact ⟨0, Nat.zero_le _, rfl, by unfold IRow; exact World.ownsRow_nil _ _ _ _, hgi, HB1.out⟩
    case round =>
      obtain ⟨i, hin, rfl, hrow, hgr, hbel⟩ := hrel
      by_cases hlt : i < n
      · have hil : i < ids.length := by have := HN.out; omega
        have hcell : wr.cell? ⟨gi, i, none⟩ = some (.int .u8 ((ids.getD i 0 : Nat) : Int)) := (cell_block hgr i).trans (HCUR.out i hlt)
        have hid : ids.getD i 0 < 16 := HIDS.out _ (by rw [List.getD_eq_getElem?_getD, List.getElem?_eq_getElem hil, Option.getD_some]; exact List.getElem_mem _)
        have hts : ids.take (i + 1) = ids.take i ++ [ids.getD i 0] := by
          rw [List.take_succ_eq_append_getElem hil, List.getD_eq_getElem?_getD, List.getElem?_eq_getElem hil, Option.getD_some]
        generalize ids.getD i 0 = id at hcell hid hts
        have HTS := Lib.hid hts
        have hol : (outL (is : Int) (ids.take i)).length ≤ 80 := by
          refine Nat.le_trans (flat_len _ 5 (ofId_len _) _) ?_
          rw [List.length_take]; have := HN.out; omega
        have hout : outL (is : Int) (ids.take i ++ [id]) = outL (is : Int) (ids.take i) ++ ofId (is : Int) id := flat_snoc _ _ _
        generalize outL (is : Int) (ids.take i) = out at hrow hol hout
        have HOUT := Lib.hid hout
        have hp := path_any id hid
        have HROW := Lib.hid hrow; have HBEL := Lib.hid hbel; have HGR := Lib.hid hgr
        clear hts hrow hbel hgr hil hout
        go_wp2_with fail
        refine (hp _).mono ?_
        clear hp
        rintro e w2 ⟨gp, cp, cu2, rfl, hcp, hgp, hg2, hcu, hb2⟩
        have hcp1 : ¬ cp = 1 := by omega
        have hr2 : IRow w.heap.size w2 u5 out := irow_below HROW.out hb2
        have hne2 : u5.ownBlock ≠ some gp := fun e => by have := irow_lt HROW.out gp e; omega
        have hgr2 := (hb2.block gi (Array.getElem?_eq_some_iff.1 HGR.out).1).trans HGR.out
        have hbel2 := HBEL.out.trans (hb2.mono HBEL.out.size)
        have HCU := Lib.hid hcu
        have HR2 := Lib.hid hr2; have HNE2 := Lib.hid hne2; have HGR2 := Lib.hid hgr2; have HBEL2 := Lib.hid hbel2; have HG2 := Lib.hid hg2
        clear hcu hb2 hg2 hgp hr2 hne2 hgr2 hbel2
        go_wp2
        go_loopw [5, 23] (fun v5 v23 wq => ∃ j : Nat, j ≤ 4 ∧ v23 = .int .i64 j ∧ IRow w.heap.size wq v5 (out ++ ((pathI (id : Int)).tail.take j).flatMap (stepO (is : Int))) ∧ v5.ownBlock ≠ some gp ∧ wq.heap[gp]? = some (.cells cu2 3 (0, 0)) ∧ wq.heap[gi]? = some (.cells cur 5 (0, 0)) ∧ RowKit.Below w.heap.size w wq) (fun _ v23 _ => 4 - (intOf v23).toNat)
        case atStart => exact ⟨0, by omega, rfl, by simpa using HR2.out, HNE2.out, HG2.out, HGR2.out, HBEL2.out⟩
        case round =>
          obtain ⟨j, hj, rfl, hrow, hnep, hgp, hgr, hbel⟩ := hrel
          have htl : (pathI (id : Int)).tail.length = 4 := by rw [List.length_tail, path_len id hid]
          by_cases hj4 : j < 4
          · have hcj : wr.cell? ⟨gp, 1 + j, none⟩ = some (.int .i64 ((pathI (id : Int)).getD (1 + j) 0)) := (cell_block hgp (1 + j)).trans (HCU.out (1 + j) (by omega))
            have htk : (pathI (id : Int)).tail.take (j + 1) = (pathI (id : Int)).tail.take j ++ [(pathI (id : Int)).getD (1 + j) 0] := by
              rw [List.take_succ_eq_append_getElem (by omega), List.getElem_tail, List.getD_eq_getElem?_getD, Nat.add_comm 1 j, List.getElem?_eq_getElem (by rw [path_len id hid]; omega), Option.getD_some]
            have hxl : (out ++ ((pathI (id : Int)).tail.take j).flatMap (stepO (is : Int))).length ≤ 90 := by
              have h1 := flat_len (stepO (is : Int)) 1 (stepO_len _) ((pathI (id : Int)).tail.take j)
              rw [List.length_take] at h1
              rw [List.length_append]; omega
            have hnx : out ++ ((pathI (id : Int)).tail.take (j + 1)).flatMap (stepO (is : Int)) = (out ++ ((pathI (id : Int)).tail.take j).flatMap (stepO (is : Int))) ++ stepO (is : Int) ((pathI (id : Int)).getD (1 + j) 0) := by
              rw [htk, flat_snoc, List.append_assoc]
            generalize out ++ ((pathI (id : Int)).tail.take j).flatMap (stepO (is : Int)) = xs at hrow hxl hnx
            generalize (pathI (id : Int)).getD (1 + j) 0 = nd at hcj hnx
            have hbw : ∀ W, Calls Tryz.prog 24 #[.int .u16 (is : Int), .int .i64 nd] W fun e w' => e = .returned (.int .u16 (belowI (is : Int) nd)) ∧ RowKit.Below W.heap.size W w' := fun W => tree_Below.calls 0 (is : Int) nd _ W (by unfold tree_Below.f; rw [if_pos ⟨by omega, by omega⟩])
            have HNX := Lib.hid hnx; have HRO := Lib.hid hrow; have HNP := Lib.hid hnep; have HGPB := Lib.hid hgp; have HGRB := Lib.hid hgr; have HBL := Lib.hid hbel
            clear hnx hrow hnep hgp hgr hbel htk htl
            by_cases hz : belowI (is : Int) nd = 0
            · rw [hz] at hbw
              go_wp2_with (go_at_call 24; refine (hbw _).mono ?_; clear hbw; rintro e w3 ⟨rfl, hb3⟩; have HB3 := Lib.hid hb3; clear hb3)
              go_roundw
              case rel =>
                exact ⟨j + 1, by omega, by simp, by rw [HNX.out, show stepO (is : Int) nd = [] by unfold stepO; rw [if_pos hz], List.append_nil]; exact irow_below HRO.out HB3.out, HNP.out,
                  (HB3.out.block gp (Array.getElem?_eq_some_iff.1 HGPB.out).1).trans HGPB.out, (HB3.out.block gi (Array.getElem?_eq_some_iff.1 HGRB.out).1).trans HGRB.out, HBL.out.trans (HB3.out.mono HBL.out.size)⟩
              case measure => simp [intOf]; omega
            · obtain ⟨bv, hbv⟩ : ∃ bv, belowI (is : Int) nd = bv := ⟨_, rfl⟩
              rw [hbv] at hbw
              have hz2 : ¬ bv = 0 := by rw [← hbv]; exact hz
              have z1 : (bv == 0) = false := beq_eq_false_iff_ne.mpr hz2
              have z2 : (bv != 0) = true := bne_iff_ne.mpr hz2
              have HZ := Lib.hid hz
              clear hbv hz2 hz
              go_wp2_with (first | (go_at_call 24; refine (hbw _).mono ?_; clear hbw; rintro e w3 ⟨rfl, hb3⟩; have hr3 : w3.ownsRow w.heap.size 3 1 u5 xs.length (xs.map (Value.int .i64)) := irow_below HRO.out hb3; have HB3 := Lib.hid hb3; clear hb3) | (at_builtin; refine wpList_append_own_at _ rfl _ _ 64 rfl w.heap.size 3 i0 (.int .i64 0) 1 8 Tryz.underlying64 hii hz0 hz1 hz2 rfl (by decide) _ _ _ rfl (hr3.alloc _) ⟨w3.heap.size, 0, none⟩ 1 1 [.int .i64 nd] rfl rfl (cell_one_new _ _ _) (by simp [Value.oneCell']) (by unfold maxLen; omega) (by omega) (by have := HBL.out.size; have := HB3.out.size; simp; omega) ?_; intro v4 w4 hown hgrow _ hloc; have HO := Lib.hid hown; have HG := Lib.hid hgrow; have HL := Lib.hid hloc; have HR3 := Lib.hid hr3; clear hown hgrow hloc hr3))
              go_roundw
              case rel =>
                have q1 := (HB3.out.block gp (Array.getElem?_eq_some_iff.1 HGPB.out).1).trans HGPB.out
                have q2 := (HB3.out.block gi (Array.getElem?_eq_some_iff.1 HGRB.out).1).trans HGRB.out
                have q3 := HBL.out.trans (HB3.out.mono HBL.out.size)
                have q4 : IRow w.heap.size w3 u5 xs := HR3.out
                refine ⟨j + 1, by omega, by simp, ?_, ?_, block_kept q1 HG.out HNP.out, block_kept q2 HG.out (irow_ne q4 q2 (by decide)), ?_⟩
                · rw [HNX.out, show stepO (is : Int) nd = [nd] by unfold stepO; rw [if_neg HZ.out]]
                  unfold IRow
                  rw [List.length_append, List.map_append]
                  exact HO.out
                · rcases HL.out with h | h
                  · rw [h]; exact HNP.out
                  · rw [h]; intro e
                    have : gp < w3.heap.size := (Array.getElem?_eq_some_iff.1 q1).1
                    simp at e; omega
                · exact (q3.alloc (by have := HBL.out.size; have := HB3.out.size; omega) _).grown HG.out (by have := HBL.out.size; have := HB3.out.size; simp; omega) (fun k hk => own_base q4 k hk)
              case measure => simp [intOf]; omega
          · obtain rfl : j = 4 := by omega
            rw [List.take_of_length_le (by omega)] at hrow
            have HRO := Lib.hid hrow; have HGRB := Lib.hid hgr; have HBL := Lib.hid hbel
            clear hrow hnep hgp hgr hbel htl
            go_wp2
            go_roundw
            case rel => exact ⟨i + 1, by omega, by simp, by rw [HTS.out, HOUT.out]; exact HRO.out, HGRB.out, HBL.out⟩
            case measure => simp [intOf]; omega
      · obtain rfl : i = n := by omega
        have hl := HN.out
        rw [hl, List.take_length] at hrow
        have HB := Lib.hid hbel
        have HSZ := hbel.size
        have HI := hrow
        have cF : (outL (is : Int) ids).length < 1000000 := by
          have := flat_len _ 5 (ofId_len (is : Int)) ids
          unfold outL; omega
        clear hbel hgr hl
        obtain ⟨A5, c5, e5⟩ := Kd.R_slice HI.toR
        subst e5
        clear hrow
        have hs := sort_row HI cF
        go_wp2_with (go_at_call 57; refine hs.mono ?_; rintro e w27 ⟨rfl, hp1⟩)
        have hc := compact_row hp1.1 (by rw [sortL_len]; exact cF)
        have HP1 := Lib.hid hp1
        clear hs hp1
        go_wp2_with (go_at_call 58; refine hc.mono ?_; rintro e w28 ⟨v28, rfl, hp2⟩)
        have hv := reverse_row hp2.1 (Nat.lt_of_le_of_lt (compact_le _) (by rw [sortL_len]; exact cF))
        obtain ⟨A28, c28, e28⟩ := Kd.R_slice hp2.1.toR
        subst e28
        have HP2 := Lib.hid hp2
        clear hc hp2
        go_wp2_with (go_at_call 59; refine hv.mono ?_; rintro e w29 ⟨rfl, hp3⟩)
        have hb1 := HP1.out.below HI HB.out HSZ
        have hb2 := HP2.out.below HP1.out.1 hb1 (Nat.le_trans HSZ HP1.out.le)
        have hb3 := hp3.below HP2.out.1 hb2 (Nat.le_trans (Nat.le_trans HSZ HP1.out.le) HP2.out.le)
        go_ret
        exact ⟨_, rfl, hp3.1, hb3⟩

end Go.Proofs.YtkmpfmhbkflgpaaGreatDoor.Pr

/- tree.Fresh: what it computes: the plain law; its contract, in the print's form. -/
set_option linter.unusedVariables false
set_option linter.unusedSimpArgs false
namespace Go.Proofs.YtkmpfmhbkflgpaaGreatDoor.Pr
open Go.RowKit Go.Sort Go.Proofs.YtkmpfmhbkflgpaaGreatDoorW.PrintWords

/-- The nodes whose keys are new, from the last one to the first. -/
def downL : List Nat := [15, 14, 13, 12, 11, 10, 9, 8, 7, 6, 5, 4, 3, 2, 1]
def freshB (was is n : Nat) : Bool := ((was ^^^ is) &&& maskN n != 0) && (is &&& maskN n != 0)
def freshI (was is : Int) : List Int := (downL.filter (freshB was.toNat is.toNat)).map (fun n : Nat => (n : Int))

/-- Two lists that fall, with the same members, are one. -/
theorem desc_ext : ∀ {l1 l2 : List Int}, l1.Pairwise (· > ·) → l2.Pairwise (· > ·) → (∀ x, x ∈ l1 ↔ x ∈ l2) → l1 = l2
  | [], [], _, _, _ => rfl
  | [], y :: l2, _, _, h => absurd ((h y).2 List.mem_cons_self) (by simp)
  | x :: l1, [], _, _, h => absurd ((h x).1 List.mem_cons_self) (by simp)
  | x :: l1, y :: l2, h1, h2, h => by
    obtain ⟨a1, b1⟩ := List.pairwise_cons.1 h1
    obtain ⟨a2, b2⟩ := List.pairwise_cons.1 h2
    have hxy : x = y := by
      rcases List.mem_cons.1 ((h x).1 List.mem_cons_self) with e | e
      · exact e
      · rcases List.mem_cons.1 ((h y).2 List.mem_cons_self) with e' | e'
        · exact e'.symm
        · have := a2 x e; have := a1 y e'; omega
    subst hxy
    rw [desc_ext b1 b2 fun z => ?_]
    constructor
    · intro hz
      rcases List.mem_cons.1 ((h z).1 (List.mem_cons_of_mem _ hz)) with e | e
      · have := a1 z hz; omega
      · exact e
    · intro hz
      rcases List.mem_cons.1 ((h z).2 (List.mem_cons_of_mem _ hz)) with e | e
      · have := a2 z hz; omega
      · exact e

/-! ### Compact of a list that stands in order -/
theorem sortL_sorted (xs : List Int) : (sortL xs).Pairwise (· ≤ ·) := by
  have h := List.pairwise_mergeSort (le := fun (a b : Int) => decide (a ≤ b)) (fun a b c h1 h2 => by simp at *; omega) (fun a b => by simp; omega) xs
  refine (show List.Pairwise (fun a b => decide (a ≤ b) = true) (sortL xs) from h).imp ?_
  intro a b h; simpa using h
theorem sortL_mem (xs : List Int) (x : Int) : x ∈ sortL xs ↔ x ∈ xs := (List.mergeSort_perm xs _).mem_iff
theorem get_le {zs : List Int} (h : zs.Pairwise (· ≤ ·)) {i j : Nat} (hij : i ≤ j) (hj : j < zs.length) : zs.toArray[i]! ≤ zs.toArray[j]! := by
  rw [getElem!_pos zs.toArray i (by simp; omega), getElem!_pos zs.toArray j (by simpa using hj)]
  simp only [List.getElem_toArray]
  rcases Nat.lt_or_ge i j with g | g
  · exact List.pairwise_iff_getElem.1 h i j (by omega) hj g
  · obtain rfl : i = j := by omega
    exact Int.le_refl _
theorem compact_rises {zs : List Int} (h : zs.Pairwise (· ≤ ·)) : (Lib.compact zs).Pairwise (· < ·) := by
  unfold Lib.compact Lib.compactUpTo
  rw [List.pairwise_map, List.pairwise_filter]
  refine List.Pairwise.imp_of_mem ?_ List.pairwise_lt_range
  intro i j hi hj hij _ hk
  have hj' : j < zs.length := by simpa using hj
  unfold Lib.keeps at hk
  have hk := of_decide_eq_true hk
  rcases hk with hk | hk
  · omega
  · have h1 := get_le h (i := i) (j := j - 1) (by omega) (by omega)
    have h2 := get_le h (i := j - 1) (j := j) (by omega) hj'
    omega
theorem compact_mem {zs : List Int} (x : Int) : x ∈ Lib.compact zs ↔ x ∈ zs := by
  unfold Lib.compact Lib.compactUpTo
  rw [List.mem_map]
  constructor
  · rintro ⟨j, hj, rfl⟩
    have hj' : j < zs.length := by simpa using (List.mem_filter.1 hj).1
    rw [getElem!_pos zs.toArray j (by simpa using hj')]
    simp
  · intro hx
    obtain ⟨j, hj, rfl⟩ := List.mem_iff_getElem.1 hx
    induction j with
    | zero => exact ⟨0, List.mem_filter.2 ⟨by simpa using hj, by simp [Lib.keeps]⟩, by rw [getElem!_pos zs.toArray 0 (by simpa using hj)]; simp⟩
    | succ j ih =>
      by_cases hk : Lib.keeps zs.toArray (j + 1) = true
      · exact ⟨j + 1, List.mem_filter.2 ⟨by simpa using hj, hk⟩, by rw [getElem!_pos zs.toArray (j + 1) (by simpa using hj)]; simp⟩
      · have he : zs.toArray[j + 1]! = zs.toArray[j + 1 - 1]! := by
          apply Classical.byContradiction
          intro hne
          exact hk (by unfold Lib.keeps; exact decide_eq_true (.inr hne))
        rw [getElem!_pos zs.toArray (j + 1) (by simpa using hj), Nat.add_sub_cancel, getElem!_pos zs.toArray j (by simp; omega)] at he
        simp only [List.getElem_toArray] at he
        rw [he]
        exact ih (by omega) (List.getElem_mem _)
theorem fin_falls (xs : List Int) : (finL xs).Pairwise (· > ·) := by
  unfold finL
  rw [List.pairwise_reverse]
  exact compact_rises (sortL_sorted xs)
theorem fin_mem (xs : List Int) (x : Int) : x ∈ finL xs ↔ x ∈ xs := by
  unfold finL
  rw [List.mem_reverse, compact_mem, sortL_mem]

theorem path_range {id : Nat} (h : id < 16) {n : Int} (hn : n ∈ (pathI (id : Int)).tail) : 1 ≤ n ∧ n ≤ 15 := by
  have hid : id = 0 ∨ id = 1 ∨ id = 2 ∨ id = 3 ∨ id = 4 ∨ id = 5 ∨ id = 6 ∨ id = 7 ∨ id = 8 ∨ id = 9 ∨ id = 10 ∨ id = 11 ∨ id = 12 ∨ id = 13 ∨ id = 14 ∨ id = 15 := by omega
  unfold pathI at hn
  rw [if_pos (by omega)] at hn
  simp only [List.tail_cons, List.mem_cons, List.not_mem_nil, or_false] at hn
  omega
theorem tail_iff : ((List.range 16).all fun id => (List.range 16).all fun n => n == 0 || ((pathI (id : Int)).contains (n : Int) == (pathI (id : Int)).tail.contains (n : Int))) = true := by decide +kernel
theorem mem_tail {id n : Nat} (h : id < 16) (h1 : 1 ≤ n) (hn : n ≤ 15) : (n : Int) ∈ (pathI (id : Int)).tail ↔ bit (maskN n) id = true := by
  have := List.all_eq_true.1 (List.all_eq_true.1 tail_iff id (List.mem_range.2 h)) n (List.mem_range.2 (by omega))
  simp only [Bool.or_eq_true, beq_iff_eq] at this
  rw [mask_bit n id (by omega) h]
  rcases this with h | h
  · omega
  · rw [h, List.contains_iff_mem]
theorem below_ne {s n : Nat} (hs : s < 65536) (hn : n < 32) : s &&& maskN n ≠ 0 ↔ ∃ i, i < 16 ∧ bit s i = true ∧ bit (maskN n) i = true := by
  have hl : s &&& maskN n < 65536 := Nat.lt_of_le_of_lt Nat.and_le_left hs
  rw [ne_zero hl]
  constructor
  · rintro ⟨i, hi, hb⟩
    rw [bit_and, Bool.and_eq_true] at hb
    exact ⟨i, hi, hb.1, hb.2⟩
  · rintro ⟨i, hi, h1, h2⟩
    exact ⟨i, hi, by rw [bit_and, h1, h2]; rfl⟩
theorem mem_down (n : Nat) : n ∈ downL ↔ 1 ≤ n ∧ n ≤ 15 := by
  unfold downL
  simp only [List.mem_cons, List.not_mem_nil, or_false]
  omega
theorem belowI_nat (s n : Nat) (h1 : 1 ≤ n) (hn : n ≤ 31) : belowI (s : Int) (n : Int) = ((s &&& maskN n : Nat) : Int) := by
  unfold belowI
  rw [if_pos ⟨by omega, by omega⟩, Int.toNat_natCast, Int.toNat_natCast]
theorem out_mem (is : Nat) (ids : List Nat) (hids : ∀ i ∈ ids, i < 16) (x : Int) :
    x ∈ outL (is : Int) ids ↔ ∃ n : Nat, x = (n : Int) ∧ 1 ≤ n ∧ n ≤ 15 ∧ is &&& maskN n ≠ 0 ∧ ∃ id ∈ ids, bit (maskN n) id = true := by
  unfold outL ofId
  simp only [List.mem_flatMap]
  constructor
  · rintro ⟨id, hid, y, hy, hx⟩
    have hr := path_range (hids id hid) hy
    unfold stepO at hx
    split at hx
    · simp at hx
    · rename_i hz
      obtain rfl : x = y := by simpa using hx
      obtain ⟨n, rfl⟩ := Int.eq_ofNat_of_zero_le (show 0 ≤ x by omega)
      rw [belowI_nat is n (by omega) (by omega)] at hz
      exact ⟨n, rfl, by omega, by omega, by omega, id, hid, (mem_tail (hids id hid) (by omega) (by omega)).1 hy⟩
  · rintro ⟨n, rfl, h1, h2, h3, id, hid, hb⟩
    refine ⟨id, hid, (n : Int), (mem_tail (hids id hid) h1 h2).2 hb, ?_⟩
    unfold stepO
    rw [belowI_nat is n h1 (by omega), if_neg (by omega)]
    simp
theorem fresh_eq (was is : Nat) (hw : was < 65536) (hi : is < 65536) : finL (outL (is : Int) (idsN (was ^^^ is))) = freshI (was : Int) (is : Int) := by
  have hx : was ^^^ is < 65536 := Nat.xor_lt_two_pow (n := 16) hw hi
  refine desc_ext (fin_falls _) ?_ fun x => ?_
  · unfold freshI
    rw [List.pairwise_map]
    refine List.Pairwise.filter _ ?_
    show List.Pairwise (fun a b : Nat => (a : Int) > (b : Int)) downL
    decide
  · rw [fin_mem, out_mem is _ (fun i hi => (mem_ids.1 hi).1)]
    unfold freshI
    rw [List.mem_map]
    constructor
    · rintro ⟨n, rfl, h1, h2, h3, id, hid, hb⟩
      refine ⟨n, List.mem_filter.2 ⟨(mem_down n).2 ⟨h1, h2⟩, ?_⟩, rfl⟩
      obtain ⟨q1, q2⟩ := mem_ids.1 hid
      have := (below_ne hx (by omega : n < 32)).2 ⟨id, q1, q2, hb⟩
      unfold freshB
      simp only [Int.toNat_natCast, Bool.and_eq_true, bne_iff_ne]
      exact ⟨this, h3⟩
    · rintro ⟨n, hn, rfl⟩
      obtain ⟨q1, q2⟩ := List.mem_filter.1 hn
      obtain ⟨h1, h2⟩ := (mem_down n).1 q1
      unfold freshB at q2
      simp only [Int.toNat_natCast, Bool.and_eq_true, bne_iff_ne] at q2
      obtain ⟨id, r1, r2, r3⟩ := (below_ne hx (by omega : n < 32)).1 q2.1
      exact ⟨n, rfl, h1, h2, q2.2, id, mem_ids.2 ⟨r1, r2⟩, r3⟩

/-- tree.Fresh, in the print's form. -/
def tree_Fresh.f (k : Nat) (a0 a1 : Int) : Option (List Int) := if (0 ≤ a0 ∧ a0 < 65536) ∧ (0 ≤ a1 ∧ a1 < 65536) then some (freshI a0 a1) else none
theorem tree_Fresh.mono : ∀ a0 a1 k, LeO (tree_Fresh.f k a0 a1) (tree_Fresh.f (k + 1) a0 a1) := fun _ _ _ => LeO.refl _
theorem tree_Fresh.calls (k : Nat) (a0 : Int) (a1 : Int) (r : List Int) (w : World) (h : tree_Fresh.f k a0 a1 = some r) (HT0 : TabAt w) :
    Calls Tryz.prog 20 #[.int .u16 a0, .int .u16 a1] w fun e w' => ∃ v0_ : Value, e = .returned (v0_) ∧ Kd.R (Kd.int .i64) 3 w' w.heap.size (fun _ => True) v0_ r ∧ RowKit.Below w.heap.size w w' := by
  unfold tree_Fresh.f at h
  split at h
  · rename_i hb
    obtain rfl := Option.some.inj h
    have hf := fresh_walk a0.toNat a1.toNat (by omega) (by omega) w HT0
    rw [Int.toNat_of_nonneg hb.1.1, Int.toNat_of_nonneg hb.2.1] at hf
    refine hf.mono ?_
    rintro e w' ⟨v, he, hr, hbl⟩
    rw [fresh_eq a0.toNat a1.toNat (by omega) (by omega), Int.toNat_of_nonneg hb.1.1, Int.toNat_of_nonneg hb.2.1] at hr
    exact ⟨v, he, hr.toR, hbl⟩
  · cases h
end Go.Proofs.YtkmpfmhbkflgpaaGreatDoor.Pr
