/- Of the library: bits.Len, bits.TrailingZeros16 (over its table), slices.Sort, Compact, Reverse: their contracts at this dump. -/
import Derived.Test.YtnpabhoflkppaaaDoorChecked
import Derived.Shelf.Slices.In.SortNone
import Derived.Shelf.Sort.Plain
import Derived.Shelf.Slices.Reverse
import Derived.Shelf.Slices.CompactI
import Derived.Shelf.Small.Bits
import Derived.Laws.BitsAllLaws
import Derived.WalkKit
import Derived.KernelRfl
import Derived.Lib.Hide
import Derived.Test.YtnpabhoflkppaaaDoorWWords
set_option linter.unusedVariables false
set_option linter.unusedSimpArgs false
namespace Go.Proofs.YtnpabhoflkppaaaDoor
open Go.RowKit Go.Shelf Go.Proofs.YtnpabhoflkppaaaDoorW.PrintWords

def sortI_ren : Go.Shelf.Ren := ⟨fun | 189 => 26 | 125 => 22 | 257 => 33 | 128 => 30 | 129 => 31 | 294 => 34 | 295 => 35 | 296 => 36 | 297 => 37 | 298 => 38 | 299 => 39 | 216 => 40 | 300 => 41 | 301 => 42 | 328 => 43 | 329 => 44 | 330 => 45 | 331 => 46 | 332 => 47 | 215 => 48 | 343 => 49 | n => n, fun | 28 => 27 | 3 => 3 | 46 => 45 | 0 => 0 | 51 => 46 | 53 => 56 | 4 => 4 | 183 => 62 | 182 => 61 | 131 => 67 | 5 => 5 | 9 => 9 | 218 => 69 | 222 => 73 | 228 => 76 | 229 => 77 | n => n, fun | n => n⟩
theorem sortI : Go.Proofs.Lays.n189 Tryd.prog sortI_ren := {
  mixed := by kernel_rfl,
  f125 := Tryd.func22.trans (congrArg some (by kernel_rfl)),
  f128 := Tryd.func30.trans (congrArg some (by kernel_rfl)),
  f129 := Tryd.func31.trans (congrArg some (by kernel_rfl)),
  f189 := Tryd.func26.trans (congrArg some (by kernel_rfl)),
  f215 := Tryd.func48.trans (congrArg some (by kernel_rfl)),
  f216 := Tryd.func40.trans (congrArg some (by kernel_rfl)),
  f257 := Tryd.func33.trans (congrArg some (by kernel_rfl)),
  f294 := Tryd.func34.trans (congrArg some (by kernel_rfl)),
  f295 := Tryd.func35.trans (congrArg some (by kernel_rfl)),
  f296 := Tryd.func36.trans (congrArg some (by kernel_rfl)),
  f297 := Tryd.func37.trans (congrArg some (by kernel_rfl)),
  f298 := Tryd.func38.trans (congrArg some (by kernel_rfl)),
  f299 := Tryd.func39.trans (congrArg some (by kernel_rfl)),
  f300 := Tryd.func41.trans (congrArg some (by kernel_rfl)),
  f301 := Tryd.func42.trans (congrArg some (by kernel_rfl)),
  f328 := Tryd.func43.trans (congrArg some (by kernel_rfl)),
  f329 := Tryd.func44.trans (congrArg some (by kernel_rfl)),
  f330 := Tryd.func45.trans (congrArg some (by kernel_rfl)),
  f331 := Tryd.func46.trans (congrArg some (by kernel_rfl)),
  f332 := Tryd.func47.trans (congrArg some (by kernel_rfl)),
  f343 := Tryd.func49.trans (congrArg some (by kernel_rfl)),
  t0 := Tryd.underlying0,
  a0 := Tryd.isAgg0,
  z0 := Tryd.sizeOf0,
  v0 := Tryd.zeroValue0,
  t3 := Tryd.underlying3,
  a3 := Tryd.isAgg3,
  z3 := Tryd.sizeOf3,
  v3 := Tryd.zeroValue3,
  t4 := Tryd.underlying4,
  a4 := Tryd.isAgg4,
  z4 := Tryd.sizeOf4,
  v4 := Tryd.zeroValue4,
  t5 := Tryd.underlying5,
  a5 := Tryd.isAgg5,
  z5 := Tryd.sizeOf5,
  v5 := Tryd.zeroValue5,
  t9 := Tryd.underlying9,
  a9 := Tryd.isAgg9,
  z9 := Tryd.sizeOf9,
  v9 := Tryd.zeroValue9,
  t28 := Tryd.underlying27,
  a28 := Tryd.isAgg27,
  z28 := Tryd.sizeOf27,
  v28 := Tryd.zeroValue27,
  t46 := Tryd.underlying45,
  a46 := Tryd.isAgg45,
  z46 := Tryd.sizeOf45,
  v46 := Tryd.zeroValue45,
  t51 := Tryd.underlying46,
  a51 := Tryd.isAgg46,
  z51 := Tryd.sizeOf46,
  v51 := Tryd.zeroValue46,
  t53 := Tryd.underlying56,
  a53 := Tryd.isAgg56,
  z53 := Tryd.sizeOf56,
  v53 := Tryd.zeroValue56,
  t131 := Tryd.underlying67,
  a131 := Tryd.isAgg67,
  z131 := Tryd.sizeOf67,
  v131 := Tryd.zeroValue67,
  t182 := Tryd.underlying61,
  a182 := Tryd.isAgg61,
  z182 := Tryd.sizeOf61,
  v182 := Tryd.zeroValue61,
  t183 := Tryd.underlying62,
  a183 := Tryd.isAgg62,
  z183 := Tryd.sizeOf62,
  v183 := Tryd.zeroValue62,
  t218 := Tryd.underlying69,
  a218 := Tryd.isAgg69,
  z218 := Tryd.sizeOf69,
  v218 := Tryd.zeroValue69,
  t222 := Tryd.underlying73,
  a222 := Tryd.isAgg73,
  z222 := Tryd.sizeOf73,
  v222 := Tryd.zeroValue73,
  t228 := Tryd.underlying76,
  a228 := Tryd.isAgg76,
  z228 := Tryd.sizeOf76,
  v228 := Tryd.zeroValue76,
  t229 := Tryd.underlying77,
  a229 := Tryd.isAgg77,
  z229 := Tryd.sizeOf77,
  v229 := Tryd.zeroValue77 }

def revI_ren : Go.Shelf.Ren := ⟨fun | 112 => 28 | n => n, fun | 28 => 27 | 3 => 3 | 4 => 4 | 0 => 0 | n => n, fun | n => n⟩
theorem revI : Go.Proofs.Lays.n112 Tryd.prog revI_ren := {
  mixed := by kernel_rfl,
  f112 := Tryd.func28.trans (congrArg some (by kernel_rfl)),
  t0 := Tryd.underlying0,
  a0 := Tryd.isAgg0,
  z0 := Tryd.sizeOf0,
  v0 := Tryd.zeroValue0,
  t3 := Tryd.underlying3,
  a3 := Tryd.isAgg3,
  z3 := Tryd.sizeOf3,
  v3 := Tryd.zeroValue3,
  t4 := Tryd.underlying4,
  a4 := Tryd.isAgg4,
  z4 := Tryd.sizeOf4,
  v4 := Tryd.zeroValue4,
  t28 := Tryd.underlying27,
  a28 := Tryd.isAgg27,
  z28 := Tryd.sizeOf27,
  v28 := Tryd.zeroValue27 }

def compI_ren : Go.Shelf.Ren := ⟨fun | 20 => 27 | n => n, fun | 22 => 27 | 3 => 3 | 4 => 4 | 0 => 0 | n => n, fun | n => n⟩
theorem compI : Go.Proofs.Lays2.n20 Tryd.prog compI_ren := {
  mixed := by kernel_rfl,
  f20 := Tryd.func27.trans (congrArg some (by kernel_rfl)),
  t0 := Tryd.underlying0,
  a0 := Tryd.isAgg0,
  z0 := Tryd.sizeOf0,
  v0 := Tryd.zeroValue0,
  t3 := Tryd.underlying3,
  a3 := Tryd.isAgg3,
  z3 := Tryd.sizeOf3,
  v3 := Tryd.zeroValue3,
  t4 := Tryd.underlying4,
  a4 := Tryd.isAgg4,
  z4 := Tryd.sizeOf4,
  v4 := Tryd.zeroValue4,
  t22 := Tryd.underlying27,
  a22 := Tryd.isAgg27,
  z22 := Tryd.sizeOf27,
  v22 := Tryd.zeroValue27,
  i3 := by kernel_rfl }

def bitsLen_ren : Go.Shelf.Ren := ⟨fun | 125 => 22 | 128 => 30 | 129 => 31 | n => n, fun | 46 => 45 | 3 => 3 | 51 => 46 | 53 => 56 | 4 => 4 | 5 => 5 | 9 => 9 | n => n, fun | n => n⟩
theorem bitsLen : Go.Proofs.Lays.n125 Tryd.prog bitsLen_ren := {
  mixed := by kernel_rfl,
  f125 := Tryd.func22.trans (congrArg some (by kernel_rfl)),
  f128 := Tryd.func30.trans (congrArg some (by kernel_rfl)),
  f129 := Tryd.func31.trans (congrArg some (by kernel_rfl)),
  t3 := Tryd.underlying3,
  a3 := Tryd.isAgg3,
  z3 := Tryd.sizeOf3,
  v3 := Tryd.zeroValue3,
  t4 := Tryd.underlying4,
  a4 := Tryd.isAgg4,
  z4 := Tryd.sizeOf4,
  v4 := Tryd.zeroValue4,
  t5 := Tryd.underlying5,
  a5 := Tryd.isAgg5,
  z5 := Tryd.sizeOf5,
  v5 := Tryd.zeroValue5,
  t9 := Tryd.underlying9,
  a9 := Tryd.isAgg9,
  z9 := Tryd.sizeOf9,
  v9 := Tryd.zeroValue9,
  t46 := Tryd.underlying45,
  a46 := Tryd.isAgg45,
  z46 := Tryd.sizeOf45,
  v46 := Tryd.zeroValue45,
  t51 := Tryd.underlying46,
  a51 := Tryd.isAgg46,
  z51 := Tryd.sizeOf46,
  v51 := Tryd.zeroValue46,
  t53 := Tryd.underlying56,
  a53 := Tryd.isAgg56,
  z53 := Tryd.sizeOf56,
  v53 := Tryd.zeroValue56 }

/-! ### bits.Len -/
def bits_Len.f (a0 : Int) : Option Int := if 0 ≤ a0 ∧ a0 ≤ 18446744073709551615 then some (Lib.bitLen a0.toNat) else none
theorem bits_Len.calls (a0 : Int) (r : Int) (w : World) (h : bits_Len.f a0 = some r) : Calls Tryd.prog 22 #[.int .u64 a0] w fun e w' => e = .returned (.int .i64 r) ∧ RowKit.Below w.heap.size w w' := by
  unfold bits_Len.f at h
  split at h
  · rename_i hb
    obtain rfl := Option.some.inj h
    exact (Any.bits_Len bitsLen a0 w hb.1 hb.2).mono fun e w' ⟨he, hw⟩ => ⟨he, hw ▸ RowKit.Below.refl _ _⟩
  · cases h

/-! ### bits.TrailingZeros16: over its table -/
/-- The table, as its initialiser lays it. -/
def tabL : List Nat := [0, 1, 28, 2, 29, 14, 24, 3, 30, 22, 20, 15, 25, 17, 4, 8, 31, 27, 13, 23, 21, 19, 16, 7, 26, 12, 18, 6, 11, 5, 10, 9]
/-- The world holds the table in the variable's cells. -/
def TabAt (w : World) : Prop := ∀ i, i < 32 → w.cell? ⟨0, i, none⟩ = some (.int .u8 ((tabL.getD i 0 : Nat) : Int))
theorem TabAt.lt {w : World} (h : TabAt w) : 0 < w.heap.size := by
  have h0 := h 0 (by decide)
  unfold World.cell? at h0
  cases hb : w.heap[(0 : Nat)]? with
  | none => simp [hb] at h0
  | some o => exact (Array.getElem?_eq_some_iff.1 hb).1
theorem TabAt.below {w w' : World} {n : Nat} (h : TabAt w) (hn : w.heap.size ≤ n) (hb : RowKit.Below n w w') : TabAt w' := fun i hi => (hb.cell (p := ⟨0, i, none⟩) (Nat.lt_of_lt_of_le h.lt hn)).trans (h i hi)

def tzAux : Nat → Nat → Nat
  | 0, _ => 0
  | f + 1, x => if x % 2 = 1 then 0 else 1 + tzAux f (x / 2)
/-- How many zeros trail. -/
def tz (x : Nat) : Nat := tzAux 16 x
def tzIx (x : Nat) : Nat := ((x &&& (65536 - x)) * 125613361 % 4294967296) / 134217728
theorem even_bit (n i : Nat) : n.testBit (i + 1) = (n / 2).testBit i := Nat.testBit_succ n i
theorem bit0 (n : Nat) : n.testBit 0 = decide (n % 2 = 1) := by simp [Nat.testBit_zero]
/-- What a number and its negative have in common: its lowest bit. -/
theorem low_bit : ∀ (f x : Nat), 0 < x → x < 2 ^ f → ∀ i, (x &&& (2 ^ f - x)).testBit i = decide (i = tzAux f x)
  | 0, x, h0, h => by omega
  | f + 1, x, h0, h => by
    intro i
    rw [Nat.testBit_and]
    have hp : (2 : Nat) ^ (f + 1) = 2 * 2 ^ f := by rw [Nat.pow_succ]; omega
    rw [hp] at h ⊢
    unfold tzAux
    by_cases ho : x % 2 = 1
    · rw [if_pos ho]
      cases i with
      | zero => rw [bit0, bit0, decide_eq_true ho, decide_eq_true (by omega)]; rfl
      | succ i =>
        have e : (2 * 2 ^ f - x) / 2 = 2 ^ f - (x / 2 + 1) := by omega
        rw [even_bit, even_bit, e, Nat.testBit_two_pow_sub_succ (by omega)]
        cases (x / 2).testBit i <;> simp
    · rw [if_neg ho]
      cases i with
      | zero => rw [bit0, decide_eq_false ho]; simp; omega
      | succ i =>
        have ih := low_bit f (x / 2) (by omega) (by omega) i
        rw [Nat.testBit_and] at ih
        have e : (2 * 2 ^ f - x) / 2 = 2 ^ f - x / 2 := by omega
        rw [even_bit, even_bit, e, ih, Bool.eq_iff_iff]
        simp; omega
theorem tz_lt : ∀ (f x : Nat), 0 < x → x < 2 ^ f → tzAux f x < f
  | 0, x, h0, h => by omega
  | f + 1, x, h0, h => by
    have hp : (2 : Nat) ^ (f + 1) = 2 * 2 ^ f := by rw [Nat.pow_succ]; omega
    unfold tzAux
    split
    · omega
    · have := tz_lt f (x / 2) (by omega) (by omega)
      omega
theorem low_pow (x : Nat) (h0 : 0 < x) (h : x < 65536) : x &&& (65536 - x) = 2 ^ tz x := by
  apply Nat.eq_of_testBit_eq
  intro i
  rw [show (65536 : Nat) = 2 ^ 16 from rfl, low_bit 16 x h0 h, Nat.testBit_two_pow, Bool.eq_iff_iff]
  unfold tz
  simp; omega
theorem tz_of (x : Nat) (h0 : 0 < x) (h : x < 65536) : tzIx x < 32 ∧ tabL.getD (tzIx x) 0 = tz x := by
  have ht : tz x < 16 := tz_lt 16 x h0 h
  unfold tzIx
  rw [low_pow x h0 h]
  generalize tz x = t at ht ⊢
  have hall : ((List.range 16).all fun t => decide (2 ^ t * 125613361 % 4294967296 / 134217728 < 32) && tabL.getD (2 ^ t * 125613361 % 4294967296 / 134217728) 0 == t) = true := by decide +kernel
  have := List.all_eq_true.1 hall t (List.mem_range.2 ht)
  simp only [Bool.and_eq_true, decide_eq_true_eq, beq_iff_eq] at this
  exact this
/-- A number without its lowest bit. -/
theorem strip_bit : ∀ (f x : Nat), 0 < x → x < 2 ^ f → ∀ i, (x &&& (x - 1)).testBit i = (x.testBit i && decide (i ≠ tzAux f x))
  | 0, x, h0, h => by omega
  | f + 1, x, h0, h => by
    intro i
    rw [Nat.testBit_and]
    have hp : (2 : Nat) ^ (f + 1) = 2 * 2 ^ f := by rw [Nat.pow_succ]; omega
    unfold tzAux
    by_cases ho : x % 2 = 1
    · rw [if_pos ho]
      cases i with
      | zero => rw [bit0 (x - 1), decide_eq_false (by omega)]; simp
      | succ i =>
        have e : (x - 1) / 2 = x / 2 := by omega
        rw [even_bit, even_bit, e]; simp
    · rw [if_neg ho]
      cases i with
      | zero => rw [bit0 x, decide_eq_false ho]; simp
      | succ i =>
        have ih := strip_bit f (x / 2) (by omega) (by omega) i
        rw [Nat.testBit_and] at ih
        have e : (x - 1) / 2 = x / 2 - 1 := by omega
        rw [even_bit, even_bit, e, ih, Bool.eq_iff_iff]
        simp; omega
/-- The lowest bit is one, and those below it are none. -/
theorem tz_bit : ∀ (f x : Nat), 0 < x → x < 2 ^ f → x.testBit (tzAux f x) = true ∧ ∀ j, j < tzAux f x → x.testBit j = false
  | 0, x, h0, h => by omega
  | f + 1, x, h0, h => by
    have hp : (2 : Nat) ^ (f + 1) = 2 * 2 ^ f := by rw [Nat.pow_succ]; omega
    unfold tzAux
    by_cases ho : x % 2 = 1
    · rw [if_pos ho]
      exact ⟨by rw [bit0, decide_eq_true ho], fun j hj => by omega⟩
    · rw [if_neg ho]
      obtain ⟨h1, h2⟩ := tz_bit f (x / 2) (by omega) (by omega)
      refine ⟨by rw [Nat.add_comm, even_bit]; exact h1, fun j hj => ?_⟩
      cases j with
      | zero => rw [bit0, decide_eq_false ho]
      | succ j => rw [even_bit]; exact h2 j (by omega)
theorem tzAux_le : ∀ f x, tzAux f x ≤ f
  | 0, _ => Nat.le_refl _
  | f + 1, x => by
    unfold tzAux
    split
    · omega
    · have := tzAux_le f (x / 2); omega
theorem wrap16_neg (n : Nat) (h0 : 0 < n) (h : n < 65536) : IntKind.u16.wrap (-(n : Int)) = ((65536 - n : Nat) : Int) := by
  simp only [IntKind.wrap, IntKind.bits, IntKind.signed]; simp; omega
theorem trail (n : Nat) (h0 : 0 < n) (h : n < 65536) (w : World) (hT : TabAt w) : Calls Tryd.prog 32 #[.int .u16 (n : Int)] w fun e w' => e = .returned (.int .i64 (tz n : Nat)) ∧ Drawn0 w w' := by
  obtain ⟨hi, ht⟩ := tz_of n h0 h
  have hc := hT (tzIx n) hi
  rw [ht] at hc
  unfold tzIx at hc
  have hz : tz n ≤ 16 := tzAux_le 16 n
  have hw : wrap64 ((tz n : Nat) : Int) = ((tz n : Nat) : Int) := by unfold wrap64; omega
  have d0 : ((n : Int) == 0) = false := by simp; omega
  have hlt : (n &&& (65536 - n)) * 125613361 % 4294967296 / 134217728 < 32 := hi
  have hl : n &&& (65536 - n) < 65536 := Nat.lt_of_le_of_lt Nat.and_le_left h
  have e1 := wrap16_neg n h0 h
  have e2 : Go.bits .and .u16 (n : Int) ((65536 - n : Nat) : Int) = ((n &&& (65536 - n) : Nat) : Int) := u16_and_nat n (65536 - n) h (by omega)
  go_enter Tryd.func32, Tryd.ntmps32
  go_wp2
  go_ret
  exact ⟨rfl, Drawn0.refl _⟩
def bits_TrailingZeros16.f (a0 : Int) : Option Int := if 0 < a0 ∧ a0 < 65536 then some (tz a0.toNat : Nat) else none
theorem bits_TrailingZeros16.calls (a0 : Int) (r : Int) (w : World) (h : bits_TrailingZeros16.f a0 = some r) (HT0 : TabAt w) : Calls Tryd.prog 32 #[.int .u16 a0] w fun e w' => e = .returned (.int .i64 r) ∧ RowKit.Below w.heap.size w w' := by
  unfold bits_TrailingZeros16.f at h
  split at h
  · rename_i hb
    obtain rfl := Option.some.inj h
    have := trail a0.toNat (by omega) (by omega) w HT0
    rw [Int.toNat_of_nonneg (by omega)] at this
    exact this.mono fun _ _ ⟨he, hd⟩ => ⟨he, hd.below⟩
  · cases h
end Go.Proofs.YtnpabhoflkppaaaDoor
