import Derived.Test.YtkmpfmhbkflgpaaGreatDoorChecked
import Derived.Shelf.Slices.In.SortNone
import Derived.Shelf.Sort.Plain
import Derived.Shelf.Slices.Reverse
import Derived.Shelf.Slices.CompactI
import Derived.Shelf.Small.Bits
import Derived.Laws.BitsAllLaws
import Derived.WalkKit
import Derived.KernelRfl
import Derived.Lib.Hide
import Derived.Test.YtkmpfmhbkflgpaaGreatDoorWWords
import Derived.Sort.OwnSorted
/- Of the library: bits.Len, bits.TrailingZeros16 (over its table), slices.Sort, Compact, Reverse: their contracts at this dump. -/
set_option linter.unusedVariables false
set_option linter.unusedSimpArgs false
namespace Go.Proofs.YtkmpfmhbkflgpaaGreatDoor
open Go.RowKit Go.Shelf Go.Proofs.YtkmpfmhbkflgpaaGreatDoorW.PrintWords

def sortI_ren : Go.Shelf.Ren := ⟨fun | 189 => 57 | 125 => 62 | 257 => 77 | 128 => 80 | 129 => 81 | 294 => 86 | 295 => 87 | 296 => 88 | 297 => 89 | 298 => 90 | 299 => 91 | 216 => 92 | 300 => 93 | 301 => 94 | 328 => 96 | 329 => 97 | 330 => 98 | 331 => 99 | 332 => 100 | 215 => 101 | 343 => 102 | n => n, fun | 28 => 64 | 3 => 3 | 46 => 88 | 0 => 0 | 51 => 119 | 53 => 147 | 4 => 4 | 183 => 155 | 182 => 154 | 131 => 160 | 5 => 5 | 9 => 9 | 218 => 163 | 222 => 167 | 228 => 169 | 229 => 170 | n => n, fun | n => n⟩
theorem sortI : Go.Proofs.Lays.n189 Tryz.prog sortI_ren := {
  mixed := by kernel_rfl,
  f125 := Tryz.func62.trans (congrArg some (by kernel_rfl)),
  f128 := Tryz.func80.trans (congrArg some (by kernel_rfl)),
  f129 := Tryz.func81.trans (congrArg some (by kernel_rfl)),
  f189 := Tryz.func57.trans (congrArg some (by kernel_rfl)),
  f215 := Tryz.func101.trans (congrArg some (by kernel_rfl)),
  f216 := Tryz.func92.trans (congrArg some (by kernel_rfl)),
  f257 := Tryz.func77.trans (congrArg some (by kernel_rfl)),
  f294 := Tryz.func86.trans (congrArg some (by kernel_rfl)),
  f295 := Tryz.func87.trans (congrArg some (by kernel_rfl)),
  f296 := Tryz.func88.trans (congrArg some (by kernel_rfl)),
  f297 := Tryz.func89.trans (congrArg some (by kernel_rfl)),
  f298 := Tryz.func90.trans (congrArg some (by kernel_rfl)),
  f299 := Tryz.func91.trans (congrArg some (by kernel_rfl)),
  f300 := Tryz.func93.trans (congrArg some (by kernel_rfl)),
  f301 := Tryz.func94.trans (congrArg some (by kernel_rfl)),
  f328 := Tryz.func96.trans (congrArg some (by kernel_rfl)),
  f329 := Tryz.func97.trans (congrArg some (by kernel_rfl)),
  f330 := Tryz.func98.trans (congrArg some (by kernel_rfl)),
  f331 := Tryz.func99.trans (congrArg some (by kernel_rfl)),
  f332 := Tryz.func100.trans (congrArg some (by kernel_rfl)),
  f343 := Tryz.func102.trans (congrArg some (by kernel_rfl)),
  t0 := Tryz.underlying0,
  a0 := Tryz.isAgg0,
  z0 := Tryz.sizeOf0,
  v0 := Tryz.zeroValue0,
  t3 := Tryz.underlying3,
  a3 := Tryz.isAgg3,
  z3 := Tryz.sizeOf3,
  v3 := Tryz.zeroValue3,
  t4 := Tryz.underlying4,
  a4 := Tryz.isAgg4,
  z4 := Tryz.sizeOf4,
  v4 := Tryz.zeroValue4,
  t5 := Tryz.underlying5,
  a5 := Tryz.isAgg5,
  z5 := Tryz.sizeOf5,
  v5 := Tryz.zeroValue5,
  t9 := Tryz.underlying9,
  a9 := Tryz.isAgg9,
  z9 := Tryz.sizeOf9,
  v9 := Tryz.zeroValue9,
  t28 := Tryz.underlying64,
  a28 := Tryz.isAgg64,
  z28 := Tryz.sizeOf64,
  v28 := Tryz.zeroValue64,
  t46 := Tryz.underlying88,
  a46 := Tryz.isAgg88,
  z46 := Tryz.sizeOf88,
  v46 := Tryz.zeroValue88,
  t51 := Tryz.underlying119,
  a51 := Tryz.isAgg119,
  z51 := Tryz.sizeOf119,
  v51 := Tryz.zeroValue119,
  t53 := Tryz.underlying147,
  a53 := Tryz.isAgg147,
  z53 := Tryz.sizeOf147,
  v53 := Tryz.zeroValue147,
  t131 := Tryz.underlying160,
  a131 := Tryz.isAgg160,
  z131 := Tryz.sizeOf160,
  v131 := Tryz.zeroValue160,
  t182 := Tryz.underlying154,
  a182 := Tryz.isAgg154,
  z182 := Tryz.sizeOf154,
  v182 := Tryz.zeroValue154,
  t183 := Tryz.underlying155,
  a183 := Tryz.isAgg155,
  z183 := Tryz.sizeOf155,
  v183 := Tryz.zeroValue155,
  t218 := Tryz.underlying163,
  a218 := Tryz.isAgg163,
  z218 := Tryz.sizeOf163,
  v218 := Tryz.zeroValue163,
  t222 := Tryz.underlying167,
  a222 := Tryz.isAgg167,
  z222 := Tryz.sizeOf167,
  v222 := Tryz.zeroValue167,
  t228 := Tryz.underlying169,
  a228 := Tryz.isAgg169,
  z228 := Tryz.sizeOf169,
  v228 := Tryz.zeroValue169,
  t229 := Tryz.underlying170,
  a229 := Tryz.isAgg170,
  z229 := Tryz.sizeOf170,
  v229 := Tryz.zeroValue170 }

def revI_ren : Go.Shelf.Ren := ⟨fun | 112 => 59 | n => n, fun | 28 => 64 | 3 => 3 | 4 => 4 | 0 => 0 | n => n, fun | n => n⟩
theorem revI : Go.Proofs.Lays.n112 Tryz.prog revI_ren := {
  mixed := by kernel_rfl,
  f112 := Tryz.func59.trans (congrArg some (by kernel_rfl)),
  t0 := Tryz.underlying0,
  a0 := Tryz.isAgg0,
  z0 := Tryz.sizeOf0,
  v0 := Tryz.zeroValue0,
  t3 := Tryz.underlying3,
  a3 := Tryz.isAgg3,
  z3 := Tryz.sizeOf3,
  v3 := Tryz.zeroValue3,
  t4 := Tryz.underlying4,
  a4 := Tryz.isAgg4,
  z4 := Tryz.sizeOf4,
  v4 := Tryz.zeroValue4,
  t28 := Tryz.underlying64,
  a28 := Tryz.isAgg64,
  z28 := Tryz.sizeOf64,
  v28 := Tryz.zeroValue64 }

def compI_ren : Go.Shelf.Ren := ⟨fun | 20 => 58 | n => n, fun | 22 => 64 | 3 => 3 | 4 => 4 | 0 => 0 | n => n, fun | n => n⟩
theorem compI : Go.Proofs.Lays2.n20 Tryz.prog compI_ren := {
  mixed := by kernel_rfl,
  f20 := Tryz.func58.trans (congrArg some (by kernel_rfl)),
  t0 := Tryz.underlying0,
  a0 := Tryz.isAgg0,
  z0 := Tryz.sizeOf0,
  v0 := Tryz.zeroValue0,
  t3 := Tryz.underlying3,
  a3 := Tryz.isAgg3,
  z3 := Tryz.sizeOf3,
  v3 := Tryz.zeroValue3,
  t4 := Tryz.underlying4,
  a4 := Tryz.isAgg4,
  z4 := Tryz.sizeOf4,
  v4 := Tryz.zeroValue4,
  t22 := Tryz.underlying64,
  a22 := Tryz.isAgg64,
  z22 := Tryz.sizeOf64,
  v22 := Tryz.zeroValue64,
  i3 := by kernel_rfl }

def bitsLen_ren : Go.Shelf.Ren := ⟨fun | 125 => 62 | 128 => 80 | 129 => 81 | n => n, fun | 46 => 88 | 3 => 3 | 51 => 119 | 53 => 147 | 4 => 4 | 5 => 5 | 9 => 9 | n => n, fun | n => n⟩
theorem bitsLen : Go.Proofs.Lays.n125 Tryz.prog bitsLen_ren := {
  mixed := by kernel_rfl,
  f125 := Tryz.func62.trans (congrArg some (by kernel_rfl)),
  f128 := Tryz.func80.trans (congrArg some (by kernel_rfl)),
  f129 := Tryz.func81.trans (congrArg some (by kernel_rfl)),
  t3 := Tryz.underlying3,
  a3 := Tryz.isAgg3,
  z3 := Tryz.sizeOf3,
  v3 := Tryz.zeroValue3,
  t4 := Tryz.underlying4,
  a4 := Tryz.isAgg4,
  z4 := Tryz.sizeOf4,
  v4 := Tryz.zeroValue4,
  t5 := Tryz.underlying5,
  a5 := Tryz.isAgg5,
  z5 := Tryz.sizeOf5,
  v5 := Tryz.zeroValue5,
  t9 := Tryz.underlying9,
  a9 := Tryz.isAgg9,
  z9 := Tryz.sizeOf9,
  v9 := Tryz.zeroValue9,
  t46 := Tryz.underlying88,
  a46 := Tryz.isAgg88,
  z46 := Tryz.sizeOf88,
  v46 := Tryz.zeroValue88,
  t51 := Tryz.underlying119,
  a51 := Tryz.isAgg119,
  z51 := Tryz.sizeOf119,
  v51 := Tryz.zeroValue119,
  t53 := Tryz.underlying147,
  a53 := Tryz.isAgg147,
  z53 := Tryz.sizeOf147,
  v53 := Tryz.zeroValue147 }

/-! ### bits.Len -/
def bits_Len.f (a0 : Int) : Option Int := if 0 ≤ a0 ∧ a0 ≤ 18446744073709551615 then some (Lib.bitLen a0.toNat) else none
theorem bits_Len.calls (a0 : Int) (r : Int) (w : World) (h : bits_Len.f a0 = some r) : Calls Tryz.prog 62 #[.int .u64 a0] w fun e w' => e = .returned (.int .i64 r) ∧ RowKit.Below w.heap.size w w' := by
  unfold bits_Len.f at h
  split at h
  · rename_i hb
    obtain rfl := Option.some.inj h
    exact (Any.bits_Len bitsLen a0 w hb.1 hb.2).mono fun e w' ⟨he, hw⟩ => ⟨he, hw ▸ RowKit.Below.refl _ _⟩
  · cases h

/-! ### bits.TrailingZeros16: over its table -/
/-- The table, as its initialiser lays it. -/
def tabL : List Nat := [0, 1, 28, 2, 29, 14, 24, 3, 30, 22, 20, 15, 25, 17, 4, 8, 31, 27, 13, 23, 21, 19, 16, 7, 26, 12, 18, 6, 11, 5, 10, 9]
/-- The world holds the table in the variable's cells. -/
def TabAt (w : World) : Prop := ∀ i, i < 32 → w.cell? ⟨0, i, none⟩ = some (.int .u8 ((tabL.getD i 0 : Nat) : Int))
theorem TabAt.lt {w : World} (h : TabAt w) : 0 < w.heap.size := by
  have h0 := h 0 (by decide)
  unfold World.cell? at h0
  cases hb : w.heap[(0 : Nat)]? with
  | none => simp [hb] at h0
  | some o => exact (Array.getElem?_eq_some_iff.1 hb).1
theorem TabAt.below {w w' : World} {n : Nat} (h : TabAt w) (hn : w.heap.size ≤ n) (hb : RowKit.Below n w w') : TabAt w' := fun i hi => (hb.cell (p := ⟨0, i, none⟩) (Nat.lt_of_lt_of_le h.lt hn)).trans (h i hi)

def tzAux : Nat → Nat → Nat
  | 0, _ => 0
  | f + 1, x => if x % 2 = 1 then 0 else 1 + tzAux f (x / 2)
/-- How many zeros trail. -/
def tz (x : Nat) : Nat := tzAux 16 x
def tzIx (x : Nat) : Nat := ((x &&& (65536 - x)) * 125613361 % 4294967296) / 134217728
theorem even_bit (n i : Nat) : n.testBit (i + 1) = (n / 2).testBit i := Nat.testBit_succ n i
theorem bit0 (n : Nat) : n.testBit 0 = decide (n % 2 = 1) := by simp [Nat.testBit_zero]
/-- What a number and its negative have in common: its lowest bit. -/
theorem low_bit : ∀ (f x : Nat), 0 < x → x < 2 ^ f → ∀ i, (x &&& (2 ^ f - x)).testBit i = decide (i = tzAux f x)
  | 0, x, h0, h => by omega
  | f + 1, x, h0, h => by
    intro i
    rw [Nat.testBit_and]
    have hp : (2 : Nat) ^ (f + 1) = 2 * 2 ^ f := by rw [Nat.pow_succ]; omega
    rw [hp] at h ⊢
    unfold tzAux
    by_cases ho : x % 2 = 1
    · rw [if_pos ho]
      cases i with
      | zero => rw [bit0, bit0, decide_eq_true ho, decide_eq_true (by omega)]; rfl
      | succ i =>
        have e : (2 * 2 ^ f - x) / 2 = 2 ^ f - (x / 2 + 1) := by omega
        rw [even_bit, even_bit, e, Nat.testBit_two_pow_sub_succ (by omega)]
        cases (x / 2).testBit i <;> simp
    · rw [if_neg ho]
      cases i with
      | zero => rw [bit0, decide_eq_false ho]; simp; omega
      | succ i =>
        have ih := low_bit f (x / 2) (by omega) (by omega) i
        rw [Nat.testBit_and] at ih
        have e : (2 * 2 ^ f - x) / 2 = 2 ^ f - x / 2 := by omega
        rw [even_bit, even_bit, e, ih, Bool.eq_iff_iff]
        simp; omega
theorem tz_lt : ∀ (f x : Nat), 0 < x → x < 2 ^ f → tzAux f x < f
  | 0, x, h0, h => by omega
  | f + 1, x, h0, h => by
    have hp : (2 : Nat) ^ (f + 1) = 2 * 2 ^ f := by rw [Nat.pow_succ]; omega
    unfold tzAux
    split
    · omega
    · have := tz_lt f (x / 2) (by omega) (by omega)
      omega
theorem low_pow (x : Nat) (h0 : 0 < x) (h : x < 65536) : x &&& (65536 - x) = 2 ^ tz x := by
  apply Nat.eq_of_testBit_eq
  intro i
  rw [show (65536 : Nat) = 2 ^ 16 from rfl, low_bit 16 x h0 h, Nat.testBit_two_pow, Bool.eq_iff_iff]
  unfold tz
  simp; omega
theorem tz_of (x : Nat) (h0 : 0 < x) (h : x < 65536) : tzIx x < 32 ∧ tabL.getD (tzIx x) 0 = tz x := by
  have ht : tz x < 16 := tz_lt 16 x h0 h
  unfold tzIx
  rw [low_pow x h0 h]
  generalize tz x = t at ht ⊢
  have hall : ((List.range 16).all fun t => decide (2 ^ t * 125613361 % 4294967296 / 134217728 < 32) && tabL.getD (2 ^ t * 125613361 % 4294967296 / 134217728) 0 == t) = true := by decide +kernel
  have := List.all_eq_true.1 hall t (List.mem_range.2 ht)
  simp only [Bool.and_eq_true, decide_eq_true_eq, beq_iff_eq] at this
  exact this
/-- A number without its lowest bit. -/
theorem strip_bit : ∀ (f x : Nat), 0 < x → x < 2 ^ f → ∀ i, (x &&& (x - 1)).testBit i = (x.testBit i && decide (i ≠ tzAux f x))
  | 0, x, h0, h => by omega
  | f + 1, x, h0, h => by
    intro i
    rw [Nat.testBit_and]
    have hp : (2 : Nat) ^ (f + 1) = 2 * 2 ^ f := by rw [Nat.pow_succ]; omega
    unfold tzAux
    by_cases ho : x % 2 = 1
    · rw [if_pos ho]
      cases i with
      | zero => rw [bit0 (x - 1), decide_eq_false (by omega)]; simp
      | succ i =>
        have e : (x - 1) / 2 = x / 2 := by omega
        rw [even_bit, even_bit, e]; simp
    · rw [if_neg ho]
      cases i with
      | zero => rw [bit0 x, decide_eq_false ho]; simp
      | succ i =>
        have ih := strip_bit f (x / 2) (by omega) (by omega) i
        rw [Nat.testBit_and] at ih
        have e : (x - 1) / 2 = x / 2 - 1 := by omega
        rw [even_bit, even_bit, e, ih, Bool.eq_iff_iff]
        simp; omega
/-- The lowest bit is one, and those below it are none. -/
theorem tz_bit : ∀ (f x : Nat), 0 < x → x < 2 ^ f → x.testBit (tzAux f x) = true ∧ ∀ j, j < tzAux f x → x.testBit j = false
  | 0, x, h0, h => by omega
  | f + 1, x, h0, h => by
    have hp : (2 : Nat) ^ (f + 1) = 2 * 2 ^ f := by rw [Nat.pow_succ]; omega
    unfold tzAux
    by_cases ho : x % 2 = 1
    · rw [if_pos ho]
      exact ⟨by rw [bit0, decide_eq_true ho], fun j hj => by omega⟩
    · rw [if_neg ho]
      obtain ⟨h1, h2⟩ := tz_bit f (x / 2) (by omega) (by omega)
      refine ⟨by rw [Nat.add_comm, even_bit]; exact h1, fun j hj => ?_⟩
      cases j with
      | zero => rw [bit0, decide_eq_false ho]
      | succ j => rw [even_bit]; exact h2 j (by omega)
theorem tzAux_le : ∀ f x, tzAux f x ≤ f
  | 0, _ => Nat.le_refl _
  | f + 1, x => by
    unfold tzAux
    split
    · omega
    · have := tzAux_le f (x / 2); omega
theorem wrap16_neg (n : Nat) (h0 : 0 < n) (h : n < 65536) : IntKind.u16.wrap (-(n : Int)) = ((65536 - n : Nat) : Int) := by
  simp only [IntKind.wrap, IntKind.bits, IntKind.signed]; simp; omega
theorem trail (n : Nat) (h0 : 0 < n) (h : n < 65536) (w : World) (hT : TabAt w) : Calls Tryz.prog 76 #[.int .u16 (n : Int)] w fun e w' => e = .returned (.int .i64 (tz n : Nat)) ∧ Drawn0 w w' := by
  obtain ⟨hi, ht⟩ := tz_of n h0 h
  have hc := hT (tzIx n) hi
  rw [ht] at hc
  unfold tzIx at hc
  have hz : tz n ≤ 16 := tzAux_le 16 n
  have hw : wrap64 ((tz n : Nat) : Int) = ((tz n : Nat) : Int) := by unfold wrap64; omega
  have d0 : ((n : Int) == 0) = false := by simp; omega
  have hlt : (n &&& (65536 - n)) * 125613361 % 4294967296 / 134217728 < 32 := hi
  have hl : n &&& (65536 - n) < 65536 := Nat.lt_of_le_of_lt Nat.and_le_left h
  have e1 := wrap16_neg n h0 h
  have e2 : Go.bits .and .u16 (n : Int) ((65536 - n : Nat) : Int) = ((n &&& (65536 - n) : Nat) : Int) := u16_and_nat n (65536 - n) h (by omega)
  go_enter Tryz.func76, Tryz.ntmps76
  go_wp2
  go_ret
  exact ⟨rfl, Drawn0.refl _⟩
def bits_TrailingZeros16.f (a0 : Int) : Option Int := if 0 < a0 ∧ a0 < 65536 then some (tz a0.toNat : Nat) else none
theorem bits_TrailingZeros16.calls (a0 : Int) (r : Int) (w : World) (h : bits_TrailingZeros16.f a0 = some r) (HT0 : TabAt w) : Calls Tryz.prog 76 #[.int .u16 a0] w fun e w' => e = .returned (.int .i64 r) ∧ RowKit.Below w.heap.size w w' := by
  unfold bits_TrailingZeros16.f at h
  split at h
  · rename_i hb
    obtain rfl := Option.some.inj h
    have := trail a0.toNat (by omega) (by omega) w HT0
    rw [Int.toNat_of_nonneg (by omega)] at this
    exact this.mono fun _ _ ⟨he, hd⟩ => ⟨he, hd.below⟩
  · cases h
end Go.Proofs.YtkmpfmhbkflgpaaGreatDoor

/- slices.Sort, Compact, Reverse over a row of whole numbers of the call's own. -/
set_option linter.unusedVariables false
set_option linter.unusedSimpArgs false
namespace Go.Proofs.YtkmpfmhbkflgpaaGreatDoor
open Go.RowKit Go.Shelf Go.Sort Go.Proofs.YtkmpfmhbkflgpaaGreatDoorW.PrintWords

theorem infoI : (Tryz.prog.info? 3).map (fun i => (i.zero, i.size, i.bytes)) = some (some (.int .i64 0), 1, 8) := by kernel_rfl
def encN (n : Int) : Value := .int .i64 n
theorem heapE {w : World} {g n : Nat} {os : Array Obj} {cur : Array Value} {e : TypeId} {fr : Nat × Nat} (d : Array Int) (hb : w.heap[g]? = some (.cells cur e fr)) :
    (grow (putRow (Value.int .i64) (Sort.ahead w n) g 0 d) os).heap[g]? = some (.cells (putCells (Value.int .i64) 0 d cur) e fr) := by
  have hg : g < w.heap.size := (Array.getElem?_eq_some_iff.1 hb).1
  rw [heap_grow_old _ _ (by simpa using hg)]
  simp [putRow, mapBlock, Sort.ahead, Array.getElem?_modify, hb, onCells]
theorem grownE {w : World} {g n : Nat} {os : Array Obj} (d : Array Int) : w.grownBy (grow (putRow (Value.int .i64) (Sort.ahead w n) g 0 d) os) (some g) := by
  refine ⟨rfl, rfl, rfl, by simp, fun k hk hne => ?_⟩
  rw [heap_grow_old _ _ (by simpa using hk)]
  have : g ≠ k := fun e => hne (by rw [e])
  simp [putRow, mapBlock, Sort.ahead, Array.getElem?_modify, this]
theorem takeE (cur : Array Value) (ts : List Int) (m : Nat) (hm : m ≤ ts.length) (h : ts.length ≤ cur.size) : (putCells (Value.int .i64) 0 ts.toArray cur).toList.take m = (ts.take m).map (Value.int .i64) := by
  apply List.ext_getElem?
  intro j
  by_cases hj : j < m
  · rw [List.getElem?_take_of_lt hj, Array.getElem?_toList, List.getElem?_map, List.getElem?_take_of_lt hj, List.getElem?_eq_getElem (by omega)]
    simp [putCells, show j < ts.length by omega, show j < cur.size by omega]
  · rw [List.getElem?_take_eq_none (by omega), List.getElem?_eq_none (by simp; omega)]
theorem holdsE {w : World} {g : Nat} {cur : Array Value} {e : TypeId} {ss : List Int} (hb : w.heap[g]? = some (.cells cur e (0, 0))) (ht : cur.toList.take ss.length = ss.map (Value.int .i64)) : Holds (Value.int .i64) w g 0 ss.toArray := by
  intro j hj
  have hj' : j < ss.length := by simpa using hj
  refine ⟨?_, by simp [World.frozen?, hb]⟩
  have h1 : (cur.toList.take ss.length)[j]? = (ss.map (Value.int .i64))[j]? := by rw [ht]
  rw [List.getElem?_take_of_lt hj'] at h1
  simp only [World.cell?, hb, Nat.zero_add]
  simp only [Option.isSome_none, Bool.false_eq_true, if_false]
  rw [← Array.getElem?_toList, h1]
  simp [hj']

theorem growRefl (w : World) (row : Option Nat) : w.grownBy w row := ⟨rfl, rfl, rfl, Nat.le_refl _, fun _ _ _ => rfl⟩
/-- A row of whole numbers of the call's own. -/
def IRow (base : Nat) (w : World) (v : Value) (xs : List Int) : Prop := w.ownsRow base 3 1 v xs.length (xs.map (Value.int .i64))
/-- Behind a rewriting of the row: its first m numbers. -/
theorem IRow.put {base g cap n m : Nat} {w : World} {os : Array Obj} {xs ts : List Int} (h : IRow base w (.slice (some ⟨g, 0, none⟩) xs.length cap) xs) (hl : ts.length = xs.length) (hm : m ≤ ts.length) :
    IRow base (grow (putRow (Value.int .i64) (Sort.ahead w n) g 0 ts.toArray) os) (.slice (some ⟨g, 0, none⟩) m cap) (ts.take m) := by
  rcases h.2 with ⟨h0, _⟩ | ⟨g', cap', cur, hv, hbase, hb, h1, h2, h3, h4⟩
  · cases h0
  · cases hv
    refine ⟨by simp [hm], .inr ⟨g, cap, _, by rw [List.length_take, Nat.min_eq_left hm], hbase, heapE _ hb, by rw [List.length_take]; omega, h2, by simp [putCells, h3], ?_⟩⟩
    rw [Nat.mul_one, List.length_take, Nat.min_eq_left hm]
    exact takeE cur ts m hm (by omega)
theorem IRow.shape {base : Nat} {w : World} {v : Value} {xs : List Int} (h : IRow base w v xs) (hne : xs ≠ []) :
    ∃ g cap, v = .slice (some ⟨g, 0, none⟩) xs.length cap ∧ g < w.heap.size ∧ base ≤ g ∧ xs.length ≤ cap ∧ Holds (Value.int .i64) w g 0 xs.toArray := by
  rcases h.2 with ⟨_, h0⟩ | ⟨g, cap, cur, rfl, hbase, hb, h1, h2, h3, h4⟩
  · exact absurd (List.eq_nil_of_length_eq_zero h0) hne
  · exact ⟨g, cap, rfl, (Array.getElem?_eq_some_iff.1 hb).1, hbase, h1, holdsE hb (by simpa using h4)⟩
theorem IRow.empty {base : Nat} {w : World} {v : Value} (h : IRow base w v []) : ∃ p cap, v = .slice p 0 cap := by
  rcases h.2 with ⟨rfl, _⟩ | ⟨g, cap, cur, rfl, _⟩ <;> exact ⟨_, _, rfl⟩

def sortL (xs : List Int) : List Int := xs.mergeSort fun x y => decide (x ≤ y)
theorem sortL_len (xs : List Int) : (sortL xs).length = xs.length := by unfold sortL; simp
theorem compact_le (xs : List Int) : (Lib.compact xs).length ≤ xs.length := by
  unfold Lib.compact Lib.compactUpTo
  rw [List.length_map]
  exact Nat.le_trans (List.length_filter_le _ _) (by simp)
def finL (xs : List Int) : List Int := (Lib.compact (sortL xs)).reverse

def RowPost (base : Nat) (w : World) (v v' : Value) (xs : List Int) (w' : World) : Prop := IRow base w' v' xs ∧ w.grownBy w' v.ownBlock ∧ v'.ownBlock = v.ownBlock

theorem sort_row {base : Nat} {w : World} {v : Value} {xs : List Int} (h : IRow base w v xs) (hl : xs.length < 1000000) :
    Calls Tryz.prog 57 #[v] w fun e w' => e = .returned (.tuple #[]) ∧ RowPost base w v v (sortL xs) w' := by
  by_cases hne : xs = []
  · subst hne
    obtain ⟨p, cap, rfl⟩ := h.empty
    exact (Any.slices_Sort_int_none sortI p cap w).mono fun e w' ⟨he, hw⟩ => by
      subst hw
      exact ⟨he, (by have e0 : sortL [] = [] := List.eq_nil_of_length_eq_zero (sortL_len []); rw [e0]; exact h), growRefl _ _, rfl⟩
  · obtain ⟨g, cap, rfl, hg, hb, hc, hH⟩ := h.shape hne
    exact (Any.slices_Sort_int sortI g 0 cap xs w hH hg (by omega)).mono fun e w' ⟨he, n, os, hw⟩ => by
      subst hw
      have hp := h.put (n := n) (os := os) (ts := sortL xs) (m := (sortL xs).length) (sortL_len xs) (Nat.le_refl _)
      rw [List.take_length, sortL_len] at hp
      exact ⟨he, hp, grownE _, rfl⟩
theorem compact_row {base : Nat} {w : World} {v : Value} {xs : List Int} (h : IRow base w v xs) (hl : xs.length < 1000000) :
    Calls Tryz.prog 58 #[v] w fun e w' => ∃ v', e = .returned v' ∧ RowPost base w v v' (Lib.compact xs) w' := by
  by_cases hne : xs = []
  · subst hne
    obtain ⟨p, cap, rfl⟩ := h.empty
    exact (Any.slices_Compact_int_empty compI p cap w).mono fun e w' ⟨he, hw⟩ => by
      subst hw
      exact ⟨_, he, h, growRefl _ _, rfl⟩
  · obtain ⟨g, cap, rfl, hg, hb, hc, hH⟩ := h.shape hne
    refine (Any.slices_Compact_int compI g 0 cap xs w hH (by omega) hc).mono ?_
    rintro e w' ⟨he, q, rfl⟩
    have hcl := compact_le xs
    have hp := h.put (n := q) (os := #[]) (ts := Lib.compact xs ++ List.replicate (xs.length - (Lib.compact xs).length) 0) (m := (Lib.compact xs).length) (by simp; omega) (by simp)
    rw [grow_empty, List.take_left'] at hp
    · have hg2 := grownE (w := w) (g := g) (n := q) (os := #[]) (Lib.compact xs ++ List.replicate (xs.length - (Lib.compact xs).length) 0).toArray
      rw [grow_empty] at hg2
      exact ⟨_, he, hp, hg2, rfl⟩
    · rfl
theorem reverse_row {base : Nat} {w : World} {v : Value} {xs : List Int} (h : IRow base w v xs) (hl : xs.length < 1000000) :
    Calls Tryz.prog 59 #[v] w fun e w' => e = .returned (.tuple #[]) ∧ RowPost base w v v xs.reverse w' := by
  by_cases hne : xs = []
  · subst hne
    obtain ⟨p, cap, rfl⟩ := h.empty
    exact (Any.slices_Reverse_int_empty revI p cap w).mono fun e w' ⟨he, hw⟩ => by
      subst hw
      exact ⟨he, h, growRefl _ _, rfl⟩
  · obtain ⟨g, cap, rfl, hg, hb, hc, hH⟩ := h.shape hne
    refine (Any.slices_Reverse_int revI g 0 cap xs w hH (by omega)).mono ?_
    rintro e w' ⟨he, q, rfl⟩
    have hp := h.put (n := q) (os := #[]) (ts := xs.reverse) (m := xs.reverse.length) (by simp) (Nat.le_refl _)
    rw [grow_empty, List.take_length, List.length_reverse] at hp
    have hg2 := grownE (w := w) (g := g) (n := q) (os := #[]) xs.reverse.toArray
    rw [grow_empty] at hg2
    exact ⟨he, hp, hg2, rfl⟩
theorem IRow.ofR {base : Nat} {ok : Nat → Prop} {w : World} {v : Value} {xs : List Int} (h : Kd.R (Kd.int .i64) 3 w base ok v xs) : IRow base w v xs := Kd.own_of_R h
theorem IRow.toR {base : Nat} {w : World} {v : Value} {xs : List Int} (h : IRow base w v xs) : Kd.R (Kd.int .i64) 3 w base (fun _ => True) v xs := Kd.R_of_own h (fun _ _ => trivial)
theorem RowPost.below {base : Nat} {w0 w w' : World} {v v' : Value} {xs ys : List Int} (h : RowPost base w v v' xs w') (hr : IRow base w v ys) (hb : RowKit.Below base w0 w) (hs : base ≤ w.heap.size) : RowKit.Below base w0 w' :=
  hb.grown h.2.1 hs (own_base hr)
theorem RowPost.le {base : Nat} {w w' : World} {v v' : Value} {xs : List Int} (h : RowPost base w v v' xs w') : w.heap.size ≤ w'.heap.size := h.2.1.size
end Go.Proofs.YtkmpfmhbkflgpaaGreatDoor
