/- real.Mid: its contract: the number whose code stands in the middle of the codes, sorted. -/
import Derived.Test.YtjpgdaphkmeijaaMidf
set_option linter.unusedVariables false
set_option linter.unusedSimpArgs false
namespace Go.Proofs.Ytjpgdaphkmeijaa.Rl
open Go.RowKit Go.Shelf Go.Sort

theorem below_drewN {B : Nat} {a w : World} (h : RowKit.Below B a w) (n : Nat) : RowKit.Below B a (w.drewN n) := h.trans ⟨rfl, rfl, rfl, Nat.le_refl _, fun _ _ => rfl⟩

/-! ### The order, on whatever bits -/
theorem read_mod (a : Nat) : Ieee.double.read a = Ieee.double.read (a % 18446744073709551616) := by
  unfold Ieee.Format.read
  rw [Fo.sw, Fo.bn, Fo.ir]
  rw [show a / 9223372036854775808 % 2 = a % 18446744073709551616 / 9223372036854775808 % 2 by omega, show a % 9223372036854775808 = a % 18446744073709551616 % 9223372036854775808 by omega]
def cfR (a b : Nat) : Int := orderR (a % 18446744073709551616) (b % 18446744073709551616)
theorem ford_mod (a b : Nat) : ford a b = ford (a % 18446744073709551616) (b % 18446744073709551616) := by
  show Ieee.double.order a b = Ieee.double.order _ _
  unfold Ieee.Format.order
  rw [read_mod a, read_mod b]
theorem orderF_mod (a b : Nat) : orderF a b = cfR a b := by
  have h : orderF a b = orderF (a % 18446744073709551616) (b % 18446744073709551616) := by
    unfold orderF cmpF fNaN
    rw [ford_mod a b, ford_mod a a, ford_mod b b]
  rw [h]
  exact orderF_eq (by omega) (by omega)
def cd (a : Nat) : Nat := codeR (a % 18446744073709551616)
theorem ltR (a b : Nat) : ltOf cfR a b = decide (cd a < cd b) := by
  unfold ltOf cfR orderR cd
  by_cases h1 : codeR (a % 18446744073709551616) < codeR (b % 18446744073709551616)
  · simp [h1]
  · by_cases h2 : codeR (b % 18446744073709551616) < codeR (a % 18446744073709551616) <;> simp [h1, h2]
theorem swoR : SWO (ltOf cfR) where
  irrefl x := by rw [ltR]; simp
  trans x y z h1 h2 := by rw [ltR] at *; simp at *; omega
  ntrans x y z h1 h2 := by rw [ltR] at *; simp at *; omega

def encF (n : Nat) : Value := .float .f64 n

/-- The codes, sorted. -/
def codes (zs : List Nat) : List Nat := (zs.map codeR).mergeSort
def midF (zs : List Nat) : Nat := if zs = [] then 9221120237041090561 else decF ((codes zs).getD ((zs.length - 1) / 2) 0)

theorem codes_of {zs : List Nat} (hz : ∀ x ∈ zs, x < 18446744073709551616) {d' : Array Nat} (hP : PermIn 0 zs.toArray.size zs.toArray d') (hS : SortedIn (ltOf cfR) 0 zs.toArray.size d') : d'.toList.map codeR = codes zs := by
  obtain ⟨hsz, _, hperm⟩ := hP
  have e1 : d'.extract 0 zs.toArray.size = d' := by rw [← hsz]; exact Array.extract_size
  rw [e1, Array.extract_size] at hperm
  have hmem : ∀ x ∈ d'.toList, x < 18446744073709551616 := fun x hx => hz x (hperm.mem_iff.1 hx)
  refine List.Perm.eq_of_pairwise (le := fun x y => decide (x ≤ y) = true) ?_ ?_ ?_ ((hperm.map codeR).trans (List.mergeSort_perm _ _).symm)
  · intro a b _ _ h1 h2
    simp at h1 h2; omega
  · rw [List.pairwise_iff_getElem]
    intro i j hi hj hij
    have hi' : i < d'.size := by simpa using hi
    have hj' : j < d'.size := by simpa using hj
    have h := hS i j (Nat.zero_le _) hij (by omega)
    rw [ltR, getElem!_pos d' i hi', getElem!_pos d' j hj'] at h
    have m1 := hmem d'[i] (by simp)
    have m2 := hmem d'[j] (by simp)
    unfold cd at h
    rw [Nat.mod_eq_of_lt m1, Nat.mod_eq_of_lt m2] at h
    simp at h ⊢
    omega
  · exact List.pairwise_mergeSort (fun a b c h1 h2 => by simp at *; omega) (fun a b => by simp; omega) _
theorem mid_of {zs : List Nat} (hz : ∀ x ∈ zs, x < 18446744073709551616) (hne : zs ≠ []) {d' : Array Nat} (hP : PermIn 0 zs.toArray.size zs.toArray d') (hS : SortedIn (ltOf cfR) 0 zs.toArray.size d') :
    canonF (d'[(zs.length - 1) / 2]!) = midF zs := by
  have hc := codes_of hz hP hS
  obtain ⟨hsz, _, hperm⟩ := hP
  have hl : d'.size = zs.length := by simpa using hsz
  have e1 : d'.extract 0 zs.toArray.size = d' := by rw [← hsz]; exact Array.extract_size
  rw [e1, Array.extract_size] at hperm
  have hlt : (zs.length - 1) / 2 < d'.size := by
    have : 0 < zs.length := List.length_pos_iff.2 hne
    omega
  have hm : d'[(zs.length - 1) / 2] < 18446744073709551616 := hz _ (hperm.mem_iff.1 (by simp))
  unfold midF
  rw [if_neg hne, ← hc, getElem!_pos d' _ hlt, canonF_eq hm]
  rw [List.getD_eq_getElem?_getD, List.getElem?_map, Array.getElem?_toList, Array.getElem?_eq_getElem hlt]
  exact (dec_code hm).symm

/-! ### The worlds -/
theorem holdsF {w : World} {g : Nat} {cur : Array Value} {e : TypeId} {ss : List Nat} (hb : w.heap[g]? = some (.cells cur e (0, 0))) (ht : cur.toList.take ss.length = ss.map encF) : Holds encF w g 0 ss.toArray := by
  intro j hj
  have hj' : j < ss.length := by simpa using hj
  refine ⟨?_, by simp [World.frozen?, hb]⟩
  have h1 : (cur.toList.take ss.length)[j]? = (ss.map encF)[j]? := by rw [ht]
  rw [List.getElem?_take_of_lt hj'] at h1
  simp only [World.cell?, hb, Nat.zero_add]
  simp only [Option.isSome_none, Bool.false_eq_true, if_false]
  rw [← Array.getElem?_toList, h1]
  simp [hj']
theorem heapF {w : World} {g n : Nat} {os : Array Obj} {cur : Array Value} {e : TypeId} {fr : Nat × Nat} (d : Array Nat) (hb : w.heap[g]? = some (.cells cur e fr)) :
    (sortWorld encF w g 0 n d os).heap[g]? = some (.cells (putCells encF 0 d cur) e fr) := by
  have hg : g < w.heap.size := (Array.getElem?_eq_some_iff.1 hb).1
  unfold sortWorld
  rw [heap_grow_old _ _ (by simpa using hg)]
  simp [putRow, mapBlock, Sort.ahead, Array.getElem?_modify, hb, onCells]
theorem grownF {w : World} {g n : Nat} {os : Array Obj} (d : Array Nat) : w.grownBy (sortWorld encF w g 0 n d os) (some g) := by
  unfold sortWorld
  refine ⟨rfl, rfl, rfl, by simp, fun k hk hne => ?_⟩
  rw [heap_grow_old _ _ (by simpa using hk)]
  have : g ≠ k := fun e => hne (by rw [e])
  simp [putRow, mapBlock, Sort.ahead, Array.getElem?_modify, this]
theorem cellF {w : World} {g n : Nat} {os : Array Obj} {cur : Array Value} {e : TypeId} {d : Array Nat} (hb : w.heap[g]? = some (.cells cur e (0, 0))) (k : Nat) (hk : k < d.size) (hc : d.size ≤ cur.size) :
    (sortWorld encF w g 0 n d os).cell? ⟨g, k, none⟩ = some (.float .f64 d[k]!) := by
  have h := heapF (n := n) (os := os) d hb
  simp only [World.cell?, h]
  simp only [Option.isSome_none, Bool.false_eq_true, if_false]
  simp [putCells, hk, show k < cur.size by omega, encF]

theorem cmpReadsF (blk off size : Nat) (w : World) : CmpReads Try.prog 16 #[] encF cfR blk off size w := fun m os dk _ x y => by
  have h := order_f x y (sortWorld encF w blk off m dk os)
  rw [orderF_mod] at h
  exact h

/-- What slices.SortedFunc leaves: the sorted slice, in a row of the call's own. -/
def SortedPost (zs : List Nat) (w : World) (e : Ending) (w' : World) : Prop :=
  ∃ (g cap : Nat) (d' : Array Nat), e = .returned (.slice (some ⟨g, 0, none⟩) zs.length cap) ∧ PermIn 0 zs.toArray.size zs.toArray d' ∧ SortedIn (ltOf cfR) 0 zs.toArray.size d' ∧
    (∀ k, k < zs.length → w'.cell? ⟨g, k, none⟩ = some (.float .f64 d'[k]!)) ∧ RowKit.Below w.heap.size w w'

set_option maxRecDepth 100000 in
set_option maxHeartbeats 2000000 in
theorem sorted_f (Bs b off cap : Nat) (zs : List Nat) (hne : zs ≠ []) (hlen : zs.length ≤ 1000000) (w : World) (hBs : Bs < w.heap.size) (hb : b < w.heap.size)
    (hc0 : w.cell? ⟨Bs, 0, none⟩ = some (.slice (some ⟨b, off, none⟩) zs.length cap)) (hI : FCells w b off zs) :
    Calls Try.prog 31 #[.func (.func 37) #[] #[.pointer (some ⟨Bs, 0, none⟩)], .func (.func 16) #[] #[]] w (SortedPost zs w) := by
  have hap : Calls Try.prog 39 #[.slice none 0 0, .func (.func 37) #[] #[.pointer (some ⟨Bs, 0, none⟩)]] w _ := (callsIn_wide (n := 3)).1 (append_in Fence.wide 3 trivial trivial rfl (by omega) Bs b off cap zs hlen w hBs hb hc0 hI)
  have hcol : Calls Try.prog 35 #[.func (.func 37) #[] #[.pointer (some ⟨Bs, 0, none⟩)]] w fun e W' =>
      ∃ v, e = .returned v ∧ W'.ownsRow w.heap.size 26 1 v zs.length (zs.map (Value.float .f64)) ∧ (v = .slice none 0 0 ↔ zs = []) ∧ RowKit.Below w.heap.size w W' := by
    go_enter Try.func35, Try.ntmps35
    go_wp2_with (go_at_call 39; refine hap.mono ?_; rintro e w' ⟨v, rfl, h1, h2, h3⟩; have H1 := Lib.hid h1; have H2 := Lib.hid h2; have H3 := Lib.hid h3; clear h1 h2 h3)
    go_ret
    exact ⟨v, rfl, H1.out, H2.out, H3.out⟩
  have eg : ∀ args w, (callFunc 16 args).run Try.prog w = .ok (.enter 16 args) w := enters_of Try.func16 (by kernel_rfl) rfl
  clear hap
  have HI := Lib.hid hI; have HC := Lib.hid hc0; have HN := Lib.hid hne
  clear hI hc0 hne
  go_enter Try.func31, Try.ntmps31
  go_wp2_with (go_at_call 35; refine hcol.mono ?_; clear hcol; rintro e w1 ⟨v, rfl, hrow, hnil, hbel⟩; rcases hrow.2 with ⟨rfl, hz⟩ | ⟨gb, cap', cur, rfl, hbase, hgb, r1, r2, r3, r4⟩)
  · exact absurd (by simpa using hnil) HN.out
  · have hH : Holds encF w1 gb 0 zs.toArray := holdsF hgb (by have := r4; rw [Nat.mul_one] at this; exact this)
    have hgl : gb < w1.heap.size := (Array.getElem?_eq_some_iff.1 hgb).1
    have cS := Any.slices_SortFunc sortF encF (fun _ => rfl) cfR swoR 16 #[] gb 0 cap' zs.toArray w1 eg (cmpReadsF gb 0 _ w1).lays hH hgl (by simp; omega)
    change Calls Try.prog 36 _ _ _ at cS
    rw [List.size_toArray] at cS
    have HG := Lib.hid hgb; have HB := Lib.hid hbel; have HR := Lib.hid hrow; have H3 := Lib.hid r3
    clear hgb hbel hrow hnil r3 r4 hH
    go_wp2_with (go_at_call 36; refine cS.mono ?_; rintro e w' ⟨rfl, d', nn, os, hP, hS, hw⟩; have HP := Lib.hid hP; have HS := Lib.hid hS; have HW := Lib.hid hw; clear hP hS hw)
    go_ret
    have hs := HP.out.1
    refine ⟨gb, cap', d', rfl, by simpa using HP.out, by simpa using HS.out, fun k hk => ?_, ?_⟩
    · rw [HW.out]
      have h3 := H3.out
      simp at hs
      exact cellF HG.out k (by omega) (by omega)
    · rw [HW.out]
      exact HB.out.grown (grownF d') HB.out.size (fun j hj => by cases hj; exact hbase)

def MidPost (zs : List Nat) (w : World) (e : Ending) (w' : World) : Prop := e = .returned (.float .f64 (midF zs)) ∧ RowKit.Below w.heap.size w w'

set_option maxRecDepth 100000 in
set_option maxHeartbeats 2000000 in
theorem mid_none (A : Option Addr) (cap : Nat) (w : World) : Calls Try.prog 13 #[.slice A 0 cap] w (MidPost [] w) := by
  have h1 := nan_f
  have h2 := canon_f 9221120237041090561
  have e : canonF 9221120237041090561 = midF [] := by
    rw [canonF_eq (by omega)]; rfl
  rw [e] at h2
  have HE := Lib.hid e; clear e
  go_enter Try.func13, Try.ntmps13
  go_wp2_with (first | (go_at_call 27; refine (h1 _).mono ?_; clear h1; rintro e w' ⟨rfl, q, rfl⟩) | (go_at_call 18; refine (h2 _).mono ?_; clear h2; rintro e w' ⟨rfl, q, rfl⟩))
  go_ret
  exact ⟨rfl, below_drewN (RowKit.Below.refl _ _) _⟩

set_option maxRecDepth 100000 in
set_option maxHeartbeats 2000000 in
theorem mid_some (b off cap : Nat) (zs : List Nat) (hz : ∀ x ∈ zs, x < 18446744073709551616) (hne : zs ≠ []) (hlen : zs.length ≤ 1000000) (w : World) (hb : b < w.heap.size) (hI : FCells w b off zs) :
    Calls Try.prog 13 #[.slice (some ⟨b, off, none⟩) zs.length cap] w (MidPost zs w) := by
  have hpos : 0 < zs.length := List.length_pos_iff.2 hne
  have hB0 : RowKit.Below w.heap.size w (w.alloc (.cells #[.slice (some ⟨b, off, none⟩) zs.length cap] 24)) := (RowKit.Below.refl _ w).alloc (Nat.le_refl _) _
  have hv := fun W => values_f (some ⟨b, off, none⟩) zs.length cap W
  have hs := sorted_f w.heap.size b off cap zs hne hlen (w.alloc (.cells #[.slice (some ⟨b, off, none⟩) zs.length cap] 24)) (by simp) (by simp; omega) (Boxed.new w _ _).cell (hI.below hB0 hb)
  have HM := Lib.hid (fun d' hP hS => mid_of (d' := d') hz hne hP hS)
  have HB := Lib.hid hB0
  clear hB0 hz hne hI
  obtain ⟨len, hl⟩ : ∃ len, len = zs.length := ⟨_, rfl⟩
  rw [← hl] at hpos hlen hv hs ⊢
  have HL := Lib.hid hl
  clear hl
  go_enter Try.func13, Try.ntmps13
  have d1 : ((len : Int) == 0) = false := by simp; omega
  go_wp2_with (first | (go_at_call 32; refine (hv _).mono ?_; clear hv; rintro e w' ⟨rfl, rfl⟩) | (go_at_call 31; refine hs.mono ?_; clear hs; rintro e w' ⟨g, cap', d', rfl, hP, hS, hc, hbel⟩; have hck := hc ((len - 1) / 2) (by have := HL.out; omega); have HP := Lib.hid hP; have HS := Lib.hid hS; have HW := Lib.hid hbel; have hl2 := HL.out; rw [← hl2]; clear hP hS hbel hc hl2))
  refine (canon_f _ _).mono ?_
  rintro e w2 ⟨rfl, q, rfl⟩
  go_wp2
  go_ret
  have hm := HM.out d' HP.out HS.out
  rw [← HL.out] at hm
  exact ⟨by rw [hm]; rfl, below_drewN (((RowKit.Below.refl w.heap.size w).alloc (Nat.le_refl _) _).trans (show RowKit.Below w.heap.size _ _ from HW.out.mono (by simp))) _⟩
end Go.Proofs.Ytjpgdaphkmeijaa.Rl
