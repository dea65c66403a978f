import Derived.Test.YtkmpfmhbkflgpaaGreatDoorCZRek
import Derived.Shelf.SlicesE.DeleteFunc
import Derived.WalkSpells
/- slices.Clone, DeleteFunc over texts; path.Have: its contract. -/
set_option linter.unusedVariables false
set_option linter.unusedSimpArgs false
namespace Go.Proofs.YtkmpfmhbkflgpaaGreatDoor.Pr
open Go.RowKit Go.Shelf Go.Sort Go.Proofs.YtkmpfmhbkflgpaaGreatDoorW.PrintWords Go.Proofs.YtkmpfmhbkflgpaaGreatDoorW.PrintLast Go.Proofs.YtkmpfmhbkflgpaaGreatDoorW.PrintMore

def delT_ren : Go.Shelf.Ren := ⟨fun | 10 => 32 | 6 => 65 | n => n, fun | 22 => 31 | 23 => 26 | 25 => 82 | 3 => 3 | 4 => 4 | 0 => 0 | n => n, fun | n => n⟩
theorem delT : Go.Proofs.SlLaysH.n10 Tryz.prog delT_ren := {
  mixed := by kernel_rfl,
  f6 := ⟨Tryz.f65.name, by decide, Tryz.func65.trans (congrArg some (by kernel_rfl))⟩,
  f10 := ⟨Tryz.f32.name, by decide, Tryz.func32.trans (congrArg some (by kernel_rfl))⟩,
  t0 := Tryz.underlying0,
  a0 := Tryz.isAgg0,
  z0 := Tryz.sizeOf0,
  v0 := Tryz.zeroValue0,
  t3 := Tryz.underlying3,
  a3 := Tryz.isAgg3,
  z3 := Tryz.sizeOf3,
  v3 := Tryz.zeroValue3,
  t4 := Tryz.underlying4,
  a4 := Tryz.isAgg4,
  z4 := Tryz.sizeOf4,
  v4 := Tryz.zeroValue4,
  t22 := Tryz.underlying31,
  a22 := Tryz.isAgg31,
  z22 := Tryz.sizeOf31,
  v22 := Tryz.zeroValue31,
  a23 := Tryz.isAgg26,
  z23 := Tryz.sizeOf26,
  t25 := Tryz.underlying82,
  a25 := Tryz.isAgg82,
  z25 := Tryz.sizeOf82,
  v25 := Tryz.zeroValue82 }

theorem heapS {w : World} {g n : Nat} {os : Array Obj} {cur : Array Value} {e : TypeId} {fr : Nat × Nat} (d : Array ByteArray) (hb : w.heap[g]? = some (.cells cur e fr)) :
    (grow (putRow Value.string (Sort.ahead w n) g 0 d) os).heap[g]? = some (.cells (putCells Value.string 0 d cur) e fr) := by
  have hg : g < w.heap.size := (Array.getElem?_eq_some_iff.1 hb).1
  rw [heap_grow_old _ _ (by simpa using hg)]
  simp [putRow, mapBlock, Sort.ahead, Array.getElem?_modify, hb, onCells]
theorem grownS {w : World} {g n : Nat} {os : Array Obj} (d : Array ByteArray) : w.grownBy (grow (putRow Value.string (Sort.ahead w n) g 0 d) os) (some g) := by
  refine ⟨rfl, rfl, rfl, by simp, fun k hk hne => ?_⟩
  rw [heap_grow_old _ _ (by simpa using hk)]
  have : g ≠ k := fun e => hne (by rw [e])
  simp [putRow, mapBlock, Sort.ahead, Array.getElem?_modify, this]
theorem takeS (cur : Array Value) (ts : List ByteArray) (m : Nat) (hm : m ≤ ts.length) (h : ts.length ≤ cur.size) : (putCells Value.string 0 ts.toArray cur).toList.take m = (ts.take m).map Value.string := by
  apply List.ext_getElem?
  intro j
  by_cases hj : j < m
  · rw [List.getElem?_take_of_lt hj, Array.getElem?_toList, List.getElem?_map, List.getElem?_take_of_lt hj, List.getElem?_eq_getElem (by omega)]
    simp [putCells, show j < ts.length by omega, show j < cur.size by omega]
  · rw [List.getElem?_take_eq_none (by omega), List.getElem?_eq_none (by simp; omega)]
theorem holdsS {w : World} {g : Nat} {cur : Array Value} {e : TypeId} {ss : List ByteArray} (hb : w.heap[g]? = some (.cells cur e (0, 0))) (ht : cur.toList.take ss.length = ss.map Value.string) : Holds Value.string w g 0 ss.toArray := by
  intro j hj
  have hj' : j < ss.length := by simpa using hj
  refine ⟨?_, by simp [World.frozen?, hb]⟩
  have h1 : (cur.toList.take ss.length)[j]? = (ss.map Value.string)[j]? := by rw [ht]
  rw [List.getElem?_take_of_lt hj'] at h1
  simp only [World.cell?, hb, Nat.zero_add]
  simp only [Option.isSome_none, Bool.false_eq_true, if_false]
  rw [← Array.getElem?_toList, h1]
  simp [hj']

/-- A row of texts of the call's own. -/
def SRow (base : Nat) (w : World) (v : Value) (xs : List ByteArray) : Prop := w.ownsRow base 26 1 v xs.length (xs.map Value.string)
/-- Behind a rewriting of the row: its first m texts. -/
theorem SRow.put {base g cap n m : Nat} {w : World} {os : Array Obj} {xs ts : List ByteArray} (h : SRow base w (.slice (some ⟨g, 0, none⟩) xs.length cap) xs) (hl : ts.length = xs.length) (hm : m ≤ ts.length) :
    SRow base (grow (putRow Value.string (Sort.ahead w n) g 0 ts.toArray) os) (.slice (some ⟨g, 0, none⟩) m cap) (ts.take m) := by
  rcases h.2 with ⟨h0, _⟩ | ⟨g', cap', cur, hv, hbase, hb, h1, h2, h3, h4⟩
  · cases h0
  · cases hv
    refine ⟨by simp [hm], .inr ⟨g, cap, _, by rw [List.length_take, Nat.min_eq_left hm], hbase, heapS _ hb, by rw [List.length_take]; omega, h2, by simp [putCells, h3], ?_⟩⟩
    rw [Nat.mul_one, List.length_take, Nat.min_eq_left hm]
    exact takeS cur ts m hm (by omega)
theorem SRow.shape {base : Nat} {w : World} {v : Value} {xs : List ByteArray} (h : SRow base w v xs) (hne : xs ≠ []) :
    ∃ g cap, v = .slice (some ⟨g, 0, none⟩) xs.length cap ∧ g < w.heap.size ∧ base ≤ g ∧ xs.length ≤ cap ∧ Holds Value.string w g 0 xs.toArray := by
  rcases h.2 with ⟨_, h0⟩ | ⟨g, cap, cur, rfl, hbase, hb, h1, h2, h3, h4⟩
  · exact absurd (List.eq_nil_of_length_eq_zero h0) hne
  · exact ⟨g, cap, rfl, (Array.getElem?_eq_some_iff.1 hb).1, hbase, h1, holdsS hb (by simpa using h4)⟩

theorem SRow.ofR {base : Nat} {ok : Nat → Prop} {w : World} {v : Value} {xs : List ByteArray} (h : Kd.R Kd.string 26 w base ok v xs) : SRow base w v xs := Kd.own_of_R h
theorem SRow.toR {base : Nat} {w : World} {v : Value} {xs : List ByteArray} (h : SRow base w v xs) : Kd.R Kd.string 26 w base (fun _ => True) v xs := Kd.R_of_own h (fun _ _ => trivial)

set_option maxHeartbeats 1600000 in
set_option maxRecDepth 100000 in
theorem clone_any (ad : Addr) (c0 : Nat) (l0 : List ByteArray) (w : World) (hr0 : Kd.C Kd.string w (some ad) l0.length l0) (hc0 : l0.length ≤ c0) (hl : l0.length < 1000000) :
    Calls Tryz.prog 33 #[.slice (some ad) l0.length c0] w fun e w' => ∃ v0_ : Value, e = .returned v0_ ∧ Kd.R Kd.string 26 w' w.heap.size (fun _ => True) v0_ l0 ∧ RowKit.Below w.heap.size w w' := by
  have HR0 := Aside0.mk hr0
  have LM := Aside0.mk hl
  clear hr0 hl
  have heq := @Lib.run_eql_slice_nil Tryz.prog w 31 26 (some ad) l0.length c0 0 0 Tryz.underlying31
  go_enter Tryz.func33, Tryz.ntmps33
  go_wp2_with (first | ((with_reducible refine gate_dst (N := 5) rfl ?_); refine Kd.R_lit Kd.string _ 26 ?hg (N := 5) ?hd (xs := ([] : List ByteArray)) (inner := []) (ok := fun _ => True) (okp := fun _ => True) ?hr ?hp (fun _ hk => hk) trivial (RowKit.Below.refl _ _) (Nat.le_refl _) (by simp) ?_; (case hd => rfl); (case hg => rfl); (case hr => first | (go_simp; done) | (go_simp; rfl)); (case hp => exact Reps.none _ _); intro v5 w5 ho hb hg_ hnew_; clear hg_ hnew_; have HO := Aside0.mk ho; have HB := Aside0.mk hb; clear ho hb) | ((with_reducible refine gate_dst (N := 7) rfl ?_); refine Kd.R_append_rows Kd.string (w0 := w) w.heap.size rfl (.tmp 5) (.tmp 6) 31 26 (.string ⟨#[]⟩) 16 rfl Tryz.underlying31 info26 rfl (by decide) (by omega) v5 [] l0 _ _ _ (fun _ => True) (fun _ => False) rfl rfl ?aO ?aR (fun _ _ h => h) (fun _ h => h.elim) ?aF ?aB ?aS ?aL ?_; (case aR => exact (Kd.C_below HR0.out HB.out)); (case aB => exact HB.out); (case aF => exact (fun _ _ => trivial)); (case aO => exact HO.out); (case aS => exact HB.out.size); (case aL => have := LM.out; simp; omega); intro v7 w7 ho hb hg hat; have HO7 := Aside0.mk ho; have HB7 := Aside0.mk hb; clear ho hb hg hat))
  go_ret
  exact ⟨_, rfl, HO7.out, HB7.out⟩

/-! ### DeleteFunc -/
def isEmpty (t : ByteArray) : Bool := t.toList.isEmpty
theorem empty_gives (x : ByteArray) (W : World) : FnGives Tryz.prog 34 #[] #[.string x] (.bool (isEmpty x)) W := by
  show Calls Tryz.prog 34 #[.string x] W _
  go_enter Tryz.func34, Tryz.ntmps34
  go_wp2
  go_ret
  exact ⟨rfl, 0, rfl⟩
theorem one_cell_string : OneCell Value.string := by
  first | exact fun _ => rfl | exact ⟨fun _ => rfl⟩ | exact ⟨fun _ => rfl, fun _ => rfl⟩
def keptL (l : List ByteArray) : List ByteArray := l.filter fun t => !isEmpty t
theorem delete_any {base : Nat} (g cap : Nat) (l : List ByteArray) (w : World) (h : SRow base w (.slice (some ⟨g, 0, none⟩) l.length cap) l) (hl : l.length < 1000000) (hne : l ≠ []) :
    Calls Tryz.prog 32 #[.slice (some ⟨g, 0, none⟩) l.length cap, .func (.func 34) #[] #[]] w fun e w' => ∃ v, e = .returned v ∧ SRow base w' v (keptL l) ∧ w.grownBy w' (some g) := by
  obtain ⟨g2, cap2, e1, hg, hb, hc, hH⟩ := h.shape hne
  injection e1 with e1 e2 e3
  injection e1 with e1
  injection e1 with e1
  subst e1
  subst e3
  have eg : ∀ args w, (callFunc 34 args).run Tryz.prog w = .ok (.enter 34 args) w := enters_of Tryz.func34 (by kernel_rfl) rfl
  have hcon := AnyE.slices_DeleteFunc delT Value.string one_cell_string isEmpty 34 #[] eg (⟨#[]⟩ : ByteArray) Tryz.zeroValue26 g 0 cap l.toArray w (fun W x _ => empty_gives x W) (fun n os dk x _ => empty_gives x _) hH (by simp; omega) (by simpa using hc)
  rw [List.size_toArray] at hcon
  refine hcon.mono ?_
  rintro e w' ⟨he, q, rfl⟩
  have hfl : (keptL l).length ≤ l.length := List.length_filter_le _ _
  have hp := h.put (n := q) (os := #[]) (ts := keptL l ++ List.replicate (l.length - (keptL l).length) (⟨#[]⟩ : ByteArray)) (m := (keptL l).length) (by simp; omega) (by simp)
  rw [grow_empty, List.take_left'] at hp
  · have hg2 := grownS (w := w) (g := g) (n := q) (os := #[]) (keptL l ++ List.replicate (l.length - (keptL l).length) (⟨#[]⟩ : ByteArray)).toArray
    rw [grow_empty] at hg2
    exact ⟨_, he, hp, hg2⟩
  · rfl
end Go.Proofs.YtkmpfmhbkflgpaaGreatDoor.Pr

/- path.Have: its contract. -/
set_option linter.unusedVariables false
set_option linter.unusedSimpArgs false
namespace Go.Proofs.YtkmpfmhbkflgpaaGreatDoor.Pr
open Go.RowKit Go.Proofs.YtkmpfmhbkflgpaaGreatDoorW.PrintWords Go.Proofs.YtkmpfmhbkflgpaaGreatDoorW.PrintLast Go.Proofs.YtkmpfmhbkflgpaaGreatDoorW.PrintMore Go.Proofs.YtkmpfmhbkflgpaaGreatDoor.TT

def haveF (ks : List ByteArray) : List ByteArray := keptL (ks.drop 1)
theorem row_C {T : TypeId} {w : World} {b : Nat} {ks : List ByteArray} (h : KA T w b ks) : Kd.C Kd.string w (some ⟨b, 1, none⟩) (ks.drop 1).length (ks.drop 1) := by
  refine Kd.C_of_reads (d := ByteArray.empty) ⟨rfl, by have := h.2; simp; omega, fun _ => ⟨_, rfl, fun j hj => ?_⟩⟩
  have hl := h.2
  rw [List.length_drop] at hj
  have hc := h.cell (j := 1 + j) (by omega)
  have e : (ks.drop 1).getD j ByteArray.empty = key ks (1 + j) := by unfold key; simp [List.getD_eq_getElem?_getD, List.getElem?_drop, Nat.add_comm]
  rw [e, show (⟨b, 1, none⟩ : Addr).add j = ⟨b, 1 + j, none⟩ by first | rfl | simp [Addr.add]]
  exact hc
set_option maxHeartbeats 4000000 in
set_option maxRecDepth 100000 in
theorem have_any (ks : List ByteArray) (hl : ks.length = 32) (w : World) :
    Calls Tryz.prog 12 #[KV ks] w fun e w' => ∃ v, e = .returned v ∧ Kd.R Kd.string 26 w' w.heap.size (fun _ => True) v (haveF ks) ∧ RowKit.Below w.heap.size w w' := by
  have hca := cells_agg ks
  have hdl : (ks.drop 1).length = 31 := by simp [hl]
  unfold KV
  go_enter Tryz.func12, Tryz.ntmps12
  have HK := Lib.hid (KA.new 28 w ks hl (ks.map Value.string).toArray rfl)
  have HB := Lib.hid ((RowKit.Below.refl w.heap.size w).alloc (Nat.le_refl _) (.cells (ks.map Value.string).toArray 28))
  go_wp2_with fail
  generalize w.alloc (.cells (ks.map Value.string).toArray 28) = W at HK HB ⊢
  have hcl := clone_any ⟨w.heap.size, 1, none⟩ 31 (ks.drop 1) W (row_C HK.out) (by omega) (by omega)
  rw [hdl] at hcl
  refine hcl.mono ?_
  rintro e w2 ⟨v, rfl, hr, hb⟩
  have HB2 := Lib.hid (HB.out.trans (hb.mono HB.out.size))
  have HS := Lib.hid (SRow.ofR (Kd.R_lower hr HB.out.size))
  clear hb hcl
  obtain ⟨ad, c, ev⟩ := Kd.R_slice1 hr (by omega)
  subst ev
  obtain ⟨g, eg⟩ := Kd.R_head hr
  subst eg
  clear hr
  have hd := delete_any g c (ks.drop 1) w2 HS.out (by omega) (by intro h; rw [h] at hdl; cases hdl)
  go_wp2_with fail
  rw [hdl] at hd
  refine hd.mono ?_
  rintro e w3 ⟨v2, rfl, hs, hg⟩
  have HB3 := Lib.hid (HB2.out.grown hg HB2.out.size (by
    intro k hk
    injection hk with hk
    subst hk
    exact own_base HS.out g rfl))
  have HS3 := Lib.hid hs.toR
  clear hd hg hs HS HB2
  go_wp2_with fail
  go_ret
  exact ⟨_, rfl, HS3.out, HB3.out⟩
end Go.Proofs.YtkmpfmhbkflgpaaGreatDoor.Pr
