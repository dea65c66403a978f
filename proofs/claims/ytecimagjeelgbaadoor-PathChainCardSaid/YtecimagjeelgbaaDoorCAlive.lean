import Derived.Test.YtecimagjeelgbaaDoorCIdx
import Derived.Shelf.SlicesE.DeleteFunc
import Derived.WalkSpells
import Derived.Test.YtecimagjeelgbaaDoorCLearn
import Derived.ChangeKeysEq
import Derived.Laws.StructEq
/- few: its contract. -/
set_option linter.unusedVariables false
set_option linter.unusedSimpArgs false
namespace Go.Proofs.YtecimagjeelgbaaDoor.Pr
open Go.RowKit Go.Proofs.YtecimagjeelgbaaDoorW.PrintWords Go.Proofs.YtecimagjeelgbaaDoorW.PrintLast Go.Proofs.YtecimagjeelgbaaDoorW.PrintMore

def fewB (ks : List ByteArray) : Bool := ks.all (fun t => decide (t.size ≤ 2100))
theorem fewB_at {ks : List ByteArray} (h : fewB ks = true) (hl : ks.length = 32) (j : Nat) : (key ks j).size ≤ 2100 := by
  unfold key
  by_cases hj : j < ks.length
  · have := List.all_eq_true.1 h ks[j] (List.getElem_mem hj)
    simp [hj] at this ⊢
    exact this
  · rw [List.getD_eq_getElem?_getD, List.getElem?_eq_none (by omega)]
    decide
/-- An array's element by its place. -/
theorem index_ks (T : TypeId) (hT : Tryd.prog.underlying T = some (.array 32 25)) (ks : List ByteArray) (hl : ks.length = 32) (j : Nat) (hj : j < 32) (w : World) :
    (Instr.index T (.agg (ks.map Value.string).toArray) (.int .i64 (j : Int))).run Tryd.prog w = .ok (.string (key ks j)) w := by
  have h1 : (0 : Int) ≤ (j : Int) ∧ (j : Int) < (32 : Nat) := by omega
  have hjl : j < ks.length := by omega
  simp [Instr.index, asIntOf, run_underlying hT, h1, go_sem, hj, part, key, hjl]
set_option maxHeartbeats 4000000 in
set_option maxRecDepth 100000 in
theorem few_any (ks : List ByteArray) (hl : ks.length = 32) (w : World) :
    Calls Tryd.prog 9 #[KV ks] w fun e w' => e = .returned (.bool (fewB ks)) ∧ RowKit.Below w.heap.size w w' := by
  have hca := cells_agg ks
  unfold KV
  go_enter Tryd.func9, Tryd.ntmps9
  have HK := Lib.hid (KA.new 27 w ks hl (ks.map Value.string).toArray rfl)
  have HB := Lib.hid ((RowKit.Below.refl w.heap.size w).alloc (Nat.le_refl _) (.cells (ks.map Value.string).toArray 27))
  go_wp2_with (first | refine wpList_load_row rfl 27 (.tmp 1) rfl _ rfl _ _ _ _ HK.out.1 Tryd.underlying27 rfl (size_info _ _ hl s27) ?_)
  generalize w.alloc (.cells (ks.map Value.string).toArray 27) = W at HK HB ⊢
  go_loopw [6] (fun i wr => ∃ j : Nat, j ≤ 32 ∧ i = .int .i64 j ∧ (ks.take j).all (fun t => decide (t.size ≤ 2100)) = true ∧ RowKit.Below w.heap.size w wr) (fun i _ => 32 - (intOf i).toNat)
  case atStart => exact ⟨0, Nat.zero_le _, rfl, rfl, HB.out⟩
  case round =>
    obtain ⟨j, hj, rfl, hall, hbel⟩ := hrel
    by_cases hlt : j < 32
    · have hjl : j < ks.length := by omega
      have hix := index_ks 27 Tryd.underlying27 ks hl j hlt
      have HBEL := Lib.hid hbel
      clear hbel
      have hkj : key ks j = ks[j] := by unfold key; simp [hjl]
      rw [hkj] at hix
      by_cases hbig : ks[j].size ≤ 2100
      · have hall2 := Lib.hid (show (ks.take (j + 1)).all (fun t => decide (t.size ≤ 2100)) = true by rw [List.take_succ_eq_append_getElem hjl, List.all_append, hall]; simp [hbig])
        generalize ks[j] = t at hbig hix
        clear hkj
        go_wp2_with fail
        go_roundw
        case rel => exact ⟨j + 1, by omega, by simp, hall2.out, HBEL.out⟩
        case measure => simp [intOf]; omega
      · have hno := Lib.hid (show fewB ks = false by
          unfold fewB; rw [List.all_eq_false]; exact ⟨ks[j], List.getElem_mem hjl, by simpa using hbig⟩)
        generalize ks[j] = t at hbig hix
        clear hkj
        go_wp2_with fail
        go_ret
        rw [hno.out]
        exact ⟨rfl, HBEL.out⟩
    · obtain rfl : j = 32 := by omega
      have hyes := Lib.hid (show fewB ks = true by unfold fewB; rw [List.take_of_length_le (by omega)] at hall; exact hall)
      have HBEL := Lib.hid hbel
      clear hbel
      go_wp2_with fail
      go_ret
      rw [hyes.out]
      exact ⟨rfl, HBEL.out⟩
end Go.Proofs.YtecimagjeelgbaaDoor.Pr

/- slices.Clone, DeleteFunc over texts; path.Have: its contract. -/
set_option linter.unusedVariables false
set_option linter.unusedSimpArgs false
namespace Go.Proofs.YtecimagjeelgbaaDoor.Pr
open Go.RowKit Go.Shelf Go.Sort Go.Proofs.YtecimagjeelgbaaDoorW.PrintWords Go.Proofs.YtecimagjeelgbaaDoorW.PrintLast Go.Proofs.YtecimagjeelgbaaDoorW.PrintMore

def delT_ren : Go.Shelf.Ren := ⟨fun | 10 => 38 | 6 => 58 | n => n, fun | 22 => 31 | 23 => 25 | 25 => 80 | 3 => 3 | 4 => 4 | 0 => 0 | n => n, fun | n => n⟩
theorem delT : Go.Proofs.SlLaysH.n10 Tryd.prog delT_ren := {
  mixed := by kernel_rfl,
  f6 := ⟨Tryd.f58.name, by decide, Tryd.func58.trans (congrArg some (by kernel_rfl))⟩,
  f10 := ⟨Tryd.f38.name, by decide, Tryd.func38.trans (congrArg some (by kernel_rfl))⟩,
  t0 := Tryd.underlying0,
  a0 := Tryd.isAgg0,
  z0 := Tryd.sizeOf0,
  v0 := Tryd.zeroValue0,
  t3 := Tryd.underlying3,
  a3 := Tryd.isAgg3,
  z3 := Tryd.sizeOf3,
  v3 := Tryd.zeroValue3,
  t4 := Tryd.underlying4,
  a4 := Tryd.isAgg4,
  z4 := Tryd.sizeOf4,
  v4 := Tryd.zeroValue4,
  t22 := Tryd.underlying31,
  a22 := Tryd.isAgg31,
  z22 := Tryd.sizeOf31,
  v22 := Tryd.zeroValue31,
  a23 := Tryd.isAgg25,
  z23 := Tryd.sizeOf25,
  t25 := Tryd.underlying80,
  a25 := Tryd.isAgg80,
  z25 := Tryd.sizeOf80,
  v25 := Tryd.zeroValue80 }

theorem heapS {w : World} {g n : Nat} {os : Array Obj} {cur : Array Value} {e : TypeId} {fr : Nat × Nat} (d : Array ByteArray) (hb : w.heap[g]? = some (.cells cur e fr)) :
    (grow (putRow Value.string (Sort.ahead w n) g 0 d) os).heap[g]? = some (.cells (putCells Value.string 0 d cur) e fr) := by
  have hg : g < w.heap.size := (Array.getElem?_eq_some_iff.1 hb).1
  rw [heap_grow_old _ _ (by simpa using hg)]
  simp [putRow, mapBlock, Sort.ahead, Array.getElem?_modify, hb, onCells]
theorem grownS {w : World} {g n : Nat} {os : Array Obj} (d : Array ByteArray) : w.grownBy (grow (putRow Value.string (Sort.ahead w n) g 0 d) os) (some g) := by
  refine ⟨rfl, rfl, rfl, by simp, fun k hk hne => ?_⟩
  rw [heap_grow_old _ _ (by simpa using hk)]
  have : g ≠ k := fun e => hne (by rw [e])
  simp [putRow, mapBlock, Sort.ahead, Array.getElem?_modify, this]
theorem takeS (cur : Array Value) (ts : List ByteArray) (m : Nat) (hm : m ≤ ts.length) (h : ts.length ≤ cur.size) : (putCells Value.string 0 ts.toArray cur).toList.take m = (ts.take m).map Value.string := by
  apply List.ext_getElem?
  intro j
  by_cases hj : j < m
  · rw [List.getElem?_take_of_lt hj, Array.getElem?_toList, List.getElem?_map, List.getElem?_take_of_lt hj, List.getElem?_eq_getElem (by omega)]
    simp [putCells, show j < ts.length by omega, show j < cur.size by omega]
  · rw [List.getElem?_take_eq_none (by omega), List.getElem?_eq_none (by simp; omega)]
theorem holdsS {w : World} {g : Nat} {cur : Array Value} {e : TypeId} {ss : List ByteArray} (hb : w.heap[g]? = some (.cells cur e (0, 0))) (ht : cur.toList.take ss.length = ss.map Value.string) : Holds Value.string w g 0 ss.toArray := by
  intro j hj
  have hj' : j < ss.length := by simpa using hj
  refine ⟨?_, by simp [World.frozen?, hb]⟩
  have h1 : (cur.toList.take ss.length)[j]? = (ss.map Value.string)[j]? := by rw [ht]
  rw [List.getElem?_take_of_lt hj'] at h1
  simp only [World.cell?, hb, Nat.zero_add]
  simp only [Option.isSome_none, Bool.false_eq_true, if_false]
  rw [← Array.getElem?_toList, h1]
  simp [hj']

/-- A row of texts of the call's own. -/
def SRow (base : Nat) (w : World) (v : Value) (xs : List ByteArray) : Prop := w.ownsRow base 25 1 v xs.length (xs.map Value.string)
/-- Behind a rewriting of the row: its first m texts. -/
theorem SRow.put {base g cap n m : Nat} {w : World} {os : Array Obj} {xs ts : List ByteArray} (h : SRow base w (.slice (some ⟨g, 0, none⟩) xs.length cap) xs) (hl : ts.length = xs.length) (hm : m ≤ ts.length) :
    SRow base (grow (putRow Value.string (Sort.ahead w n) g 0 ts.toArray) os) (.slice (some ⟨g, 0, none⟩) m cap) (ts.take m) := by
  rcases h.2 with ⟨h0, _⟩ | ⟨g', cap', cur, hv, hbase, hb, h1, h2, h3, h4⟩
  · cases h0
  · cases hv
    refine ⟨by simp [hm], .inr ⟨g, cap, _, by rw [List.length_take, Nat.min_eq_left hm], hbase, heapS _ hb, by rw [List.length_take]; omega, h2, by simp [putCells, h3], ?_⟩⟩
    rw [Nat.mul_one, List.length_take, Nat.min_eq_left hm]
    exact takeS cur ts m hm (by omega)
theorem SRow.shape {base : Nat} {w : World} {v : Value} {xs : List ByteArray} (h : SRow base w v xs) (hne : xs ≠ []) :
    ∃ g cap, v = .slice (some ⟨g, 0, none⟩) xs.length cap ∧ g < w.heap.size ∧ base ≤ g ∧ xs.length ≤ cap ∧ Holds Value.string w g 0 xs.toArray := by
  rcases h.2 with ⟨_, h0⟩ | ⟨g, cap, cur, rfl, hbase, hb, h1, h2, h3, h4⟩
  · exact absurd (List.eq_nil_of_length_eq_zero h0) hne
  · exact ⟨g, cap, rfl, (Array.getElem?_eq_some_iff.1 hb).1, hbase, h1, holdsS hb (by simpa using h4)⟩

theorem SRow.ofR {base : Nat} {ok : Nat → Prop} {w : World} {v : Value} {xs : List ByteArray} (h : Kd.R Kd.string 25 w base ok v xs) : SRow base w v xs := Kd.own_of_R h
theorem SRow.toR {base : Nat} {w : World} {v : Value} {xs : List ByteArray} (h : SRow base w v xs) : Kd.R Kd.string 25 w base (fun _ => True) v xs := Kd.R_of_own h (fun _ _ => trivial)

set_option maxHeartbeats 1600000 in
set_option maxRecDepth 100000 in
theorem clone_any (ad : Addr) (c0 : Nat) (l0 : List ByteArray) (w : World) (hr0 : Kd.C Kd.string w (some ad) l0.length l0) (hc0 : l0.length ≤ c0) (hl : l0.length < 1000000) :
    Calls Tryd.prog 39 #[.slice (some ad) l0.length c0] w fun e w' => ∃ v0_ : Value, e = .returned v0_ ∧ Kd.R Kd.string 25 w' w.heap.size (fun _ => True) v0_ l0 ∧ RowKit.Below w.heap.size w w' := by
  have HR0 := Aside0.mk hr0
  have LM := Aside0.mk hl
  clear hr0 hl
  have heq := @Lib.run_eql_slice_nil Tryd.prog w 31 25 (some ad) l0.length c0 0 0 Tryd.underlying31
  go_enter Tryd.func39, Tryd.ntmps39
  go_wp2_with (first | ((with_reducible refine gate_dst (N := 5) rfl ?_); refine Kd.R_lit Kd.string _ 25 ?hg (N := 5) ?hd (xs := ([] : List ByteArray)) (inner := []) (ok := fun _ => True) (okp := fun _ => True) ?hr ?hp (fun _ hk => hk) trivial (RowKit.Below.refl _ _) (Nat.le_refl _) (by simp) ?_; (case hd => rfl); (case hg => rfl); (case hr => first | (go_simp; done) | (go_simp; rfl)); (case hp => exact Reps.none _ _); intro v5 w5 ho hb hg_ hnew_; clear hg_ hnew_; have HO := Aside0.mk ho; have HB := Aside0.mk hb; clear ho hb) | ((with_reducible refine gate_dst (N := 7) rfl ?_); refine Kd.R_append_rows Kd.string (w0 := w) w.heap.size rfl (.tmp 5) (.tmp 6) 31 25 (.string ⟨#[]⟩) 16 rfl Tryd.underlying31 info25 rfl (by decide) (by omega) v5 [] l0 _ _ _ (fun _ => True) (fun _ => False) rfl rfl ?aO ?aR (fun _ _ h => h) (fun _ h => h.elim) ?aF ?aB ?aS ?aL ?_; (case aR => exact (Kd.C_below HR0.out HB.out)); (case aB => exact HB.out); (case aF => exact (fun _ _ => trivial)); (case aO => exact HO.out); (case aS => exact HB.out.size); (case aL => have := LM.out; simp; omega); intro v7 w7 ho hb hg hat; have HO7 := Aside0.mk ho; have HB7 := Aside0.mk hb; clear ho hb hg hat))
  go_ret
  exact ⟨_, rfl, HO7.out, HB7.out⟩

/-! ### DeleteFunc -/
def isEmpty (t : ByteArray) : Bool := t.toList.isEmpty
theorem empty_gives (x : ByteArray) (W : World) : FnGives Tryd.prog 40 #[] #[.string x] (.bool (isEmpty x)) W := by
  show Calls Tryd.prog 40 #[.string x] W _
  go_enter Tryd.func40, Tryd.ntmps40
  go_wp2
  go_ret
  exact ⟨rfl, 0, rfl⟩
theorem one_cell_string : OneCell Value.string := by
  first | exact fun _ => rfl | exact ⟨fun _ => rfl⟩ | exact ⟨fun _ => rfl, fun _ => rfl⟩
def keptL (l : List ByteArray) : List ByteArray := l.filter fun t => !isEmpty t
theorem delete_any {base : Nat} (g cap : Nat) (l : List ByteArray) (w : World) (h : SRow base w (.slice (some ⟨g, 0, none⟩) l.length cap) l) (hl : l.length < 1000000) (hne : l ≠ []) :
    Calls Tryd.prog 38 #[.slice (some ⟨g, 0, none⟩) l.length cap, .func (.func 40) #[] #[]] w fun e w' => ∃ v, e = .returned v ∧ SRow base w' v (keptL l) ∧ w.grownBy w' (some g) := by
  obtain ⟨g2, cap2, e1, hg, hb, hc, hH⟩ := h.shape hne
  injection e1 with e1 e2 e3
  injection e1 with e1
  injection e1 with e1
  subst e1
  subst e3
  have eg : ∀ args w, (callFunc 40 args).run Tryd.prog w = .ok (.enter 40 args) w := enters_of Tryd.func40 (by kernel_rfl) rfl
  have hcon := AnyE.slices_DeleteFunc delT Value.string one_cell_string isEmpty 40 #[] eg (⟨#[]⟩ : ByteArray) Tryd.zeroValue25 g 0 cap l.toArray w (fun W x _ => empty_gives x W) (fun n os dk x _ => empty_gives x _) hH (by simp; omega) (by simpa using hc)
  rw [List.size_toArray] at hcon
  refine hcon.mono ?_
  rintro e w' ⟨he, q, rfl⟩
  have hfl : (keptL l).length ≤ l.length := List.length_filter_le _ _
  have hp := h.put (n := q) (os := #[]) (ts := keptL l ++ List.replicate (l.length - (keptL l).length) (⟨#[]⟩ : ByteArray)) (m := (keptL l).length) (by simp; omega) (by simp)
  rw [grow_empty, List.take_left'] at hp
  · have hg2 := grownS (w := w) (g := g) (n := q) (os := #[]) (keptL l ++ List.replicate (l.length - (keptL l).length) (⟨#[]⟩ : ByteArray)).toArray
    rw [grow_empty] at hg2
    exact ⟨_, he, hp, hg2⟩
  · rfl
end Go.Proofs.YtecimagjeelgbaaDoor.Pr

/- path.Have: its contract. -/
set_option linter.unusedVariables false
set_option linter.unusedSimpArgs false
namespace Go.Proofs.YtecimagjeelgbaaDoor.Pr
open Go.RowKit Go.Proofs.YtecimagjeelgbaaDoorW.PrintWords Go.Proofs.YtecimagjeelgbaaDoorW.PrintLast Go.Proofs.YtecimagjeelgbaaDoorW.PrintMore Go.Proofs.YtecimagjeelgbaaDoor.TT

def haveF (ks : List ByteArray) : List ByteArray := keptL (ks.drop 1)
theorem row_C {T : TypeId} {w : World} {b : Nat} {ks : List ByteArray} (h : KA T w b ks) : Kd.C Kd.string w (some ⟨b, 1, none⟩) (ks.drop 1).length (ks.drop 1) := by
  refine Kd.C_of_reads (d := ByteArray.empty) ⟨rfl, by have := h.2; simp; omega, fun _ => ⟨_, rfl, fun j hj => ?_⟩⟩
  have hl := h.2
  rw [List.length_drop] at hj
  have hc := h.cell (j := 1 + j) (by omega)
  have e : (ks.drop 1).getD j ByteArray.empty = key ks (1 + j) := by unfold key; simp [List.getD_eq_getElem?_getD, List.getElem?_drop, Nat.add_comm]
  rw [e, show (⟨b, 1, none⟩ : Addr).add j = ⟨b, 1 + j, none⟩ by first | rfl | simp [Addr.add]]
  exact hc
set_option maxHeartbeats 4000000 in
set_option maxRecDepth 100000 in
theorem have_any (ks : List ByteArray) (hl : ks.length = 32) (w : World) :
    Calls Tryd.prog 20 #[KV ks] w fun e w' => ∃ v, e = .returned v ∧ Kd.R Kd.string 25 w' w.heap.size (fun _ => True) v (haveF ks) ∧ RowKit.Below w.heap.size w w' := by
  have hca := cells_agg ks
  have hdl : (ks.drop 1).length = 31 := by simp [hl]
  unfold KV
  go_enter Tryd.func20, Tryd.ntmps20
  have HK := Lib.hid (KA.new 30 w ks hl (ks.map Value.string).toArray rfl)
  have HB := Lib.hid ((RowKit.Below.refl w.heap.size w).alloc (Nat.le_refl _) (.cells (ks.map Value.string).toArray 30))
  go_wp2_with fail
  generalize w.alloc (.cells (ks.map Value.string).toArray 30) = W at HK HB ⊢
  have hcl := clone_any ⟨w.heap.size, 1, none⟩ 31 (ks.drop 1) W (row_C HK.out) (by omega) (by omega)
  rw [hdl] at hcl
  refine hcl.mono ?_
  rintro e w2 ⟨v, rfl, hr, hb⟩
  have HB2 := Lib.hid (HB.out.trans (hb.mono HB.out.size))
  have HS := Lib.hid (SRow.ofR (Kd.R_lower hr HB.out.size))
  clear hb hcl
  obtain ⟨ad, c, ev⟩ := Kd.R_slice1 hr (by omega)
  subst ev
  obtain ⟨g, eg⟩ := Kd.R_head hr
  subst eg
  clear hr
  have hd := delete_any g c (ks.drop 1) w2 HS.out (by omega) (by intro h; rw [h] at hdl; cases hdl)
  go_wp2_with fail
  rw [hdl] at hd
  refine hd.mono ?_
  rintro e w3 ⟨v2, rfl, hs, hg⟩
  have HB3 := Lib.hid (HB2.out.grown hg HB2.out.size (by
    intro k hk
    injection hk with hk
    subst hk
    exact own_base HS.out g rfl))
  have HS3 := Lib.hid hs.toR
  clear hd hg hs HS HB2
  go_wp2_with fail
  go_ret
  exact ⟨_, rfl, HS3.out, HB3.out⟩
end Go.Proofs.YtecimagjeelgbaaDoor.Pr

/- alive: the facts. -/
set_option linter.unusedVariables false
set_option linter.unusedSimpArgs false
namespace Go.Proofs.YtecimagjeelgbaaDoor.Pr
open Go.RowKit Go.Proofs.YtecimagjeelgbaaDoorW.PrintWords Go.Proofs.YtecimagjeelgbaaDoorW.PrintLast Go.Proofs.YtecimagjeelgbaaDoorW.PrintMore Go.Proofs.YtecimagjeelgbaaDoor.TT

def alG : List ByteArray × Bool := grownF 3
def alX : List ByteArray × List ByteArray × Int := rekeyF 3 1 alG.1 50
def alA : List ByteArray × Nat := learnF (ownF alG.1 (pathI 0)) alX.2.1
def alB : List ByteArray × Nat := learnF (ownF alG.1 (pathI 1)) alX.2.1
theorem al_all : (alG.2 && decide (alX.2.2 = 0) && decide (alX.2.1.length = 4) && decide (alA.2 = 4) && decide (alB.2 = 0) && decide (key alA.1 1 = key alX.1 1) && decide (key alX.1 1 = nonceN 53) && decide (key alX.1 17 = ⟨#[]⟩) && decide ((haveF alA.1).length = 5)) = true := by decide +kernel
theorem al_ex : ∃ (g x l a b : List ByteArray), g.length = 32 ∧ x.length = 32 ∧ a.length = 32 ∧ b.length = 32 ∧ l.length = 4 ∧ grownF 3 = (g, true) ∧ rekeyF 3 1 g 50 = (x, l, 0) ∧ learnF (ownF g (pathI 0)) l = (a, 4) ∧ learnF (ownF g (pathI 1)) l = (b, 0) ∧ key a 1 = key x 1 ∧ key x 1 = nonceN 53 ∧ key x 17 = ⟨#[]⟩ ∧ (haveF a).length = 5 := by
  have h := al_all
  simp only [Bool.and_eq_true, decide_eq_true_eq] at h
  obtain ⟨⟨⟨⟨⟨⟨⟨⟨h1, h2⟩, h3⟩, h4⟩, h5⟩, h6⟩, h7⟩, h8⟩, h9⟩ := h
  refine ⟨alG.1, alX.1, alX.2.1, alA.1, alB.1, grownF_len 3, rekeyF_len _ _ _ _, learnF_len (ownF_len _ _) _, learnF_len (ownF_len _ _) _, h3, ?_, ?_, ?_, ?_, h6, h7, h8, h9⟩
  · rw [← h1]; rfl
  · rw [← h2]; rfl
  · rw [← h4]; rfl
  · rw [← h5]; rfl
theorem KA.range {T : TypeId} {w : World} {b : Nat} {ks : List ByteArray} (h : KA T w b ks) : w.rangeAt b 0 (ks.map Value.string) := by
  intro j v hv
  rw [cell_of_row w b (0 + j) _ T (0, 0) h.1, Nat.zero_add]
  simpa using hv
end Go.Proofs.YtecimagjeelgbaaDoor.Pr

/- alive: its contract. -/
set_option linter.unusedVariables false
set_option linter.unusedSimpArgs false
namespace Go.Proofs.YtecimagjeelgbaaDoor.Pr
open Go.RowKit Go.Proofs.YtecimagjeelgbaaDoorW.PrintWords Go.Proofs.YtecimagjeelgbaaDoorW.PrintLast Go.Proofs.YtecimagjeelgbaaDoorW.PrintMore Go.Proofs.YtecimagjeelgbaaDoor.TT

set_option maxHeartbeats 4000000 in
set_option maxRecDepth 100000 in
theorem alive_any (w : World) (HT0 : TabAt w) :
    Calls Tryd.prog 8 #[] w fun e w' => e = .returned (.bool true) ∧ RowKit.Below w.heap.size w w' := by
  obtain ⟨g, x, l, a, b, lg, lx, la, lb, ll, eg, ex, ea, eb, f1, f2, f3, f4⟩ := al_ex
  have hz := zero30
  have hcz := cellsZ
  have hg := fun w HT => grown_any 3 (by decide) w HT
  have hx := fun w HT => rekey_any g lg 3 1 (by decide) (by decide) 50 (by decide) w HT
  have ho0 := fun w => own_any g lg 0 (by decide) (by decide) w
  have ho1 := fun w => own_any g lg 1 (by decide) (by decide) w
  have ha := fun A cp w hr hc => learn_any (ownF g (pathI 0)) (ownF_len _ _) A cp l (by omega) w hr hc
  have hb := fun A cp w hr hc => learn_any (ownF g (pathI 1)) (ownF_len _ _) A cp l (by omega) w hr hc
  have hh := fun w => have_any a la w
  simp only [show ((3 : Nat) : Int) = 3 from rfl, show ((1 : Nat) : Int) = 1 from rfl, show ((50 : Nat) : Int) = 50 from rfl, eg, ex, ea, eb, ll] at hg hx ha hb
  simp only [show ((4 : Nat) : Int) = 4 from rfl, show ((0 : Nat) : Int) = 0 from rfl] at ha hb
  have hn := fun w => nonce_calls 53 w
  rw [f2] at f1
  generalize nonceN 53 = n at hn f1 f2
  generalize ownF g (pathI 0) = o0 at ho0 ha
  generalize ownF g (pathI 1) = o1 at ho1 hb
  generalize haveF a = hv at hh f4
  clear eg ex ea eb
  go_enter Tryd.func8, Tryd.ntmps8
  go_wp2_with fail
  refine (hg w HT0).mono ?_
  rintro e w1 ⟨rfl, hb1⟩
  have HB := Lib.hid hb1
  clear hb1
  have HN0 := Lib.hid (KA.new 30 w1 noKeys noKeys_len Z32 rfl)
  have HBN := Lib.hid (HB.out.alloc HB.out.size (.cells Z32 30))
  have hsza : w.heap.size ≤ w1.heap.size := HB.out.size
  go_wp2_with (first | (refine wpList_store_row rfl 30 (.tmp 1) (.tmp 12) rfl _ _ rfl rfl _ _ HN0.out.1 (size_info _ g lg s30) (by rw [KA.rowSize HN0.out.2, KA.rowSize lg]) (one_string _) ?_; have HK1 := Lib.hid (HN0.out.row g lg); have HB1 := Lib.hid (below_setRow HBN.out hsza (g.map Value.string).toArray); clear HN0 HBN HB; generalize (w1.alloc (.cells Z32 30)).setRow w1.heap.size (g.map Value.string).toArray = Va at HK1 HB1 ⊢) | (refine wpList_load_row rfl 30 (.tmp 1) rfl _ rfl _ _ _ _ HK1.out.1 Tryd.underlying30 rfl (size_info _ _ HK1.out.2 s30) ?_))
  refine (hx _ (TabAt.below HT0 (Nat.le_refl _) HB1.out)).mono ?_
  rintro e w2 ⟨v, rfl, hr, hb2⟩
  have HL := Lib.hid (Kd.R_lower hr HB1.out.size)
  clear hr
  have HK := Lib.hid (HK1.out.after hb2)
  have HB := Lib.hid (HB1.out.trans (hb2.mono HB1.out.size))
  clear HK1 HB1 hb2
  obtain ⟨A, cp, ev⟩ := Kd.R_slice HL.out
  subst ev
  have HN0 := Lib.hid (KA.new 30 w2 noKeys noKeys_len Z32 rfl)
  have HBN := Lib.hid (HB.out.alloc HB.out.size (.cells Z32 30))
  have hszb : w.heap.size ≤ w2.heap.size := HB.out.size
  have hneKb : w1.heap.size < w2.heap.size := HK.out.lt
  have HNK := Lib.hid (HK.out.alloc (.cells Z32 30))
  have HNL := Lib.hid (Kd.R_alloc HL.out (.cells Z32 30))
  go_wp2_with (first | (refine wpList_store_row rfl 30 (.tmp 3) (.tmp 17) rfl _ _ rfl rfl _ _ HN0.out.1 (size_info _ x lx s30) (by rw [KA.rowSize HN0.out.2, KA.rowSize lx]) (one_string _) ?_; have HX1 := Lib.hid (HN0.out.row x lx); have HB1 := Lib.hid (below_setRow HBN.out hszb (x.map Value.string).toArray); have HK1 := Lib.hid (HNK.out.setRow_other (show w1.heap.size ≠ w2.heap.size by omega) (x.map Value.string).toArray); have HL1 := Lib.hid (rowR_setRow HNL.out HN0.out.1 (x.map Value.string).toArray); clear HN0 HBN HB HNK HK HNL HL; generalize (w2.alloc (.cells Z32 30)).setRow w2.heap.size (x.map Value.string).toArray = Vb at HK1 HX1 HB1 HL1 ⊢) | (refine wpList_load_row rfl 30 (.tmp 1) rfl _ rfl _ _ _ _ HK1.out.1 Tryd.underlying30 rfl (size_info _ _ HK1.out.2 s30) ?_))
  refine (ho0 _).mono ?_
  rintro e w3 ⟨rfl, hb3⟩
  have HK := Lib.hid (HK1.out.after hb3)
  have HX := Lib.hid (HX1.out.after hb3)
  have HB := Lib.hid (HB1.out.trans (hb3.mono HB1.out.size))
  have HL := Lib.hid (Kd.R_below HL1.out hb3)
  clear HK1 HX1 HB1 HL1 hb3
  go_wp2_with fail
  refine (ha A cp w3 (by have := (Kd.R_reads' HL.out).2.2; rw [ll] at this; exact this) (by have := (Kd.R_reads' HL.out).2.1; omega)).mono ?_
  rintro e w4 ⟨rfl, hb4⟩
  replace HK := Lib.hid (HK.out.after hb4)
  replace HX := Lib.hid (HX.out.after hb4)
  replace HL := Lib.hid (Kd.R_below HL.out hb4)
  replace HB := Lib.hid (HB.out.trans (hb4.mono HB.out.size))
  clear hb4
  have HN0 := Lib.hid (KA.new 30 w4 noKeys noKeys_len Z32 rfl)
  have HBN := Lib.hid (HB.out.alloc HB.out.size (.cells Z32 30))
  have hszc : w.heap.size ≤ w4.heap.size := HB.out.size
  have hneKc : w1.heap.size < w4.heap.size := HK.out.lt
  have HNK := Lib.hid (HK.out.alloc (.cells Z32 30))
  have hneXc : w2.heap.size < w4.heap.size := HX.out.lt
  have HNX := Lib.hid (HX.out.alloc (.cells Z32 30))
  have HNL := Lib.hid (Kd.R_alloc HL.out (.cells Z32 30))
  go_wp2_with (first | (refine wpList_store_row rfl 30 (.tmp 6) (.tmp 25) rfl _ _ rfl rfl _ _ HN0.out.1 (size_info _ a la s30) (by rw [KA.rowSize HN0.out.2, KA.rowSize la]) (one_string _) ?_; have HA1 := Lib.hid (HN0.out.row a la); have HB1 := Lib.hid (below_setRow HBN.out hszc (a.map Value.string).toArray); have HK1 := Lib.hid (HNK.out.setRow_other (show w1.heap.size ≠ w4.heap.size by omega) (a.map Value.string).toArray); have HX1 := Lib.hid (HNX.out.setRow_other (show w2.heap.size ≠ w4.heap.size by omega) (a.map Value.string).toArray); have HL1 := Lib.hid (rowR_setRow HNL.out HN0.out.1 (a.map Value.string).toArray); clear HN0 HBN HB HNK HK HNX HX HNL HL; generalize (w4.alloc (.cells Z32 30)).setRow w4.heap.size (a.map Value.string).toArray = Vc at HK1 HX1 HA1 HB1 HL1 ⊢) | (refine wpList_load_row rfl 30 (.tmp 1) rfl _ rfl _ _ _ _ HK1.out.1 Tryd.underlying30 rfl (size_info _ _ HK1.out.2 s30) ?_))
  refine (ho1 _).mono ?_
  rintro e w5 ⟨rfl, hb5⟩
  have HK := Lib.hid (HK1.out.after hb5)
  have HX := Lib.hid (HX1.out.after hb5)
  have HA := Lib.hid (HA1.out.after hb5)
  have HB := Lib.hid (HB1.out.trans (hb5.mono HB1.out.size))
  have HL := Lib.hid (Kd.R_below HL1.out hb5)
  clear HK1 HX1 HA1 HB1 HL1 hb5
  go_wp2_with fail
  refine (hb A cp w5 (by have := (Kd.R_reads' HL.out).2.2; rw [ll] at this; exact this) (by have := (Kd.R_reads' HL.out).2.1; omega)).mono ?_
  rintro e w6 ⟨rfl, hb6⟩
  replace HK := Lib.hid (HK.out.after hb6)
  replace HX := Lib.hid (HX.out.after hb6)
  replace HA := Lib.hid (HA.out.after hb6)
  replace HL := Lib.hid (Kd.R_below HL.out hb6)
  replace HB := Lib.hid (HB.out.trans (hb6.mono HB.out.size))
  clear hb6
  have HN0 := Lib.hid (KA.new 30 w6 noKeys noKeys_len Z32 rfl)
  have HBN := Lib.hid (HB.out.alloc HB.out.size (.cells Z32 30))
  have hszd : w.heap.size ≤ w6.heap.size := HB.out.size
  have hneKd : w1.heap.size < w6.heap.size := HK.out.lt
  have HNK := Lib.hid (HK.out.alloc (.cells Z32 30))
  have hneXd : w2.heap.size < w6.heap.size := HX.out.lt
  have HNX := Lib.hid (HX.out.alloc (.cells Z32 30))
  have hneAd : w4.heap.size < w6.heap.size := HA.out.lt
  have HNA := Lib.hid (HA.out.alloc (.cells Z32 30))
  have HNL := Lib.hid (Kd.R_alloc HL.out (.cells Z32 30))
  go_wp2_with (first | (refine wpList_store_row rfl 30 (.tmp 8) (.tmp 32) rfl _ _ rfl rfl _ _ HN0.out.1 (size_info _ b lb s30) (by rw [KA.rowSize HN0.out.2, KA.rowSize lb]) (one_string _) ?_; have HE1 := Lib.hid (HN0.out.row b lb); have HB1 := Lib.hid (below_setRow HBN.out hszd (b.map Value.string).toArray); have HK1 := Lib.hid (HNK.out.setRow_other (show w1.heap.size ≠ w6.heap.size by omega) (b.map Value.string).toArray); have HX1 := Lib.hid (HNX.out.setRow_other (show w2.heap.size ≠ w6.heap.size by omega) (b.map Value.string).toArray); have HA1 := Lib.hid (HNA.out.setRow_other (show w4.heap.size ≠ w6.heap.size by omega) (b.map Value.string).toArray); have HL1 := Lib.hid (rowR_setRow HNL.out HN0.out.1 (b.map Value.string).toArray); clear HN0 HBN HB HNK HK HNX HX HNA HA HNL HL; generalize (w6.alloc (.cells Z32 30)).setRow w6.heap.size (b.map Value.string).toArray = Vd at HK1 HX1 HA1 HE1 HB1 HL1 ⊢))
  have ca : Vd.cell? ⟨w4.heap.size, 1, none⟩ = some (.string n) := f1 ▸ HA1.out.cell (j := 1) (by omega)
  have cx : Vd.cell? ⟨w2.heap.size, 1, none⟩ = some (.string n) := f2 ▸ HX1.out.cell (j := 1) (by omega)
  have cy : Vd.cell? ⟨w2.heap.size, 17, none⟩ = some (.string ⟨#[]⟩) := f3 ▸ HX1.out.cell (j := 17) (by omega)
  have cr : Vd.rangeAt w4.heap.size 0 (a.map Value.string) := HA1.out.range
  have hla : (Tryd.prog.info? 30).map (·.size) = some (a.map Value.string).length := by rw [List.length_map, la]; exact s30
  have hua := Tryd.underlying30
  have HSt : ∀ w1 w' : World, (RowKit.Below Vd.heap.size Vd w1 ∧ w1.cell? ⟨w4.heap.size, 1, none⟩ = some (.string n) ∧ w1.cell? ⟨w2.heap.size, 1, none⟩ = some (.string n) ∧ w1.cell? ⟨w2.heap.size, 17, none⟩ = some (.string ⟨#[]⟩) ∧ w1.rangeAt w4.heap.size 0 (a.map Value.string)) → RowKit.Below w1.heap.size w1 w' →
      (RowKit.Below Vd.heap.size Vd w' ∧ w'.cell? ⟨w4.heap.size, 1, none⟩ = some (.string n) ∧ w'.cell? ⟨w2.heap.size, 1, none⟩ = some (.string n) ∧ w'.cell? ⟨w2.heap.size, 17, none⟩ = some (.string ⟨#[]⟩) ∧ w'.rangeAt w4.heap.size 0 (a.map Value.string)) := by
    rintro w1 w' ⟨h1, _⟩ hb
    have h6 := h1.trans (hb.mono h1.size)
    exact ⟨h6, (h6.cell (p := ⟨w4.heap.size, 1, none⟩) HA1.out.lt).trans ca, (h6.cell (p := ⟨w2.heap.size, 1, none⟩) HX1.out.lt).trans cx, (h6.cell (p := ⟨w2.heap.size, 17, none⟩) HX1.out.lt).trans cy, (HA1.out.after h6).range⟩
  have hB0 := RowKit.Below.refl Vd.heap.size Vd
  clear hg hx ho0 ho1 ha hb hz hcz HK1 HX1 HA1 HE1 HL1 f1 f2 f3
  go_region_held3 (fun w' => RowKit.Below Vd.heap.size Vd w' ∧ w'.cell? ⟨w4.heap.size, 1, none⟩ = some (.string n) ∧ w'.cell? ⟨w2.heap.size, 1, none⟩ = some (.string n) ∧ w'.cell? ⟨w2.heap.size, 17, none⟩ = some (.string ⟨#[]⟩) ∧ w'.rangeAt w4.heap.size 0 (a.map Value.string)) ((first | exact HSt Vd _ ⟨hB0, ca, cx, cy, cr⟩ ((RowKit.Below.refl _ _).drew) | exact HSt _ _ (by first | assumption | exact ⟨by assumption, by assumption, by assumption, by assumption, by assumption⟩) (by assumption) | go_keep)) ((first | (go_at_call 19; refine (hn _).mono ?_; rintro e w' ⟨rfl, hb⟩) | (go_at_call 20; refine (hh _).mono ?_; rintro e w' ⟨v, rfl, hr, hb⟩; obtain ⟨A', c', ev⟩ := Kd.R_slice hr; rw [f4] at ev; subst ev; clear hr)))
  rename_i hheld
  have HB2 := Lib.hid (HB1.out.trans (hheld.1.mono HB1.out.size))
  go_wp2_with fail
  go_ret
  exact ⟨rfl, HB2.out⟩
end Go.Proofs.YtecimagjeelgbaaDoor.Pr

/- Two arrays of texts are compared. -/
set_option linter.unusedVariables false
set_option linter.unusedSimpArgs false
namespace Go.Proofs.YtecimagjeelgbaaDoor.Pr
open Go.RowKit Go.Proofs.YtecimagjeelgbaaDoorW.PrintWords Go.Proofs.YtecimagjeelgbaaDoorW.PrintLast Go.Proofs.YtecimagjeelgbaaDoorW.PrintMore

theorem part_ks (ks : List ByteArray) (hl : ks.length = 32) (j : Nat) (hj : j < 32) (w : World) :
    (part 25 (ks.map Value.string).toArray j).run Tryd.prog w = .ok (.string (key ks j)) w := by
  have hjl : j < ks.length := by omega
  simp [part, go_sem, key, hjl]
theorem items_ks (ks : List ByteArray) (hl : ks.length = 32) (d : Nat) (w : World) : ∀ is : List Nat, (∀ i ∈ is, i < 32) →
    (Op.eqItems (d + 1) 25 1 (ks.map Value.string).toArray (ks.map Value.string).toArray is).run Tryd.prog w = .ok true w
  | [], _ => by simp [Op.eqItems]
  | i :: is, h => by
    have hi := h i (List.mem_cons_self ..)
    have ih := items_ks ks hl d w is (fun x hx => h x (List.mem_cons_of_mem _ hx))
    simp only [Op.eqItems, Sem.run_bind, Nat.mul_one, part_ks ks hl i hi, Result.andThen_ok, run_equalIn_string w d 25 _ _ Tryd.underlying25]
    simpa using ih
theorem eq_ks (T : TypeId) (hT : Tryd.prog.underlying T = some (.array 32 25)) (ks : List ByteArray) (hl : ks.length = 32) (w : World) :
    (binOp .eql T (.agg (ks.map Value.string).toArray) (.agg (ks.map Value.string).toArray)).run Tryd.prog w = .ok (.bool true) w := by
  obtain ⟨i, hi⟩ : ∃ i, Tryd.prog.info? 25 = some i := Option.isSome_iff_exists.1 (by kernel_rfl)
  rw [run_eql_struct, show (10000 : Nat) = 9998 + 1 + 1 from rfl, run_equalIn_array w (9998 + 1) _ _ hT hi, show Tryd.prog.cellsOf 25 = 1 from by kernel_rfl, items_ks ks hl 9998 w _ (fun i h => List.mem_range.1 h)]
  rfl
theorem ne_ks (T : TypeId) (hT : Tryd.prog.underlying T = some (.array 32 25)) (ks : List ByteArray) (hl : ks.length = 32) (w : World) :
    (binOp .neq T (.agg (ks.map Value.string).toArray) (.agg (ks.map Value.string).toArray)).run Tryd.prog w = .ok (.bool false) w := by
  obtain ⟨i, hi⟩ : ∃ i, Tryd.prog.info? 25 = some i := Option.isSome_iff_exists.1 (by kernel_rfl)
  rw [run_neq_struct, show (10000 : Nat) = 9998 + 1 + 1 from rfl, run_equalIn_array w (9998 + 1) _ _ hT hi, show Tryd.prog.cellsOf 25 = 1 from by kernel_rfl, items_ks ks hl 9998 w _ (fun i h => List.mem_range.1 h)]
  rfl
theorem guard30 : Tryd.prog.eqGuardType Tryd.prog.depth 30 = false := by kernel_rfl
theorem guard27 : Tryd.prog.eqGuardType Tryd.prog.depth 27 = false := by kernel_rfl
end Go.Proofs.YtecimagjeelgbaaDoor.Pr
