import Derived.Test.YtkmpfmhbkflgpaaGreatDoorCZEnd
import Derived.Test.YtkmpfmhbkflgpaaGreatDoorCZRek
import Derived.Test.YtkmpfmhbkflgpaaGreatDoorCPrxV
/- WholeSecret: its walk. Printed by gensec.py. -/
set_option linter.unusedVariables false
set_option linter.unusedSimpArgs false
namespace Go.Proofs.YtkmpfmhbkflgpaaGreatDoor.Pr
open Go.RowKit Go.Proofs.YtkmpfmhbkflgpaaGreatDoorW.PrintWords Go.Proofs.YtkmpfmhbkflgpaaGreatDoorW.PrintLast Go.Proofs.YtkmpfmhbkflgpaaGreatDoorW.PrintMore Go.Proofs.YtkmpfmhbkflgpaaGreatDoor.TT Go.Proofs.YtkmpfmhbkflgpaaGreatDoor.Kw

theorem has_calls (s id : Nat) (hs : s < 65536) (hi : id < 16) (w : World) :
    Calls Tryz.prog 11 #[.int .u16 (s : Int), .int .u8 (id : Int)] w fun e w' => e = .returned (.bool (bit s id)) ∧ RowKit.Below w.heap.size w w' := by
  obtain ⟨K, hK⟩ := has_f s id hs (by omega)
  have hb : hasB s id = bit s id := by unfold hasB; simp [hi]
  rw [← hb]
  exact (chantryref05_Has.calls K _ _ _ w (hK K (Nat.le_refl _))).mono (fun e w' h => ⟨h.1, by first | exact h.2 | exact h.2.below⟩)
theorem root_all : ((List.range 16).all fun id => (pathI (id : Int)).contains ((1 : Nat) : Int)) = true := by decide +kernel
theorem own_root (x : List ByteArray) {id : Nat} (hid : id < 16) : key (ownF x (pathI (id : Int))) 1 = key x 1 := by
  rw [ownF_key _ _ (fun n hn => by have := path_small hn; omega) 1 (by omega), if_pos (List.all_eq_true.1 root_all id (List.mem_range.2 hid))]
/-- A member that hears what is told has the root's key. -/
theorem learn_root {was is : Nat} (hw : was < 65536) (hi : is < 65536) {id : Nat} (hid : id < 16) (hb : bit is id = true) :
    key (learnF (hadF was id) (rekeyF (was : Int) (is : Int) (grownF (was : Int)).1 100).2.1).1 1 = key (rekeyF (was : Int) (is : Int) (grownF (was : Int)).1 100).1 1 := by
  have hgood := (grown_good was hw).2
  have h := members_learn (first := 100) hgood hw hi (by decide) (by decide) hid hb (hadF was id) (by
    unfold hadF
    cases hbw : bit was id with
    | true => exact .inl ⟨if_pos rfl, rfl⟩
    | false => exact .inr ⟨if_neg (by decide), rfl⟩)
  rw [h.1, own_root _ hid]
theorem isEmpty_eq {t : ByteArray} (h : isEmpty t = true) : t = ByteArray.empty := by
  unfold isEmpty at h
  rw [List.isEmpty_iff, ByteArray.toList_eq] at h
  exact ByteArray.ext (Array.ext' h)
theorem have_pos (was : Nat) {id : Nat} (hw : was < 65536) (hid : id < 16) : 1 ≤ (haveF (hadF was id)).length := by
  have hl := hadF_len was id
  have hP : ∀ n ∈ pathI (id : Int), 0 ≤ n ∧ n ≤ 31 := fun n hn => by have := path_small hn; omega
  have hon : (pathI (id : Int)).contains ((16 + id : Nat) : Int) = true := (way_at hid).2.1
  have hk : key (hadF was id) (16 + id) ≠ ByteArray.empty := by
    unfold hadF
    split
    · rw [ownF_key _ _ hP _ (by omega), if_pos hon, (grown_key hw (16 + id) (by omega) (by omega)).1 (.inl (by omega))]
      exact nonce_ne _ (by have := kn_range was (16 + id) (by omega); omega) (by have := kn_range was (16 + id) (by omega); omega)
    · rw [ownF_key _ _ hP _ (by omega), if_pos hon, good_leaves.leaf (16 + id) (by omega) (by omega)]
      exact nonce_ne _ (by omega) (by omega)
  refine List.length_pos_of_mem (a := key (hadF was id) (16 + id)) ?_
  unfold haveF keptL
  refine List.mem_filter.2 ⟨?_, ?_⟩
  · refine List.mem_iff_getElem.2 ⟨15 + id, by rw [List.length_drop]; omega, ?_⟩
    rw [List.getElem_drop]
    unfold key
    rw [List.getD_eq_getElem?_getD, List.getElem?_eq_getElem (by omega), Option.getD_some]
    congr 1
    omega
  · cases he : isEmpty (key (hadF was id) (16 + id)) with
    | false => rfl
    | true => exact absurd (isEmpty_eq he) hk
set_option maxRecDepth 100000 in
theorem append_more (base : Nat) (v : Value) (xs ys : List ByteArray) (W : World) (HH : Kd.R Kd.string 26 W base (fun _ => True) v xs) (ad : Addr) (c : Nat) (hr : Kd.C Kd.string W (some ad) ys.length ys) (hl : xs.length ≤ 1000) (hl2 : ys.length ≤ 1000) (hbase : base ≤ W.heap.size) (w0 : World) (hb : RowKit.Below base w0 W) (ty : TypeId) :
    ∃ v2 W2, (Builtin.append_ #[31, 31] ty #[v, .slice (some ad) ys.length c]).run Tryz.prog W = .ok v2 W2 ∧ RowKit.Below base w0 W2 ∧ Kd.R Kd.string 26 W2 base (fun _ => True) v2 (xs ++ ys) := by
  obtain ⟨i, hi, hz0, hz1, hz2⟩ := info_parts Rdr.infoT
  have h63 : maxLen = 9223372036854775807 := rfl
  have hown : W.ownsRow base 26 1 v xs.length (xs.map Value.string) := Kd.own_of_R HH
  have h1 : ∀ q ∈ ys.map Value.string, q.oneCell' = true := by
    intro u hu; obtain ⟨x, _, rfl⟩ := List.mem_map.1 hu; rfl
  have hcell : ∀ j u, (ys.map Value.string)[j]? = some u → W.cell? (ad.add j) = some u := by
    intro j u hj
    rw [List.getElem?_map] at hj
    obtain ⟨x, hx, rfl⟩ := Option.map_eq_some_iff.1 hj
    obtain ⟨hl2, rfl⟩ := List.getElem?_eq_some_iff.1 hx
    obtain ⟨ad2, h2, h3⟩ := Kd.at_string hr (j : Int) (by omega) (by omega)
    injection h2 with h2
    subst h2
    rw [Int.toNat_natCast] at h3
    rw [h3]
    simp [rdOf, hl2]
  obtain ⟨v2, W2, hrun2, hown2, hg2, _, _⟩ := run_append_own_at (P := Tryz.prog) (w := W) base 31 ty 26 i (.string ⟨#[]⟩) 1 16 Tryz.underlying31 hi hz0 hz1 hz2 rfl (by decide) v xs.length (xs.map Value.string) hown ad ys.length c (ys.map Value.string) (by simp) hcell h1 (by omega) (by omega) hbase
  rw [← List.map_append, ← List.length_append] at hown2
  exact ⟨v2, W2, hrun2, hb.grown hg2 hbase (fun k hk => (hown.lt k hk).1), Rdr.R_of_own hown2⟩
theorem ownsRow_lower {w : World} {a b : Nat} {e : TypeId} {size : Nat} {v : Value} {n : Nat} {xs : List Value} (h : w.ownsRow b e size v n xs) (hab : a ≤ b) : w.ownsRow a e size v n xs :=
  ⟨h.1, h.2.imp id fun ⟨g, cap, cur, h1, h2, h3⟩ => ⟨g, cap, cur, h1, Nat.le_trans hab h2, h3⟩⟩
theorem wpList_qq {ops : Array Oper} {rest : List Oper} {o : Oper} {a : Act} {Q : Exit → Act → World → Prop} {W W' : World} {v x v' : Value} (hgd : o.guard = none) (s q : Operand)
    (ho : o.op = Op.call { callee := Callee.builtin Builtin.append, args := #[s, q], argTypes := #[31, 31] }) (hs : a.eval s = v) (hx : a.eval q = x)
    (hrun : (Builtin.append_ #[31, 31] o.type #[v, x]).run Tryz.prog W = .ok v' W') (h : wpList Tryz.prog ops Q rest (a.put o.dst v') W') : wpList Tryz.prog ops Q (o :: rest) a W := by
  refine wpList_plain hgd fun K hK => ?_
  unfold Oper.wp execOp
  simp only [ho, resolve, invoke, builtin, Sem.run_bind, Sem.run_pure, Result.andThen_ok, List.map_toArray, List.map_cons, List.map_nil, hs, hx, hrun]
  exact hK _ _ h
theorem lit1 (w : World) (a : ByteArray) : Kd.C Kd.string (w.alloc (.cells #[.string a] 26 (0, 0))) (some ⟨w.heap.size, 0, none⟩) [a].length [a] := by
  refine Kd.C_of_reads (d := ByteArray.empty) ⟨rfl, by simp, fun _ => ⟨_, rfl, fun j hj => ?_⟩⟩
  obtain rfl : j = 0 := by simpa using hj
  exact blk_cell (blk_new w _) 0
/-- The sets lie in block b. -/
def Sets2 (w : World) (b : Nat) (s t : Nat) : Prop := w.heap[b]? = some (.cells #[.int .u16 (s : Int), .int .u16 (t : Int)] 24 (0, 0))
theorem Sets2.cells {w : World} {b s t : Nat} (h : Sets2 w b s t) : w.cell? ⟨b, 0, none⟩ = some (.int .u16 (s : Int)) ∧ w.cell? ⟨b, 1, none⟩ = some (.int .u16 (t : Int)) := ⟨cell_of_row w b 0 _ _ (0, 0) h, cell_of_row w b 1 _ _ (0, 0) h⟩
theorem Sets2.after {w w' : World} {b s t : Nat} (h : Sets2 w b s t) (hb : RowKit.Below w.heap.size w w') : Sets2 w' b s t := (hb.block b (Array.getElem?_eq_some_iff.1 h).1).trans h
attribute [local go_sem] beq_self_eq_true bne_self_eq_false   -- for this text's walk alone
set_option maxHeartbeats 16000000 in
set_option maxRecDepth 100000 in
theorem WholeSecret (was is view : Nat) (text : ByteArray) (hw : was < 65536) (hi : is < 65536) (hv : view < 65536) (w : World) (HT0 : TabAt w) :
    Calls Tryz.prog 3 #[.agg #[.int .u16 (was : Int), .int .u16 (is : Int)], .int .u16 (view : Int), .string text] w fun e w' => e = .returned (.bool true) ∧ RowKit.Below w.heap.size w w' := by
  have hz := zero30
  have hcz := cellsZ
  have HT1 := Lib.hid HT0
  clear HT0
  have hwk := works_any
  go_enter Tryz.func3, Tryz.ntmps3
  have HS := Lib.hid (show Sets2 (w.alloc (.cells #[.int .u16 (was : Int), .int .u16 (is : Int)] 24)) w.heap.size was is from heap_alloc_new w _)
  have HB := Lib.hid ((RowKit.Below.refl w.heap.size w).alloc (Nat.le_refl _) (.cells #[.int .u16 (was : Int), .int .u16 (is : Int)] 24))
  go_wp2_with fail
  generalize w.alloc (.cells #[.int .u16 (was : Int), .int .u16 (is : Int)] 24) = W at HS HB ⊢
  refine (hwk W).mono ?_
  rintro e w1 ⟨rfl, hb⟩
  replace HS := Lib.hid (HS.out.after hb); replace HB := Lib.hid (HB.out.trans (hb.mono HB.out.size)); clear hb
  obtain ⟨c0, c1⟩ := HS.out.cells
  go_wp2_with fail
  go_quiet (fail)
  have HBq := Lib.hid (Rdr.below_of_drewN HB.out nq)
  clear c0 c1 HB HS hwk
  generalize w1.drewN nq = w1 at HBq ⊢
  by_cases hbig : 1000 < view
  · have hge : (1000 : Int) < (view : Int) := by omega
    go_wp2_with fail
    go_ret
    exact ⟨rfl, HBq.out⟩
  have hnb : ¬ (1000 : Int) < (view : Int) := by omega
  have hnb' : (view : Int) ≤ 1000 := by omega
  by_cases hlong : 40 < text.size
  · have hge : (40 : Int) < (text.size : Int) := by omega
    go_wp2_with fail
    go_ret
    exact ⟨rfl, HBq.out⟩
  have hnl : ¬ (40 : Int) < (text.size : Int) := by omega
  have hnl' : (text.size : Int) ≤ 40 := by omega
  obtain ⟨g2, hgood⟩ := grown_good was hw
  have hgr := fun w HT => grown_any was hw w HT
  rw [g2] at hgr
  have lg := hgood.len
  have hrk := fun w HT => rekey_any (grownF (was : Int)).1 lg was is hw hi 100 (by decide) w HT
  simp only [show ((100 : Nat) : Int) = 100 from rfl] at hrk
  have hrg := rekey_good (first := 100) hgood hw hi (by decide) (by decide)
  have lx := rekeyF_len (was : Int) (is : Int) (grownF (was : Int)).1 100
  have hal := fun h => all_heard (was := was) (is := is) hw hi h (v := (view : Int)) (t := text) (by omega)
  have hlr := fun (id : Nat) (hid : id < 16) hb => learn_root (was := was) (is := is) hw hi (id := id) hid hb
  have he0 : (rekeyF (was : Int) (is : Int) (grownF (was : Int)).1 100).2.2 = 0 := by rw [hrg]
  have hll : (rekeyF (was : Int) (is : Int) (grownF (was : Int)).1 100).2.1.length ≤ 30 := by
    rw [hrg]
    have h1 := pairs_len (is : Int) (freshI (was : Int) (is : Int))
    have h2 := fresh_len (was : Int) (is : Int)
    simp only [List.length_map]
    omega
  have hhd := fun (id : Nat) => (show hadF was id = if bit was id then ownF (grownF (was : Int)).1 (pathI (id : Int)) else ownF leavesL (pathI (id : Int)) from rfl)
  clear g2 hgood hrg
  generalize rekeyF (was : Int) (is : Int) (grownF (was : Int)).1 100 = X at hrk hal hlr lx he0 hll
  generalize (grownF (was : Int)).1 = g at hgr hrk lg hhd
  obtain ⟨x, l, er⟩ := X
  dsimp only at hrk hal hlr lx he0 hll
  subst he0
  have HAL := Lib.hid hal; have HLR := Lib.hid hlr; have HHD := Lib.hid hhd
  clear hal hlr hhd
  unfold KV at hgr hrk
  go_wp2_with fail
  refine (hgr w1 (TabAt.below HT1.out (Nat.le_refl _) HBq.out)).mono ?_
  rintro e w2 ⟨rfl, hb⟩
  have HB := Lib.hid (HBq.out.trans (hb.mono HBq.out.size))
  clear hb hgr HBq
  have HN := Lib.hid (KA.new 28 w2 noKeys noKeys_len Z32 rfl)
  have HB3 := Lib.hid (HB.out.alloc HB.out.size (.cells Z32 28))
  have hsz2 := HB.out.size
  clear HB
  go_wp2_with (first | (refine wpList_store_row rfl 28 (.tmp 9) (.tmp 50) rfl _ _ rfl rfl _ _ HN.out.1 (size_info _ g lg s30) (by rw [KA.rowSize HN.out.2, KA.rowSize lg]) (one_string _) ?_; have HG := Lib.hid (HN.out.row g lg); have HB := Lib.hid (below_setRow HB3.out hsz2 (g.map Value.string).toArray); clear HN HB3; generalize (w2.alloc (.cells Z32 28)).setRow w2.heap.size (g.map Value.string).toArray = V at HG HB ⊢) | (refine wpList_load_row rfl 28 (.tmp 9) rfl _ rfl _ _ _ _ HG.out.1 Tryz.underlying28 rfl (size_info _ _ HG.out.2 s30) ?_))
  refine (hrk V (TabAt.below HT1.out (Nat.le_refl _) HB.out)).mono ?_
  rintro e w3 ⟨v, rfl, hr, hb⟩
  have HL := Lib.hid (Kd.R_lower hr HB.out.size)
  replace HG := Lib.hid (HG.out.after hb); replace HB := Lib.hid (HB.out.trans (hb.mono HB.out.size))
  clear hb hr hrk
  obtain ⟨A, cp, ev⟩ := Kd.R_slice HL.out
  subst ev
  have HN := Lib.hid (KA.new 28 w3 noKeys noKeys_len Z32 rfl)
  have HB3 := Lib.hid (HB.out.alloc HB.out.size (.cells Z32 28))
  have HG3 := Lib.hid (HG.out.alloc (.cells Z32 28))
  have HL3 := Lib.hid (Kd.R_alloc HL.out (.cells Z32 28))
  have hsz3 := HB.out.size
  have hgl : w2.heap.size < w3.heap.size := HG.out.lt
  clear HB HG HL
  by_cases h1 : is = 0
  · have hb1 : ((is : Int) == 0) = true := by simp [h1]
    go_wp2_with (first | (refine wpList_store_row rfl 28 (.tmp 11) (.tmp 57) rfl _ _ rfl rfl _ _ HN.out.1 (size_info _ x lx s30) (by rw [KA.rowSize HN.out.2, KA.rowSize lx]) (one_string _) ?_; have HX := Lib.hid (HN.out.row x lx); have HG := Lib.hid (HG3.out.setRow_other (show w2.heap.size ≠ w3.heap.size by omega) (x.map Value.string).toArray); have HL := Lib.hid (rowR_setRow HL3.out HN.out.1 (x.map Value.string).toArray); have HB := Lib.hid (below_setRow HB3.out hsz3 (x.map Value.string).toArray); clear HN HB3 HG3 HL3; generalize (w3.alloc (.cells Z32 28)).setRow w3.heap.size (x.map Value.string).toArray = V3 at HX HG HL HB ⊢; generalize w3.heap.size = bx at hgl HX ⊢))
    go_ret
    exact ⟨rfl, HB.out⟩
  have hb1 : ((is : Int) == 0) = false := by simp; omega
  by_cases h2 : was = is
  · have hb2 : ((was : Int) == (is : Int)) = true := by simp [h2]
    go_wp2_with (first | (refine wpList_store_row rfl 28 (.tmp 11) (.tmp 57) rfl _ _ rfl rfl _ _ HN.out.1 (size_info _ x lx s30) (by rw [KA.rowSize HN.out.2, KA.rowSize lx]) (one_string _) ?_; have HX := Lib.hid (HN.out.row x lx); have HG := Lib.hid (HG3.out.setRow_other (show w2.heap.size ≠ w3.heap.size by omega) (x.map Value.string).toArray); have HL := Lib.hid (rowR_setRow HL3.out HN.out.1 (x.map Value.string).toArray); have HB := Lib.hid (below_setRow HB3.out hsz3 (x.map Value.string).toArray); clear HN HB3 HG3 HL3; generalize (w3.alloc (.cells Z32 28)).setRow w3.heap.size (x.map Value.string).toArray = V3 at HX HG HL HB ⊢; generalize w3.heap.size = bx at hgl HX ⊢))
    go_ret
    exact ⟨rfl, HB.out⟩
  have hb2 : ((was : Int) == (is : Int)) = false := by simp; omega
  obtain ⟨b, hbr, hkb, hd1, hd2⟩ := HAL.out h1
  have HD1 := Lib.hid hd1; have HD2 := Lib.hid hd2; have HKB := Lib.hid hkb
  have heb := epoch_calls (view : Int) b (by omega) (by omega) hbr
  have hse := seal_calls (view : Int) b (by omega) (by omega) text (by omega)
  have hop := opened_calls (view : Int) b (by omega) (by omega) text (by omega)
  have hcv : IntKind.i64.wrap (view : Int) = (view : Int) := by simp only [IntKind.wrap, IntKind.bits, IntKind.signed]; simp; omega
  clear hd1 hd2 hkb h1 h2 HAL
  go_upto_region 10 with (first | (refine wpList_store_row rfl 28 (.tmp 11) (.tmp 57) rfl _ _ rfl rfl _ _ HN.out.1 (size_info _ x lx s30) (by rw [KA.rowSize HN.out.2, KA.rowSize lx]) (one_string _) ?_; have HX := Lib.hid (HN.out.row x lx); have HG := Lib.hid (HG3.out.setRow_other (show w2.heap.size ≠ w3.heap.size by omega) (x.map Value.string).toArray); have HL := Lib.hid (rowR_setRow HL3.out HN.out.1 (x.map Value.string).toArray); have HB := Lib.hid (below_setRow HB3.out hsz3 (x.map Value.string).toArray); clear HN HB3 HG3 HL3; generalize (w3.alloc (.cells Z32 28)).setRow w3.heap.size (x.map Value.string).toArray = V3 at HX HG HL HB ⊢; generalize w3.heap.size = bx at hgl HX ⊢))
  have cx := HX.out.cell (j := 1) (by omega)
  rw [HKB.out] at cx
  clear hz hcz
  have hz := zero30
  have hcz := cellsZ
  go_wp2_with fail
  refine (heb V3).mono ?_
  rintro e w4 ⟨rfl, hb⟩
  replace HG := Lib.hid (HG.out.after hb); replace HL := Lib.hid (Kd.R_below HL.out hb); replace HB := Lib.hid (HB.out.trans (hb.mono HB.out.size)); clear hb
  clear cx HX
  have HE := Lib.hid (show EpAt (w4.alloc (.cells #[.int .i64 (view : Int), .string (eTm (view : Int) b).str] 36)) w4.heap.size (view : Int) (eTm (view : Int) b).str from heap_alloc_new w4 _)
  replace HG := Lib.hid (HG.out.after ((RowKit.Below.refl _ _).alloc (Nat.le_refl _) (.cells #[.int .i64 (view : Int), .string (eTm (view : Int) b).str] 36))); replace HL := Lib.hid (Kd.R_alloc HL.out (.cells #[.int .i64 (view : Int), .string (eTm (view : Int) b).str] 36)); replace HB := Lib.hid (HB.out.alloc HB.out.size (.cells #[.int .i64 (view : Int), .string (eTm (view : Int) b).str] 36))
  obtain ⟨e0, e1⟩ := HE.out.cells
  go_wp2_with fail
  generalize w4.alloc (.cells #[.int .i64 (view : Int), .string (eTm (view : Int) b).str] 36) = V4 at HE HG HL HB e0 e1 ⊢
  generalize w4.heap.size = be at HE e0 e1 ⊢
  refine (hse V4).mono ?_
  rintro e w5 ⟨rfl, hb⟩
  replace HG := Lib.hid (HG.out.after hb); replace HE := Lib.hid (HE.out.after hb); replace HL := Lib.hid (Kd.R_below HL.out hb); replace HB := Lib.hid (HB.out.trans (hb.mono HB.out.size)); clear hb
  clear e0 e1 hse
  have HSE := Lib.hid (show SeAt (w5.alloc (.cells #[.int .i64 (view : Int), .string (sTm (view : Int) b text).str] 40)) w5.heap.size (view : Int) (sTm (view : Int) b text).str from heap_alloc_new w5 _)
  replace HG := Lib.hid (HG.out.after ((RowKit.Below.refl _ _).alloc (Nat.le_refl _) (.cells #[.int .i64 (view : Int), .string (sTm (view : Int) b text).str] 40))); replace HE := Lib.hid (HE.out.after ((RowKit.Below.refl _ _).alloc (Nat.le_refl _) (.cells #[.int .i64 (view : Int), .string (sTm (view : Int) b text).str] 40))); replace HL := Lib.hid (Kd.R_alloc HL.out (.cells #[.int .i64 (view : Int), .string (sTm (view : Int) b text).str] 40)); replace HB := Lib.hid (HB.out.alloc HB.out.size (.cells #[.int .i64 (view : Int), .string (sTm (view : Int) b text).str] 40))
  obtain ⟨s0, s1⟩ := HSE.out.cells
  go_upto_region 16 with fail
  generalize w5.alloc (.cells #[.int .i64 (view : Int), .string (sTm (view : Int) b text).str] 40) = V5 at HE HSE HG HL HB s0 s1 ⊢
  generalize w5.heap.size = bs at HSE s0 s1 ⊢
  have HSt : ∀ w' : World, RowKit.Below V5.heap.size V5 w' → (RowKit.Below V5.heap.size V5 w' ∧ w'.cell? ⟨bs, 1, none⟩ = some (.string (sTm (view : Int) b text).str)) := fun w' h => ⟨h, (h.cell (p := ⟨bs, 1, none⟩) HSE.out.lt).trans HSE.out.cells.2⟩
  clear s0 s1
  go_cut [18] (fun p wc => RowKit.Below V5.heap.size V5 wc ∧ Kd.R Kd.string 26 wc V5.heap.size (fun _ => True) p (l ++ [(sTm (view : Int) b text).str]))
  case first =>
    refine wp_region_noPanic ?_
    refine wp_region_held_drew (S := (fun w' => RowKit.Below V5.heap.size V5 w' ∧ w'.cell? ⟨bs, 1, none⟩ = some (.string (sTm (view : Int) b text).str))) (by kernel_rfl) (HSt _ ((RowKit.Below.refl _ _).drew)) (fun hHeld => ?_)
    refine wpAnyH_take (oi := ⟨_, _, _, _, _, _⟩) (i := 0) (v := ?_) rfl (by kernel_rfl) (by kernel_rfl) (by kernel_rfl) (fun _ _ _ h => h) (Or.inl ⟨by rfl, ?_⟩) (by assumption) ?_
    rotate_left
    · intro w hSw; (try dsimp only at hSw); first | (go_simp; done) | (go_simp; with_reducible rfl)
    try simp only [Act.put, List.setIfInBounds_toArray, List.set_cons_zero, List.set_cons_succ]
    refine wpAnyH_take (oi := ⟨_, _, _, _, _, _⟩) (i := 2) (v := ?_) rfl (by kernel_rfl) (by kernel_rfl) (by kernel_rfl) (fun _ _ _ h => h) (Or.inl ⟨by rfl, ?_⟩) (by assumption) ?_
    rotate_left
    · intro w hSw; (try dsimp only at hSw); first | (go_simp; done) | (go_simp; with_reducible rfl)
    try simp only [Act.put, List.setIfInBounds_toArray, List.set_cons_zero, List.set_cons_succ]
    refine wpAnyH_take (oi := ⟨_, _, _, _, _, _⟩) (i := 3) (v := ?_) rfl (by kernel_rfl) (by kernel_rfl) (by kernel_rfl) (fun _ _ _ h => h) (Or.inl ⟨by rfl, ?_⟩) (by assumption) ?_
    rotate_left
    · intro w hSw; (try dsimp only at hSw); first | (go_simp; done) | (go_simp; with_reducible rfl)
    try simp only [Act.put, List.setIfInBounds_toArray, List.set_cons_zero, List.set_cons_succ]
    refine wpAnyH_ready (rs := [1, 4]) (by kernel_rfl) (by simp) ?_
    refine AllReadyH.cons (o := ⟨_, _, _, _, _, _⟩) rfl (fun K hK => ?_) ?_
    · obtain ⟨A1, c1, W1, hrun1, hb1, hown1⟩ := copy_first A cp l _ (Kd.R_reads' (Kd.R_below HL.out hHeld.1)).2.2 (by omega) 31
      have hown2 : W1.ownsRow V5.heap.size 26 1 (.slice A1 l.length c1) l.length (l.map Value.string) := hown1
      refine step_qq (by rfl) (.const (.slice none 0 0)) (.tmp 93) rfl rfl rfl hrun1 ?_
      refine hK.out _ _ (HSt _ (hHeld.1.trans (hb1.mono hHeld.1.size))) (fun hHeld => ?_)
      clear hK K
      try simp only [Act.put, List.setIfInBounds_toArray, List.set_cons_zero, List.set_cons_succ]
      refine wpAnyH_ready (rs := [4]) (by kernel_rfl) (by simp) ?_
      refine AllReadyH.cons (o := ⟨_, _, _, _, _, _⟩) rfl (fun K hK => ?_) AllReadyH.nil
      go_simp
      have hown3 := hown2.alloc (.cells #[.string (sTm (view : Int) b text).str] 26)
      have hcl : (W1.alloc (.cells #[.string (sTm (view : Int) b text).str] 26)).cell? ((⟨W1.heap.size, 0, none⟩ : Addr).add 0) = some (.string (sTm (view : Int) b text).str) := by rw [Addr.add_mid]; exact cell_of_row _ _ 0 _ _ (0, 0) (heap_alloc_new W1 _)
      refine hK.out _ _ (HSt _ (hHeld.1.alloc hHeld.1.size (.cells #[.string (sTm (view : Int) b text).str] 26))) (fun hHeld => ?_)
      clear hK K
      try simp only [Act.put, List.setIfInBounds_toArray, List.set_cons_zero, List.set_cons_succ]
      refine wpAnyH_ready (rs := [5]) (by kernel_rfl) (by simp) ?_
      refine AllReadyH.cons (o := ⟨_, _, _, _, _, _⟩) rfl (fun K hK => ?_) AllReadyH.nil
      obtain ⟨A2, c2, W2, hrun2, hb2, hown4, _, _⟩ := append_text V5.heap.size A1 c1 l (sTm (view : Int) b text).str _ hown3 (by omega) _ hcl hHeld.1.size V5 hHeld.1 31
      refine step_qq (by rfl) (.tmp 94) (.tmp 97) rfl rfl rfl hrun2 ?_
      refine hK.out _ _ (HSt _ (hb2)) (fun hHeld => ?_)
      clear hK K
      try simp only [Act.put, List.setIfInBounds_toArray, List.set_cons_zero, List.set_cons_succ]
      refine wpAnyH_take (oi := ⟨_, _, _, _, _, _⟩) (i := 6) (v := ?_) rfl (by kernel_rfl) (by kernel_rfl) (by kernel_rfl) (fun _ _ _ h => h) (Or.inl ⟨by rfl, ?_⟩) (by assumption) ?_
      rotate_left
      · intro w hSw; (try dsimp only at hSw); first | (go_simp; done) | (go_simp; with_reducible rfl)
      try simp only [Act.put, List.setIfInBounds_toArray, List.set_cons_zero, List.set_cons_succ]
      refine wpAnyH_done (by kernel_rfl) ?_ _
      refine NoPanic.normal ?_
      have hRR : Kd.R Kd.string 26 W2 V5.heap.size (fun _ => True) (.slice A2 (l.length + 1) c2) (l ++ [(sTm (view : Int) b text).str]) := Rdr.R_of_own (l := l ++ [(sTm (view : Int) b text).str]) (by rw [List.length_append, List.length_singleton]; exact hown4)
      have h1 := hHeld.1
      try go_wp2_with fail
      go_meet
      case rel => exact ⟨h1, hRR⟩
    · refine AllReadyH.cons (o := ⟨_, _, _, _, _, _⟩) rfl (fun K hK => ?_) AllReadyH.nil
      go_simp
      have hb0_ := ((RowKit.Below.refl V5.heap.size V5).alloc (Nat.le_refl _) (.cells #[.string (sTm (view : Int) b text).str] 26)).drew
      have hcl0 : (V5.alloc (.cells #[.string (sTm (view : Int) b text).str] 26)).drew.cell? ⟨V5.heap.size, 0, none⟩ = some (.string (sTm (view : Int) b text).str) := cell_of_row (V5.alloc (.cells #[.string (sTm (view : Int) b text).str] 26)) _ 0 _ _ (0, 0) (heap_alloc_new V5 _)
      have hbl0 : V5.heap.size < (V5.alloc (.cells #[.string (sTm (view : Int) b text).str] 26)).drew.heap.size := by simp [World.drew]
      refine hK.out _ _ (HSt _ (hb0_)) (fun hHeld => ?_)
      clear hK K
      try simp only [Act.put, List.setIfInBounds_toArray, List.set_cons_zero, List.set_cons_succ]
      generalize (V5.alloc (.cells #[.string (sTm (view : Int) b text).str] 26)).drew = Wa at hHeld hcl0 hbl0 ⊢
      refine wpAnyH_ready (rs := [1]) (by kernel_rfl) (by simp) ?_
      refine AllReadyH.cons (o := ⟨_, _, _, _, _, _⟩) rfl (fun K hK => ?_) AllReadyH.nil
      obtain ⟨A1, c1, W1, hrun1, hb1, hown1⟩ := copy_first A cp l _ (Kd.R_reads' (Kd.R_below HL.out hHeld.1)).2.2 (by omega) 31
      have hown3 := ownsRow_lower hown1 (show V5.heap.size ≤ Wa.heap.size by omega)
      have hcl : W1.cell? ((⟨V5.heap.size, 0, none⟩ : Addr).add 0) = some (.string (sTm (view : Int) b text).str) := by rw [Addr.add_mid]; exact (hb1.cell (p := ⟨V5.heap.size, 0, none⟩) hbl0).trans hcl0
      refine step_qq (by rfl) (.const (.slice none 0 0)) (.tmp 93) rfl rfl rfl hrun1 ?_
      refine hK.out _ _ (HSt _ (hHeld.1.trans (hb1.mono hHeld.1.size))) (fun hHeld => ?_)
      clear hK K
      try simp only [Act.put, List.setIfInBounds_toArray, List.set_cons_zero, List.set_cons_succ]
      refine wpAnyH_ready (rs := [5]) (by kernel_rfl) (by simp) ?_
      refine AllReadyH.cons (o := ⟨_, _, _, _, _, _⟩) rfl (fun K hK => ?_) AllReadyH.nil
      obtain ⟨A2, c2, W2, hrun2, hb2, hown4, _, _⟩ := append_text V5.heap.size A1 c1 l (sTm (view : Int) b text).str _ hown3 (by omega) _ hcl hHeld.1.size V5 hHeld.1 31
      refine step_qq (by rfl) (.tmp 94) (.tmp 97) rfl rfl rfl hrun2 ?_
      refine hK.out _ _ (HSt _ (hb2)) (fun hHeld => ?_)
      clear hK K
      try simp only [Act.put, List.setIfInBounds_toArray, List.set_cons_zero, List.set_cons_succ]
      refine wpAnyH_take (oi := ⟨_, _, _, _, _, _⟩) (i := 6) (v := ?_) rfl (by kernel_rfl) (by kernel_rfl) (by kernel_rfl) (fun _ _ _ h => h) (Or.inl ⟨by rfl, ?_⟩) (by assumption) ?_
      rotate_left
      · intro w hSw; (try dsimp only at hSw); first | (go_simp; done) | (go_simp; with_reducible rfl)
      try simp only [Act.put, List.setIfInBounds_toArray, List.set_cons_zero, List.set_cons_succ]
      refine wpAnyH_done (by kernel_rfl) ?_ _
      refine NoPanic.normal ?_
      have hRR : Kd.R Kd.string 26 W2 V5.heap.size (fun _ => True) (.slice A2 (l.length + 1) c2) (l ++ [(sTm (view : Int) b text).str]) := Rdr.R_of_own (l := l ++ [(sTm (view : Int) b text).str]) (by rw [List.length_append, List.length_singleton]; exact hown4)
      have h1 := hHeld.1
      try go_wp2_with fail
      go_meet
      case rel => exact ⟨h1, hRR⟩
  case rest =>
    obtain ⟨hB1, hRR⟩ := hcut
    clear HSt
    have HB1 := Lib.hid hB1; have HH := Lib.hid hRR
    clear hB1 hRR
    go_wp2_with fail
    go_loopw [18, 99] (fun hv i wl => ∃ j : Nat, j ≤ 16 ∧ i = .int .u8 j ∧ RowKit.Below V5.heap.size V5 wl ∧ Kd.R Kd.string 26 wl V5.heap.size (fun _ => True) hv ((l ++ [(sTm (view : Int) b text).str]) ++ NF was is j)) (fun _ i _ => 16 - (intOf i).toNat)
    case atStart => exact ⟨0, Nat.zero_le _, rfl, HB1.out, by rw [show NF was is 0 = [] from rfl, List.append_nil]; exact HH.out⟩
    case round =>
      clear HB1 HH
      obtain ⟨j, hj, rfl, hb1, hh⟩ := hrel
      have HB1 := Lib.hid hb1; have HH := Lib.hid hh
      clear hb1 hh
      by_cases hlt : j < 16
      · skip
        go_wp2_with fail
        refine (leaves_any _).mono ?_
        rintro e w6 ⟨rfl, hb⟩
        replace HH := Lib.hid (Kd.R_below HH.out hb); replace HB1 := Lib.hid (HB1.out.trans (hb.mono HB1.out.size)); clear hb
        have hol := own_any leavesL leaves_len (j : Int) (by omega) (by omega)
        unfold KV at hol ⊢
        go_wp2_with fail
        refine (hol _).mono ?_
        rintro e w7 ⟨rfl, hb⟩
        replace HH := Lib.hid (Kd.R_below HH.out hb); replace HB1 := Lib.hid (HB1.out.trans (hb.mono HB1.out.size)); clear hb
        have lo := ownF_len leavesL (pathI (j : Int))
        clear hol
        have HN := Lib.hid (KA.new 28 w7 noKeys noKeys_len Z32 rfl)
        have HBN := Lib.hid (HB1.out.alloc HB1.out.size (.cells Z32 28))
        have HHN := Lib.hid (Kd.R_alloc HH.out (.cells Z32 28))
        have hlb : V5.heap.size ≤ w7.heap.size := HB1.out.size
        clear HB1 HH
        go_wp2_with (first | (refine wpList_store_row rfl 28 (.tmp 20) (.tmp 104) rfl _ _ rfl rfl _ _ HN.out.1 (size_info _ (ownF leavesL (pathI (j : Int))) lo s30) (by rw [KA.rowSize HN.out.2, KA.rowSize lo]) (one_string _) ?_; have HD := Lib.hid (HN.out.row (ownF leavesL (pathI (j : Int))) lo); have HB1 := Lib.hid (below_setRow HBN.out hlb ((ownF leavesL (pathI (j : Int))).map Value.string).toArray); have HH := Lib.hid (rowR_setRow HHN.out HN.out.1 ((ownF leavesL (pathI (j : Int))).map Value.string).toArray); clear HN HBN HHN; generalize (w7.alloc (.cells Z32 28)).setRow w7.heap.size ((ownF leavesL (pathI (j : Int))).map Value.string).toArray = V7 at HD HB1 HH ⊢; generalize w7.heap.size = hb0 at hlb HD ⊢))
        refine (has_calls was j hw hlt _).mono ?_
        rintro e w8 ⟨rfl, hb⟩
        replace HH := Lib.hid (Kd.R_below HH.out hb); replace HD := Lib.hid (HD.out.after hb); replace HB1 := Lib.hid (HB1.out.trans (hb.mono HB1.out.size)); clear hb
        obtain ⟨bt, hbt⟩ : ∃ bt, bt = bit was j := ⟨_, rfl⟩
        rw [← hbt]
        have hhj := HHD.out j
        rw [← hbt] at hhj
        have HHJ := Lib.hid hhj
        clear hbt hhj
        go_upto_if 107 with (fail)
        go_cut [] (fun wc => RowKit.Below V5.heap.size V5 wc ∧ Kd.R Kd.string 26 wc V5.heap.size (fun _ => True) u18 ((l ++ [(sTm (view : Int) b text).str]) ++ NF was is j) ∧ KA 28 wc hb0 (hadF was j))
        case first =>
          cases bt with
          | true =>
            have hog := own_any g lg (j : Int) (by omega) (by omega)
            have lg2 := ownF_len g (pathI (j : Int))
            have HGC := Lib.hid (HG.out.after HB1.out)
            unfold KV at hog
            go_wp2_with (first | refine wpList_load_row rfl 28 (.tmp 9) rfl _ rfl _ _ _ _ HGC.out.1 Tryz.underlying28 rfl (size_info _ _ HGC.out.2 s30) ?_)
            refine (hog _).mono ?_
            rintro e w9 ⟨rfl, hb⟩
            clear hog HGC
            replace HH := Lib.hid (Kd.R_below HH.out hb); replace HD := Lib.hid (HD.out.after hb); replace HB1 := Lib.hid (HB1.out.trans (hb.mono HB1.out.size)); clear hb
            go_wp2_with (first | (refine wpList_store_row rfl 28 (.tmp 20) (.tmp 110) rfl _ _ rfl rfl _ _ HD.out.1 (size_info _ (ownF g (pathI (j : Int))) lg2 s30) (by rw [KA.rowSize HD.out.2, KA.rowSize lg2]) (one_string _) ?_; replace HB1 := Lib.hid (below_setRow HB1.out hlb ((ownF g (pathI (j : Int))).map Value.string).toArray); replace HH := Lib.hid (rowR_setRow HH.out HD.out.1 ((ownF g (pathI (j : Int))).map Value.string).toArray); replace HD := Lib.hid (HD.out.row (ownF g (pathI (j : Int))) lg2)))
            go_meet
            case rel => exact ⟨HB1.out, HH.out, by rw [HHJ.out, if_pos trivial]; exact HD.out⟩
          | false =>
            go_wp2_with fail
            go_meet
            case rel => exact ⟨HB1.out, HH.out, by rw [HHJ.out, if_neg (by decide)]; exact HD.out⟩
        case rest =>
          clear HB1 HH HD HHJ
          obtain ⟨hb1, hh, hd⟩ := hcut
          have HB1 := Lib.hid hb1; have HH := Lib.hid hh; have HD := Lib.hid hd
          clear hb1 hh hd
          have ld := hadF_len was j
          go_wp2_with fail
          refine (has_calls is j hi hlt _).mono ?_
          rintro e w10 ⟨rfl, hb⟩
          replace HH := Lib.hid (Kd.R_below HH.out hb); replace HD := Lib.hid (HD.out.after hb); replace HB1 := Lib.hid (HB1.out.trans (hb.mono HB1.out.size)); clear hb
          have hlrj := HLR.out j hlt
          cases hbi : bit is j with
          | false =>
            have hpos := have_pos was hw hlt
            have hfew := show (haveF (hadF was j)).length ≤ 5 by
              unfold hadF
              split <;> exact have_few _ hlt
            have hnf := NF_len was is j (by omega)
            have hha := have_any (hadF was j) ld
            have hNF : NF was is (j + 1) = NF was is j ++ haveF (hadF was j) := by
              show NF was is j ++ (if bit is j then [] else haveF (hadF was j)) = _
              rw [hbi, if_neg (by decide)]
            have HNF := Lib.hid hNF
            clear hNF hlrj hbi
            generalize haveF (hadF was j) = Y at hpos hfew hha HNF
            generalize hadF was j = hd at ld HD hha
            unfold KV at hha
            go_wp2_with (first | refine wpList_load_row rfl 28 (.tmp 20) rfl _ rfl _ _ _ _ HD.out.1 Tryz.underlying28 rfl (size_info _ _ HD.out.2 s30) ?_)
            refine (hha _).mono ?_
            rintro e w11 ⟨vv, rfl, hr, hb⟩
            replace HH := Lib.hid (Kd.R_below HH.out hb); replace HB1 := Lib.hid (HB1.out.trans (hb.mono HB1.out.size)); clear hb
            obtain ⟨A3, c3, ev⟩ := Kd.R_slice hr
            subst ev
            obtain ⟨ad3, e3, _⟩ := Kd.at_string (Kd.R_reads' hr).2.2 0 (by omega) (by omega)
            subst e3
            obtain ⟨v3, W3, hrun3, hb3, hR3⟩ := append_more V5.heap.size u18 _ Y w11 HH.out ad3 c3 (Kd.R_reads' hr).2.2 (by simp only [List.length_append, List.length_singleton]; omega) (by omega) HB1.out.size V5 HB1.out 31
            clear hr hha
            have HB3 := Lib.hid hb3; have HR3 := Lib.hid hR3
            clear hb3 hR3
            go_wp2_with (first | (at_builtin; refine wpList_qq rfl (.tmp 115) (.tmp 117) rfl rfl rfl hrun3 ?_))
            go_roundw
            case rel => exact ⟨j + 1, by omega, by simp, HB3.out, by rw [HNF.out, ← List.append_assoc]; exact HR3.out⟩
            case measure => simp [intOf]; omega
          | true =>
            have hNF : NF was is (j + 1) = NF was is j := by
              show NF was is j ++ (if bit is j then [] else haveF (hadF was j)) = _
              rw [hbi, if_pos rfl, List.append_nil]
            have HNF := Lib.hid hNF
            have hkr := (hlrj hbi).trans HKB.out
            clear hNF hlrj hbi
            have hln := fun w hc => learn_any (hadF was j) ld A cp l (by omega) w hc (Kd.R_reads' HL.out).2.1
            have lr := learnF_len ld l
            generalize hadF was j = hd at ld HD hln lr hkr
            generalize (learnF hd l).2 = nn at hln
            generalize (learnF hd l).1 = r at hln lr hkr
            unfold KV at hln
            go_wp2_with (first | refine wpList_load_row rfl 28 (.tmp 20) rfl _ rfl _ _ _ _ HD.out.1 Tryz.underlying28 rfl (size_info _ _ HD.out.2 s30) ?_)
            refine (hln _ (Kd.R_reads' (Kd.R_below HL.out HB1.out)).2.2).mono ?_
            rintro e w11 ⟨rfl, hb⟩
            replace HH := Lib.hid (Kd.R_below HH.out hb); replace HB1 := Lib.hid (HB1.out.trans (hb.mono HB1.out.size)); clear hb
            clear hln HD
            have HN := Lib.hid (KA.new 28 w11 noKeys noKeys_len Z32 rfl)
            have HBN := Lib.hid (HB1.out.alloc HB1.out.size (.cells Z32 28))
            have HHN := Lib.hid (Kd.R_alloc HH.out (.cells Z32 28))
            have hlb2 : V5.heap.size ≤ w11.heap.size := HB1.out.size
            clear HB1 HH
            go_upto_region 26 with (first | (refine wpList_store_row rfl 28 (.tmp 21) (.tmp 123) rfl _ _ rfl rfl _ _ HN.out.1 (size_info _ r lr s30) (by rw [KA.rowSize HN.out.2, KA.rowSize lr]) (one_string _) ?_; have HD := Lib.hid (HN.out.row r lr); have HB1 := Lib.hid (below_setRow HBN.out hlb2 (r.map Value.string).toArray); have HH := Lib.hid (rowR_setRow HHN.out HN.out.1 (r.map Value.string).toArray); clear HN HBN HHN; generalize (w11.alloc (.cells Z32 28)).setRow w11.heap.size (r.map Value.string).toArray = V11 at HD HB1 HH ⊢; generalize w11.heap.size = rb at hlb2 HD ⊢))
            have cr := HD.out.cell (j := 1) (by omega)
            rw [hkr] at cr
            clear hkr
            go_wp2_with fail
            refine (heb _).mono ?_
            rintro e w12 ⟨rfl, hb⟩
            replace HH := Lib.hid (Kd.R_below HH.out hb); replace HB1 := Lib.hid (HB1.out.trans (hb.mono HB1.out.size)); clear hb
            clear cr HD
            have HE2 := Lib.hid (show EpAt (w12.alloc (.cells #[.int .i64 (view : Int), .string (eTm (view : Int) b).str] 36)) w12.heap.size (view : Int) (eTm (view : Int) b).str from heap_alloc_new w12 _)
            replace HH := Lib.hid (Kd.R_alloc HH.out (.cells #[.int .i64 (view : Int), .string (eTm (view : Int) b).str] 36)); replace HB1 := Lib.hid (HB1.out.alloc HB1.out.size (.cells #[.int .i64 (view : Int), .string (eTm (view : Int) b).str] 36))
            obtain ⟨e0, e1⟩ := HE2.out.cells
            obtain ⟨s0, s1⟩ := (HSE.out.after HB1.out).cells
            go_wp2_with fail
            refine (hop _).mono ?_
            rintro e w13 ⟨rfl, hb⟩
            replace HH := Lib.hid (Kd.R_below HH.out hb); replace HB1 := Lib.hid (HB1.out.trans (hb.mono HB1.out.size)); clear hb
            clear e0 e1 s0 s1
            go_wp2_with fail
            go_roundw
            case rel => exact ⟨j + 1, by omega, by simp, HB1.out, by rw [HNF.out]; exact HH.out⟩
            case measure => simp [intOf]; omega
      · obtain rfl : j = 16 := by omega
        clear hj hlt
        have hno := nonce_calls 50000
        rw [nonce_str 50000 (by decide) (by decide)] at hno
        obtain ⟨o1, d1, l1⟩ := eTm_ok (view : Int) b
        obtain ⟨o2, d2, l2⟩ := nTm_ok 50000
        have hmk := make_calls 115 (by decide) (eTm (view : Int) b) (nTm 50000) o1 o2 (by omega) (by omega) (by omega) (by omega)
        rw [show Tm.two 115 (eTm (view : Int) b) (nTm 50000) = zTm (view : Int) b from rfl] at hmk
        simp only [show (((115 : UInt8).toNat : Nat) : Int) = 115 from rfl] at hmk
        clear o1 o2 d1 d2 l1 l2
        obtain ⟨A4, c4, ev⟩ := Kd.R_slice HH.out
        subst ev
        have hhl : ((l ++ [(sTm (view : Int) b text).str]) ++ NF was is 16).length ≤ 200 := by
          have := NF_len was is 16 (Nat.le_refl _)
          simp only [List.length_append, List.length_singleton]
          omega
        generalize (l ++ [(sTm (view : Int) b text).str]) ++ NF was is 16 = Hd at HH HD1 HD2 hhl ⊢
        generalize (nTm 50000).str = Nn at hno hmk HD2
        generalize (zTm (view : Int) b).str = Zz at hmk HD2
        go_wp2_with fail
        refine (hno _).mono ?_
        rintro e w14 ⟨rfl, hb⟩
        replace HH := Lib.hid (Kd.R_below HH.out hb); replace HB1 := Lib.hid (HB1.out.trans (hb.mono HB1.out.size)); clear hb
        have HE3 := Lib.hid (HE.out.after HB1.out)
        obtain ⟨e0, e1⟩ := HE3.out.cells
        go_wp2_with fail
        refine (hmk _).mono ?_
        rintro e w15 ⟨rfl, hb⟩
        replace HH := Lib.hid (Kd.R_below HH.out hb); replace HB1 := Lib.hid (HB1.out.trans (hb.mono HB1.out.size)); clear hb
        clear e0 e1 HE3 hmk hno
        have HE3 := Lib.hid (HE.out.after HB1.out)
        obtain ⟨e0, e1⟩ := HE3.out.cells
        go_wp2_with fail
        have hder := derives_any A4 c4 Hd (eTm (view : Int) b).str w15 (Kd.R_reads' HH.out).2.2 (Kd.R_reads' HH.out).2.1
        unfold DerEnd at hder
        rw [HD1.out] at hder
        refine hder.mono ?_
        clear hder
        rintro e w16 ⟨rfl, hb⟩
        replace HH := Lib.hid (Kd.R_below HH.out hb); replace HB1 := Lib.hid (HB1.out.trans (hb.mono HB1.out.size)); clear hb
        clear e0 e1 HE3
        go_upto_region 36 with fail
        have HHA := Lib.hid (Kd.R_alloc HH.out (.cells #[.string Zz] 26))
        have HBA := Lib.hid (HB1.out.alloc HB1.out.size (.cells #[.string Zz] 26))
        obtain ⟨v5, W5, hrun5, hb5, hR5⟩ := append_more V5.heap.size _ Hd [Zz] _ HHA.out ⟨w16.heap.size, 0, none⟩ 1 (lit1 w16 Zz) (by omega) (by simp) HBA.out.size V5 HBA.out 31
        obtain ⟨A5, c5, ev⟩ := Kd.R_slice hR5
        subst ev
        have hder := derives_any A5 c5 (Hd ++ [Zz]) Nn W5 (Kd.R_reads' hR5).2.2 (Kd.R_reads' hR5).2.1
        unfold DerEnd at hder
        rw [HD2.out, List.length_append, List.length_singleton] at hder
        have HB5 := Lib.hid hb5
        have HB0 := Lib.hid HB.out
        have HDER := Lib.hid hder
        have HRUN := Lib.hid hrun5
        clear hR5 hb5 HHA HBA hder hrun5
        go_wp2_with (first | (at_builtin; refine wpList_qq rfl (.tmp 170) (.tmp 172) rfl rfl rfl HRUN.out ?_))
        refine HDER.out.mono ?_
        clear HDER HRUN
        rintro e w17 ⟨rfl, hb⟩
        have HF := Lib.hid (HB0.out.trans ((HB5.out.trans (hb.mono HB5.out.size)).mono HB0.out.size))
        clear hb
        go_wp2_with fail
        go_ret
        exact ⟨rfl, HF.out⟩
end Go.Proofs.YtkmpfmhbkflgpaaGreatDoor.Pr

/- The parameters' bounds. -/
set_option linter.unusedVariables false
set_option linter.unusedSimpArgs false
namespace Go.Proofs.YtkmpfmhbkflgpaaGreatDoor.Pr
theorem wf16 {a : Int} (h : (Lit.int .u16 a).wf = true) : ∃ n : Nat, a = (n : Int) ∧ n < 65536 := by
  simp [Lit.wf, IntKind.min, IntKind.max, IntKind.signed, IntKind.bits] at h
  exact ⟨a.toNat, by omega, by omega⟩
end Go.Proofs.YtkmpfmhbkflgpaaGreatDoor.Pr
