/- tree.Fresh: its walk. -/
import Derived.Test.YtnpabhoflkppaaaDoorTp14
import Derived.Maps.AppendAt
import Derived.OwnWalk
set_option linter.unusedVariables false
set_option linter.unusedSimpArgs false
namespace Go.Proofs.YtnpabhoflkppaaaDoor.Pr
open Go.RowKit Go.Shelf Go.Sort Go.Proofs.YtnpabhoflkppaaaDoorW.PrintWords

/-- One node more, where somebody is left below. -/
def stepO (is : Int) (n : Int) : List Int := if belowI is n = 0 then [] else [n]
def ofId (is : Int) (id : Nat) : List Int := ((pathI (id : Int)).tail).flatMap (stepO is)
def outL (is : Int) (ids : List Nat) : List Int := ids.flatMap (ofId is)

theorem block_kept {w w2 : World} {g : Nat} {o tmp : Obj} {row : Option Nat} (h : w.heap[g]? = some o) (hg : (w.alloc tmp).grownBy w2 row) (hne : row ≠ some g) : w2.heap[g]? = some o := by
  have hlt := (Array.getElem?_eq_some_iff.1 h).1
  rw [hg.block g (by simp; omega) (fun e => hne e.symm)]
  exact (Below.heap_alloc w tmp g hlt).trans h
theorem cell_block {w : World} {g : Nat} {cur : Array Value} {e : TypeId} (h : w.heap[g]? = some (.cells cur e (0, 0))) (j : Nat) : w.cell? ⟨g, j, none⟩ = cur[j]? := by
  simp [World.cell?, h]
theorem irow_ne {base : Nat} {w : World} {v : Value} {xs : List Int} (h : IRow base w v xs) {g : Nat} {cur : Array Value} {e : TypeId} (hg : w.heap[g]? = some (.cells cur e (0, 0))) (he : e ≠ 3) : v.ownBlock ≠ some g := fun hv => by
  obtain ⟨cells, hc⟩ := own_typed h g hv
  rw [hc] at hg
  injection hg with hg
  injection hg with _ hg
  exact he hg.symm
theorem irow_lt {base : Nat} {w : World} {v : Value} {xs : List Int} (h : IRow base w v xs) (k : Nat) (hk : v.ownBlock = some k) : k < w.heap.size := by
  obtain ⟨cells, hc⟩ := own_typed h k hk
  exact (Array.getElem?_eq_some_iff.1 hc).1
theorem irow_below {base : Nat} {w w' : World} {v : Value} {xs : List Int} (h : IRow base w v xs) (hb : RowKit.Below w.heap.size w w') : IRow base w' v xs := own_move h (fun k hk => hb.block k (irow_lt h k hk))

/-- What tree.Path hands back for a member: five nodes in a row of their own. -/
def PathPost (id : Nat) (w : World) (e : Ending) (w' : World) : Prop :=
  ∃ g cap cur, e = .returned (.slice (some ⟨g, 0, none⟩) 5 cap) ∧ 5 ≤ cap ∧ w.heap.size ≤ g ∧ w'.heap[g]? = some (.cells cur 3 (0, 0)) ∧ (∀ j, j < 5 → cur[j]? = some (.int .i64 ((pathI (id : Int)).getD j 0))) ∧ RowKit.Below w.heap.size w w'
theorem path_len (id : Nat) (h : id < 16) : (pathI (id : Int)).length = 5 := by unfold pathI; rw [if_pos (by omega)]; rfl
theorem path_any (id : Nat) (h : id < 16) (w : World) : Calls Tryd.prog 13 #[.int .u8 (id : Int)] w (PathPost id w) := by
  obtain ⟨K, hK⟩ := path_f (id : Int) (by omega) (by omega)
  refine (tree_Path.calls K (id : Int) _ w (hK K (Nat.le_refl _))).mono ?_
  rintro e w' ⟨v, rfl, hr, hb⟩
  have ho : IRow w.heap.size w' v (pathI (id : Int)) := IRow.ofR hr
  rcases ho.2 with ⟨_, h0⟩ | ⟨g, cap, cur, rfl, hbase, hg, h1, h2, h3, h4⟩
  · rw [path_len id h] at h0; omega
  · rw [path_len id h] at h1 h4 ⊢
    refine ⟨g, cap, cur, rfl, h1, hbase, hg, fun j hj => ?_, hb⟩
    have e1 : (cur.toList.take 5)[j]? = ((pathI (id : Int)).map (Value.int .i64))[j]? := by rw [show (5 : Nat) = 5 * 1 from rfl, h4]
    rw [List.getElem?_take_of_lt hj, Array.getElem?_toList, List.getElem?_map, List.getElem?_eq_getElem (by rw [path_len id h]; exact hj)] at e1
    rw [e1, List.getD_eq_getElem?_getD, List.getElem?_eq_getElem (by rw [path_len id h]; exact hj)]; rfl

def FreshPost (is : Nat) (ids : List Nat) (w : World) (e : Ending) (w' : World) : Prop := ∃ v, e = .returned v ∧ IRow w.heap.size w' v (finL (outL (is : Int) ids)) ∧ RowKit.Below w.heap.size w w'
theorem flat_snoc {α β : Type} (l : List α) (f : α → List β) (x : α) : (l ++ [x]).flatMap f = l.flatMap f ++ f x := by simp [List.flatMap_append]
theorem stepO_len (is n : Int) : (stepO is n).length ≤ 1 := by unfold stepO; split <;> simp
theorem flat_len {α β : Type} (f : α → List β) (b : Nat) (hf : ∀ x, (f x).length ≤ b) : ∀ l : List α, (l.flatMap f).length ≤ l.length * b
  | [] => by simp
  | x :: l => by
    have := flat_len f b hf l
    have := hf x
    simp only [List.flatMap_cons, List.length_append, List.length_cons, Nat.succ_mul]; omega
theorem ofId_len (is : Int) (id : Nat) : (ofId is id).length ≤ 5 := by
  unfold ofId
  refine Nat.le_trans (flat_len _ 1 (stepO_len is) _) ?_
  unfold pathI; split <;> simp

set_option maxHeartbeats 8000000 in
set_option maxRecDepth 100000 in
theorem fresh_walk (was is : Nat) (hw : was < 65536) (hi : is < 65536) (w : World) (HT0 : TabAt w) :
    Calls Tryd.prog 19 #[.int .u16 (was : Int), .int .u16 (is : Int)] w (FreshPost is (idsN (was ^^^ is)) w) := by
  have hx : Go.bits .xor .u16 (was : Int) (is : Int) = ((was ^^^ is : Nat) : Int) := u16_xor_nat was is hw hi
  have hlt : was ^^^ is < 65536 := Nat.xor_lt_two_pow (n := 16) hw hi
  obtain ⟨K, hK⟩ := list_f (was ^^^ is) hlt
  have hlist : Calls Tryd.prog 25 #[.int .u16 ((was ^^^ is : Nat) : Int)] w _ := count_List.calls K ((was ^^^ is : Nat) : Int) _ w (hK K (Nat.le_refl _)) HT0
  have hids : ∀ x ∈ idsN (was ^^^ is), x < 16 := fun x hx => (mem_ids.1 hx).1
  have hidl := ids_len (was ^^^ is)
  have hidsI : idsI ((was ^^^ is : Nat) : Int) = (idsN (was ^^^ is)).map (fun n : Nat => (n : Int)) := by unfold idsI; rw [Int.toNat_natCast]
  rw [hidsI] at hlist
  generalize was ^^^ is = s at hx hlist hids hidl hK hlt hidsI
  generalize idsN s = ids at hlist hids hidl hK hidsI
  clear hK hidsI hlt HT0
  obtain ⟨i0, hii, hz0, hz1, hz2⟩ := info_parts infoI
  go_enter Tryd.func19, Tryd.ntmps19
  go_wp2_with (go_at_call 25; refine hlist.mono ?_; clear hlist; rintro e w1 ⟨v1, rfl, hr, hb⟩; have ho := Kd.own_of_R hr; clear hr; rw [List.length_map] at ho; rcases ho.2 with ⟨rfl, hz⟩ | ⟨gi, capi, cur, rfl, hbase, hgi, h1, h2, h3, h4⟩)
  · -- nobody has changed
    obtain rfl : ids = [] := List.eq_nil_of_length_eq_zero hz
    have HB := Lib.hid hb
    have HSZ := hb.size
    have HI : IRow w.heap.size w1 (.slice none 0 0) [] := World.ownsRow_nil _ _ _ _
    have cF : ([] : List Int).length < 1000000 := by decide
    clear hb hz ho
    refine wp_loop_rounds 1 ?_
    rw [rounds_succ]
    have hs := sort_row HI cF
    go_wp2_with (go_at_call 26; refine hs.mono ?_; rintro e w27 ⟨rfl, hp1⟩)
    have hc := compact_row hp1.1 (by rw [sortL_len]; exact cF)
    have HP1 := Lib.hid hp1
    clear hs hp1
    go_wp2_with (go_at_call 27; refine hc.mono ?_; rintro e w28 ⟨v28, rfl, hp2⟩)
    have hv := reverse_row hp2.1 (Nat.lt_of_le_of_lt (compact_le _) (by rw [sortL_len]; exact cF))
    obtain ⟨A28, c28, e28⟩ := Kd.R_slice hp2.1.toR
    subst e28
    have HP2 := Lib.hid hp2
    clear hc hp2
    go_wp2_with (go_at_call 28; refine hv.mono ?_; rintro e w29 ⟨rfl, hp3⟩)
    have hb1 := HP1.out.below HI HB.out HSZ
    have hb2 := HP2.out.below HP1.out.1 hb1 (Nat.le_trans HSZ HP1.out.le)
    have hb3 := hp3.below HP2.out.1 hb2 (Nat.le_trans (Nat.le_trans HSZ HP1.out.le) HP2.out.le)
    go_ret
    exact ⟨_, rfl, hp3.1, hb3⟩
  · have hcur : ∀ j, j < ids.length → cur[j]? = some (.int .u8 ((ids.getD j 0 : Nat) : Int)) := fun j hj => by
      have e1 : (cur.toList.take ids.length)[j]? = (encs (Value.int .u8) (ids.map (fun n : Nat => (n : Int))))[j]? := by rw [← h4, Nat.mul_one]
      rw [List.getElem?_take_of_lt hj, Array.getElem?_toList] at e1
      rw [e1]
      simp [encs, hj]
    obtain ⟨n, hn⟩ : ∃ n, n = ids.length := ⟨_, rfl⟩
    rw [← hn] at hcur hidl h1
    rw [← hn]
    have HN := Lib.hid hn
    have HB1 := Lib.hid hb
    have HCUR := Lib.hid hcur
    have HIDS := Lib.hid hids
    have HW := hb.size
    clear hcur hn hb hids ho h2 h3 h4 h1
    go_loopw [5, 15] (fun v5 v15 wr => ∃ i : Nat, i ≤ n ∧ v15 = .int .i64 i ∧ IRow w.heap.size wr v5 (outL (is : Int) (ids.take i)) ∧ wr.heap[gi]? = some (.cells cur 5 (0, 0)) ∧ RowKit.Below w.heap.size w wr) (fun _ v15 _ => n - (intOf v15).toNat)
    case atStart => exact ⟨0, Nat.zero_le _, rfl, by unfold IRow; exact World.ownsRow_nil _ _ _ _, hgi, HB1.out⟩
    case round =>
      obtain ⟨i, hin, rfl, hrow, hgr, hbel⟩ := hrel
      by_cases hlt : i < n
      · have hil : i < ids.length := by have := HN.out; omega
        have hcell : wr.cell? ⟨gi, i, none⟩ = some (.int .u8 ((ids.getD i 0 : Nat) : Int)) := (cell_block hgr i).trans (HCUR.out i hlt)
        have hid : ids.getD i 0 < 16 := HIDS.out _ (by rw [List.getD_eq_getElem?_getD, List.getElem?_eq_getElem hil, Option.getD_some]; exact List.getElem_mem _)
        have hts : ids.take (i + 1) = ids.take i ++ [ids.getD i 0] := by
          rw [List.take_succ_eq_append_getElem hil, List.getD_eq_getElem?_getD, List.getElem?_eq_getElem hil, Option.getD_some]
        generalize ids.getD i 0 = id at hcell hid hts
        have HTS := Lib.hid hts
        have hol : (outL (is : Int) (ids.take i)).length ≤ 80 := by
          refine Nat.le_trans (flat_len _ 5 (ofId_len _) _) ?_
          rw [List.length_take]; have := HN.out; omega
        have hout : outL (is : Int) (ids.take i ++ [id]) = outL (is : Int) (ids.take i) ++ ofId (is : Int) id := flat_snoc _ _ _
        generalize outL (is : Int) (ids.take i) = out at hrow hol hout
        have HOUT := Lib.hid hout
        have hp := path_any id hid
        have HROW := Lib.hid hrow; have HBEL := Lib.hid hbel; have HGR := Lib.hid hgr
        clear hts hrow hbel hgr hil hout
        go_wp2_with fail
        refine (hp _).mono ?_
        clear hp
        rintro e w2 ⟨gp, cp, cu2, rfl, hcp, hgp, hg2, hcu, hb2⟩
        have hcp1 : ¬ cp = 1 := by omega
        have hr2 : IRow w.heap.size w2 u5 out := irow_below HROW.out hb2
        have hne2 : u5.ownBlock ≠ some gp := fun e => by have := irow_lt HROW.out gp e; omega
        have hgr2 := (hb2.block gi (Array.getElem?_eq_some_iff.1 HGR.out).1).trans HGR.out
        have hbel2 := HBEL.out.trans (hb2.mono HBEL.out.size)
        have HCU := Lib.hid hcu
        have HR2 := Lib.hid hr2; have HNE2 := Lib.hid hne2; have HGR2 := Lib.hid hgr2; have HBEL2 := Lib.hid hbel2; have HG2 := Lib.hid hg2
        clear hcu hb2 hg2 hgp hr2 hne2 hgr2 hbel2
        go_wp2
        go_loopw [5, 23] (fun v5 v23 wq => ∃ j : Nat, j ≤ 4 ∧ v23 = .int .i64 j ∧ IRow w.heap.size wq v5 (out ++ ((pathI (id : Int)).tail.take j).flatMap (stepO (is : Int))) ∧ v5.ownBlock ≠ some gp ∧ wq.heap[gp]? = some (.cells cu2 3 (0, 0)) ∧ wq.heap[gi]? = some (.cells cur 5 (0, 0)) ∧ RowKit.Below w.heap.size w wq) (fun _ v23 _ => 4 - (intOf v23).toNat)
        case atStart => exact ⟨0, by omega, rfl, by simpa using HR2.out, HNE2.out, HG2.out, HGR2.out, HBEL2.out⟩
        case round =>
          obtain ⟨j, hj, rfl, hrow, hnep, hgp, hgr, hbel⟩ := hrel
          have htl : (pathI (id : Int)).tail.length = 4 := by rw [List.length_tail, path_len id hid]
          by_cases hj4 : j < 4
          · have hcj : wr.cell? ⟨gp, 1 + j, none⟩ = some (.int .i64 ((pathI (id : Int)).getD (1 + j) 0)) := (cell_block hgp (1 + j)).trans (HCU.out (1 + j) (by omega))
            have htk : (pathI (id : Int)).tail.take (j + 1) = (pathI (id : Int)).tail.take j ++ [(pathI (id : Int)).getD (1 + j) 0] := by
              rw [List.take_succ_eq_append_getElem (by omega), List.getElem_tail, List.getD_eq_getElem?_getD, Nat.add_comm 1 j, List.getElem?_eq_getElem (by rw [path_len id hid]; omega), Option.getD_some]
            have hxl : (out ++ ((pathI (id : Int)).tail.take j).flatMap (stepO (is : Int))).length ≤ 90 := by
              have h1 := flat_len (stepO (is : Int)) 1 (stepO_len _) ((pathI (id : Int)).tail.take j)
              rw [List.length_take] at h1
              rw [List.length_append]; omega
            have hnx : out ++ ((pathI (id : Int)).tail.take (j + 1)).flatMap (stepO (is : Int)) = (out ++ ((pathI (id : Int)).tail.take j).flatMap (stepO (is : Int))) ++ stepO (is : Int) ((pathI (id : Int)).getD (1 + j) 0) := by
              rw [htk, flat_snoc, List.append_assoc]
            generalize out ++ ((pathI (id : Int)).tail.take j).flatMap (stepO (is : Int)) = xs at hrow hxl hnx
            generalize (pathI (id : Int)).getD (1 + j) 0 = nd at hcj hnx
            have hbw : ∀ W, Calls Tryd.prog 15 #[.int .u16 (is : Int), .int .i64 nd] W fun e w' => e = .returned (.int .u16 (belowI (is : Int) nd)) ∧ RowKit.Below W.heap.size W w' := fun W => tree_Below.calls 0 (is : Int) nd _ W (by unfold tree_Below.f; rw [if_pos ⟨by omega, by omega⟩])
            have HNX := Lib.hid hnx; have HRO := Lib.hid hrow; have HNP := Lib.hid hnep; have HGPB := Lib.hid hgp; have HGRB := Lib.hid hgr; have HBL := Lib.hid hbel
            clear hnx hrow hnep hgp hgr hbel htk htl
            by_cases hz : belowI (is : Int) nd = 0
            · rw [hz] at hbw
              go_wp2_with (go_at_call 15; refine (hbw _).mono ?_; clear hbw; rintro e w3 ⟨rfl, hb3⟩; have HB3 := Lib.hid hb3; clear hb3)
              go_roundw
              case rel =>
                exact ⟨j + 1, by omega, by simp, by rw [HNX.out, show stepO (is : Int) nd = [] by unfold stepO; rw [if_pos hz], List.append_nil]; exact irow_below HRO.out HB3.out, HNP.out,
                  (HB3.out.block gp (Array.getElem?_eq_some_iff.1 HGPB.out).1).trans HGPB.out, (HB3.out.block gi (Array.getElem?_eq_some_iff.1 HGRB.out).1).trans HGRB.out, HBL.out.trans (HB3.out.mono HBL.out.size)⟩
              case measure => simp [intOf]; omega
            · obtain ⟨bv, hbv⟩ : ∃ bv, belowI (is : Int) nd = bv := ⟨_, rfl⟩
              rw [hbv] at hbw
              have hz2 : ¬ bv = 0 := by rw [← hbv]; exact hz
              have z1 : (bv == 0) = false := beq_eq_false_iff_ne.mpr hz2
              have z2 : (bv != 0) = true := bne_iff_ne.mpr hz2
              have HZ := Lib.hid hz
              clear hbv hz2 hz
              go_wp2_with (first | (go_at_call 15; refine (hbw _).mono ?_; clear hbw; rintro e w3 ⟨rfl, hb3⟩; have hr3 : w3.ownsRow w.heap.size 3 1 u5 xs.length (xs.map (Value.int .i64)) := irow_below HRO.out hb3; have HB3 := Lib.hid hb3; clear hb3) | (at_builtin; refine wpList_append_own_at _ rfl _ _ 27 rfl w.heap.size 3 i0 (.int .i64 0) 1 8 Tryd.underlying27 hii hz0 hz1 hz2 rfl (by decide) _ _ _ rfl (hr3.alloc _) ⟨w3.heap.size, 0, none⟩ 1 1 [.int .i64 nd] rfl rfl (cell_one_new _ _ _) (by simp [Value.oneCell']) (by unfold maxLen; omega) (by omega) (by have := HBL.out.size; have := HB3.out.size; simp; omega) ?_; intro v4 w4 hown hgrow _ hloc; have HO := Lib.hid hown; have HG := Lib.hid hgrow; have HL := Lib.hid hloc; have HR3 := Lib.hid hr3; clear hown hgrow hloc hr3))
              go_roundw
              case rel =>
                have q1 := (HB3.out.block gp (Array.getElem?_eq_some_iff.1 HGPB.out).1).trans HGPB.out
                have q2 := (HB3.out.block gi (Array.getElem?_eq_some_iff.1 HGRB.out).1).trans HGRB.out
                have q3 := HBL.out.trans (HB3.out.mono HBL.out.size)
                have q4 : IRow w.heap.size w3 u5 xs := HR3.out
                refine ⟨j + 1, by omega, by simp, ?_, ?_, block_kept q1 HG.out HNP.out, block_kept q2 HG.out (irow_ne q4 q2 (by decide)), ?_⟩
                · rw [HNX.out, show stepO (is : Int) nd = [nd] by unfold stepO; rw [if_neg HZ.out]]
                  unfold IRow
                  rw [List.length_append, List.map_append]
                  exact HO.out
                · rcases HL.out with h | h
                  · rw [h]; exact HNP.out
                  · rw [h]; intro e
                    have : gp < w3.heap.size := (Array.getElem?_eq_some_iff.1 q1).1
                    simp at e; omega
                · exact (q3.alloc (by have := HBL.out.size; have := HB3.out.size; omega) _).grown HG.out (by have := HBL.out.size; have := HB3.out.size; simp; omega) (fun k hk => own_base q4 k hk)
              case measure => simp [intOf]; omega
          · obtain rfl : j = 4 := by omega
            rw [List.take_of_length_le (by omega)] at hrow
            have HRO := Lib.hid hrow; have HGRB := Lib.hid hgr; have HBL := Lib.hid hbel
            clear hrow hnep hgp hgr hbel htl
            go_wp2
            go_roundw
            case rel => exact ⟨i + 1, by omega, by simp, by rw [HTS.out, HOUT.out]; exact HRO.out, HGRB.out, HBL.out⟩
            case measure => simp [intOf]; omega
      · obtain rfl : i = n := by omega
        have hl := HN.out
        rw [hl, List.take_length] at hrow
        have HB := Lib.hid hbel
        have HSZ := hbel.size
        have HI := hrow
        have cF : (outL (is : Int) ids).length < 1000000 := by
          have := flat_len _ 5 (ofId_len (is : Int)) ids
          unfold outL; omega
        clear hbel hgr hl
        obtain ⟨A5, c5, e5⟩ := Kd.R_slice HI.toR
        subst e5
        clear hrow
        have hs := sort_row HI cF
        go_wp2_with (go_at_call 26; refine hs.mono ?_; rintro e w27 ⟨rfl, hp1⟩)
        have hc := compact_row hp1.1 (by rw [sortL_len]; exact cF)
        have HP1 := Lib.hid hp1
        clear hs hp1
        go_wp2_with (go_at_call 27; refine hc.mono ?_; rintro e w28 ⟨v28, rfl, hp2⟩)
        have hv := reverse_row hp2.1 (Nat.lt_of_le_of_lt (compact_le _) (by rw [sortL_len]; exact cF))
        obtain ⟨A28, c28, e28⟩ := Kd.R_slice hp2.1.toR
        subst e28
        have HP2 := Lib.hid hp2
        clear hc hp2
        go_wp2_with (go_at_call 28; refine hv.mono ?_; rintro e w29 ⟨rfl, hp3⟩)
        have hb1 := HP1.out.below HI HB.out HSZ
        have hb2 := HP2.out.below HP1.out.1 hb1 (Nat.le_trans HSZ HP1.out.le)
        have hb3 := hp3.below HP2.out.1 hb2 (Nat.le_trans (Nat.le_trans HSZ HP1.out.le) HP2.out.le)
        go_ret
        exact ⟨_, rfl, hp3.1, hb3⟩

end Go.Proofs.YtnpabhoflkppaaaDoor.Pr
