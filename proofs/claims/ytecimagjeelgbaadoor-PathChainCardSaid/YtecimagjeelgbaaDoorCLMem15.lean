import Derived.Test.YtecimagjeelgbaaDoorCGood
/- PathMembers: its walk. Printed by genmem15.py. -/
set_option linter.unusedVariables false
set_option linter.unusedSimpArgs false
namespace Go.Proofs.YtecimagjeelgbaaDoor.Pr
open Go.RowKit Go.Proofs.YtecimagjeelgbaaDoorW.PrintWords Go.Proofs.YtecimagjeelgbaaDoorW.PrintLast Go.Proofs.YtecimagjeelgbaaDoorW.PrintMore Go.Proofs.YtecimagjeelgbaaDoor.TT

theorem grown_good (m : Nat) (hm : m < 65536) : (grownF (m : Int)).2 = true ∧ Good (grownF (m : Int)).1 m := by
  have h := rekey_good (first := 2000) good_leaves (by decide) hm (by decide) (by decide)
  have h2 := good_next (first := 2000) good_leaves (by decide) hm (by decide) (by decide)
  rw [show ((0 : Nat) : Int) = 0 from rfl] at h h2
  unfold grownF
  rw [h]
  dsimp only
  exact ⟨decide_eq_true rfl, h2⟩
theorem has_calls (s id : Nat) (hs : s < 65536) (hi : id ≤ 255) (w : World) :
    Calls Tryd.prog 14 #[.int .u16 (s : Int), .int .u8 (id : Int)] w fun e w' => e = .returned (.bool (hasB s id)) ∧ RowKit.Below w.heap.size w w' := by
  obtain ⟨K, hK⟩ := has_f s id hs hi
  exact (chantryref05_Has.calls K _ _ _ w (hK K (Nat.le_refl _))).mono (fun e w' h => ⟨h.1, by first | exact h.2 | exact h.2.below⟩)
attribute [local go_sem] beq_self_eq_true   -- for this text's walk alone
set_option maxHeartbeats 8000000 in
set_option maxRecDepth 100000 in
theorem PathMembers (was is id : Nat) (hw : was < 65536) (hi : is < 65536) (hid : id ≤ 255) (w : World) (HT0 : TabAt w) :
    Calls Tryd.prog 4 #[.int .u16 (was : Int), .int .u16 (is : Int), .int .u8 (id : Int)] w fun e w' => e = .returned (.bool true) ∧ RowKit.Below w.heap.size w w' := by
  have hz := zero30
  have hcz := cellsZ
  obtain ⟨g2, hgood⟩ := grown_good was hw
  have hgr := fun w HT => grown_any was hw w HT
  rw [g2] at hgr
  have lg := hgood.len
  generalize (grownF (was : Int)).1 = g at hgr hgood lg
  have hrk := fun w HT => rekey_any g lg was is hw hi 100 (by decide) w HT
  have hrg := rekey_good (first := 100) hgood hw hi (by decide) (by decide)
  have hml := fun (h16 : id < 16) hb mine hm => members_learn (first := 100) hgood hw hi (by decide) (by decide) h16 hb mine hm
  have lx := rekeyF_len (was : Int) (is : Int) g 100
  have he0 : (rekeyF (was : Int) (is : Int) g 100).2.2 = 0 := by rw [hrg]
  have hll : (rekeyF (was : Int) (is : Int) g 100).2.1.length ≤ 1000000 := by
    rw [hrg]
    have h1 := pairs_len (is : Int) (freshI (was : Int) (is : Int))
    have h2 := fresh_len (was : Int) (is : Int)
    simp only [List.length_map]
    omega
  simp only [show ((100 : Nat) : Int) = 100 from rfl] at hrk
  clear hrg
  generalize rekeyF (was : Int) (is : Int) g 100 = X at hrk hml lx he0 hll
  obtain ⟨x, l, er⟩ := X
  dsimp only at hrk hml lx he0 hll
  subst he0
  have hhi := has_calls is id hi hid
  have hhw := has_calls was id hw hid
  have hog := own_any g lg (id : Int) (by omega) (by omega)
  have hol := own_any leavesL leaves_len (id : Int) (by omega) (by omega)
  have hox := own_any x lx (id : Int) (by omega) (by omega)
  have hrp := rpath_calls (id : Int) (by omega) (by omega)
  have hle := path_le (id : Int)
  have hran := Lib.hid (fun n (h : n ∈ pathI (id : Int)) => path_small h)
  have hal := alive_any
  have hlv := leaves_any
  have HT1 := Lib.hid HT0
  clear HT0
  go_enter Tryd.func4, Tryd.ntmps4
  go_wp2_with fail
  refine (hal w HT1.out).mono ?_
  rintro e w1 ⟨rfl, hb1⟩
  have HB := Lib.hid hb1
  clear hb1 hal
  go_wp2_with fail
  refine (hgr w1 (TabAt.below HT1.out (Nat.le_refl _) HB.out)).mono ?_
  rintro e w2 ⟨rfl, hb⟩
  replace HB := Lib.hid (HB.out.trans (hb.mono HB.out.size))
  clear hb
  clear hgr
  have HN0 := Lib.hid (KA.new 30 w2 noKeys noKeys_len Z32 rfl)
  have HBN := Lib.hid (HB.out.alloc HB.out.size (.cells Z32 30))
  have hsza : w.heap.size ≤ w2.heap.size := HB.out.size
  go_wp2_with (first | (refine wpList_store_row rfl 30 (.tmp 7) (.tmp 22) rfl _ _ rfl rfl _ _ HN0.out.1 (size_info _ g lg s30) (by rw [KA.rowSize HN0.out.2, KA.rowSize lg]) (one_string _) ?_; clear HB; have HG := Lib.hid (HN0.out.row g lg); have HB := Lib.hid (below_setRow HBN.out hsza (g.map Value.string).toArray); clear HN0 HBN; generalize (w2.alloc (.cells Z32 30)).setRow w2.heap.size (g.map Value.string).toArray = Va at HG HB ⊢) | (refine wpList_load_row rfl 30 (.tmp 7) rfl _ rfl _ _ _ _ HG.out.1 Tryd.underlying30 rfl (size_info _ _ HG.out.2 s30) ?_))
  refine (hrk _ (TabAt.below HT1.out (Nat.le_refl _) HB.out)).mono ?_
  rintro e w3 ⟨v, rfl, hr, hb⟩
  have HL := Lib.hid (Kd.R_lower hr HB.out.size)
  clear hr hrk
  replace HG := Lib.hid (HG.out.after hb)
  replace HB := Lib.hid (HB.out.trans (hb.mono HB.out.size))
  clear hb
  obtain ⟨A, cp, ev⟩ := Kd.R_slice HL.out
  subst ev
  have HN0 := Lib.hid (KA.new 30 w3 noKeys noKeys_len Z32 rfl)
  have HBN := Lib.hid (HB.out.alloc HB.out.size (.cells Z32 30))
  have hszb : w.heap.size ≤ w3.heap.size := HB.out.size
  have hneGb : w2.heap.size < w3.heap.size := HG.out.lt
  have HNG := Lib.hid (HG.out.alloc (.cells Z32 30))
  have HNL := Lib.hid (Kd.R_alloc HL.out (.cells Z32 30))
  go_wp2_with (first | (refine wpList_store_row rfl 30 (.tmp 9) (.tmp 31) rfl _ _ rfl rfl _ _ HN0.out.1 (size_info _ x lx s30) (by rw [KA.rowSize HN0.out.2, KA.rowSize lx]) (one_string _) ?_; clear HB HG HL; have HX := Lib.hid (HN0.out.row x lx); have HB := Lib.hid (below_setRow HBN.out hszb (x.map Value.string).toArray); have HG := Lib.hid (HNG.out.setRow_other (show w2.heap.size ≠ w3.heap.size by omega) (x.map Value.string).toArray); have HL := Lib.hid (rowR_setRow HNL.out HN0.out.1 (x.map Value.string).toArray); clear HN0 HBN HNG HNL; generalize (w3.alloc (.cells Z32 30)).setRow w3.heap.size (x.map Value.string).toArray = Vb at HG HX HB HL ⊢))
  refine (hhi _).mono ?_
  rintro e w4 ⟨rfl, hb⟩
  replace HG := Lib.hid (HG.out.after hb)
  replace HX := Lib.hid (HX.out.after hb)
  replace HL := Lib.hid (Kd.R_below HL.out hb)
  replace HB := Lib.hid (HB.out.trans (hb.mono HB.out.size))
  clear hb
  clear hhi
  cases hhb : hasB is id with
  | false =>
    go_wp2_with fail
    go_ret
    exact ⟨rfl, HB.out⟩
  | true =>
    have h16 : id < 16 := by unfold hasB at hhb; simp at hhb; exact hhb.1
    have hbi : bit is id = true := by unfold hasB at hhb; simp at hhb; exact hhb.2
    clear hhb
    have hlO := ownF_len x (pathI (id : Int))
    have hkO := ownF_key x (pathI (id : Int)) (fun n hn => by have := path_small hn; omega)
    have hlg := ownF_len g (pathI (id : Int))
    go_wp2_with (first | (refine wpList_load_row rfl 30 (.tmp 7) rfl _ rfl _ _ _ _ HG.out.1 Tryd.underlying30 rfl (size_info _ _ HG.out.2 s30) ?_))
    refine (hog _).mono ?_
    rintro e w5 ⟨rfl, hb⟩
    replace HG := Lib.hid (HG.out.after hb)
    replace HX := Lib.hid (HX.out.after hb)
    replace HL := Lib.hid (Kd.R_below HL.out hb)
    replace HB := Lib.hid (HB.out.trans (hb.mono HB.out.size))
    clear hb
    clear hog
    have HN0 := Lib.hid (KA.new 30 w5 noKeys noKeys_len Z32 rfl)
    have HBN := Lib.hid (HB.out.alloc HB.out.size (.cells Z32 30))
    have hszc : w.heap.size ≤ w5.heap.size := HB.out.size
    have hneGc : w2.heap.size < w5.heap.size := HG.out.lt
    have HNG := Lib.hid (HG.out.alloc (.cells Z32 30))
    have hneXc : w3.heap.size < w5.heap.size := HX.out.lt
    have HNX := Lib.hid (HX.out.alloc (.cells Z32 30))
    have HNL := Lib.hid (Kd.R_alloc HL.out (.cells Z32 30))
    go_wp2_with (first | (refine wpList_store_row rfl 30 (.tmp 12) (.tmp 42) rfl _ _ rfl rfl _ _ HN0.out.1 (size_info _ (ownF g (pathI (id : Int))) hlg s30) (by rw [KA.rowSize HN0.out.2, KA.rowSize hlg]) (one_string _) ?_; clear HB HG HX HL; have HM := Lib.hid (HN0.out.row (ownF g (pathI (id : Int))) hlg); have HB := Lib.hid (below_setRow HBN.out hszc ((ownF g (pathI (id : Int))).map Value.string).toArray); have HG := Lib.hid (HNG.out.setRow_other (show w2.heap.size ≠ w5.heap.size by omega) ((ownF g (pathI (id : Int))).map Value.string).toArray); have HX := Lib.hid (HNX.out.setRow_other (show w3.heap.size ≠ w5.heap.size by omega) ((ownF g (pathI (id : Int))).map Value.string).toArray); have HL := Lib.hid (rowR_setRow HNL.out HN0.out.1 ((ownF g (pathI (id : Int))).map Value.string).toArray); clear HN0 HBN HNG HNX HNL; generalize (w5.alloc (.cells Z32 30)).setRow w5.heap.size ((ownF g (pathI (id : Int))).map Value.string).toArray = Vc at HG HX HM HB HL ⊢))
    refine (hhw _).mono ?_
    rintro e w6 ⟨rfl, hb⟩
    replace HG := Lib.hid (HG.out.after hb)
    replace HX := Lib.hid (HX.out.after hb)
    replace HM := Lib.hid (HM.out.after hb)
    replace HL := Lib.hid (Kd.R_below HL.out hb)
    replace HB := Lib.hid (HB.out.trans (hb.mono HB.out.size))
    clear hb
    clear hhw
    have hbw : hasB was id = bit was id := by unfold hasB; simp [h16]
    rw [hbw]
    clear hbw
    cases hbt : bit was id with
    | true =>
      have lm := hlg
      have hmine := hml h16 hbi _ (.inl ⟨rfl, hbt⟩)
      generalize ownF g (pathI (id : Int)) = mine at hmine HM lm
      clear hol hlv
      obtain ⟨hm1, hm2⟩ := hmine
      have hln := fun w hc => learn_any mine lm A cp l hll w hc (Kd.R_reads' HL.out).2.1
      rw [hm1] at hln
      clear hml hm1 hlg
      generalize (learnF mine l).2 = nn at hln
      generalize ownF x (pathI (id : Int)) = O at hln hox hlO hkO
      have HKO := Lib.hid hkO; have HM2 := Lib.hid hm2
      clear hkO hm2
      unfold KV at hln hox
      go_wp2_with (first | (refine wpList_load_row rfl 30 (.tmp 12) rfl _ rfl _ _ _ _ HM.out.1 Tryd.underlying30 rfl (size_info _ _ HM.out.2 s30) ?_))
      refine (hln _ (Kd.R_reads' HL.out).2.2).mono ?_
      clear hln
      rintro e w9 ⟨rfl, hb⟩
      replace HG := Lib.hid (HG.out.after hb)
      replace HX := Lib.hid (HX.out.after hb)
      replace HM := Lib.hid (HM.out.after hb)
      replace HL := Lib.hid (Kd.R_below HL.out hb)
      replace HB := Lib.hid (HB.out.trans (hb.mono HB.out.size))
      clear hb
      have HN0 := Lib.hid (KA.new 30 w9 noKeys noKeys_len Z32 rfl)
      have HBN := Lib.hid (HB.out.alloc HB.out.size (.cells Z32 30))
      have hszd : w.heap.size ≤ w9.heap.size := HB.out.size
      have hneGd : w2.heap.size < w9.heap.size := HG.out.lt
      have HNG := Lib.hid (HG.out.alloc (.cells Z32 30))
      have hneXd : w3.heap.size < w9.heap.size := HX.out.lt
      have HNX := Lib.hid (HX.out.alloc (.cells Z32 30))
      have hneMd : w5.heap.size < w9.heap.size := HM.out.lt
      have HNM := Lib.hid (HM.out.alloc (.cells Z32 30))
      have HNL := Lib.hid (Kd.R_alloc HL.out (.cells Z32 30))
      go_wp2_with (first | (refine wpList_store_row rfl 30 (.tmp 13) (.tmp 54) rfl _ _ rfl rfl _ _ HN0.out.1 (size_info _ O hlO s30) (by rw [KA.rowSize HN0.out.2, KA.rowSize hlO]) (one_string _) ?_; clear HB HG HX HM HL; have HN := Lib.hid (HN0.out.row O hlO); have HB := Lib.hid (below_setRow HBN.out hszd (O.map Value.string).toArray); have HG := Lib.hid (HNG.out.setRow_other (show w2.heap.size ≠ w9.heap.size by omega) (O.map Value.string).toArray); have HX := Lib.hid (HNX.out.setRow_other (show w3.heap.size ≠ w9.heap.size by omega) (O.map Value.string).toArray); have HM := Lib.hid (HNM.out.setRow_other (show w5.heap.size ≠ w9.heap.size by omega) (O.map Value.string).toArray); have HL := Lib.hid (rowR_setRow HNL.out HN0.out.1 (O.map Value.string).toArray); clear HN0 HBN HNG HNX HNM HNL; generalize (w9.alloc (.cells Z32 30)).setRow w9.heap.size (O.map Value.string).toArray = Vd at HG HX HM HN HB HL ⊢))
      refine (hrp _).mono ?_
      rintro e w10 ⟨v, rfl, hr, hb⟩
      have HP := Lib.hid (IRow.ofR (Kd.R_lower hr HB.out.size))
      replace HG := Lib.hid (HG.out.after hb)
      replace HX := Lib.hid (HX.out.after hb)
      replace HM := Lib.hid (HM.out.after hb)
      replace HN := Lib.hid (HN.out.after hb)
      replace HL := Lib.hid (Kd.R_below HL.out hb)
      replace HB := Lib.hid (HB.out.trans (hb.mono HB.out.size))
      clear hb
      obtain ⟨Ap, cpp, ep⟩ := Kd.R_slice hr
      subst ep
      clear hr hrp HM HG HL hz hcz
      go_wp2_with fail
      go_loopw [59] (fun i wl => ∃ m : Nat, m ≤ (pathI (id : Int)).length ∧ i = .int .i64 m ∧ RowKit.Below w.heap.size w wl ∧ KA 30 wl (w3.heap.size) x ∧ KA 30 wl (w9.heap.size) O ∧ IRow w.heap.size wl (.slice Ap (pathI (id : Int)).length cpp) (pathI (id : Int))) (fun i _ => (pathI (id : Int)).length - (intOf i).toNat)
      case atStart => exact ⟨0, Nat.zero_le _, rfl, HB.out, HX.out, HN.out, HP.out⟩
      case round =>
        clear HB HX HN HP
        obtain ⟨m, hm, rfl, hbel, hx, hn, hp⟩ := hrel
        have HB := Lib.hid hbel; have HX := Lib.hid hx; have HN := Lib.hid hn; have HP := Lib.hid hp
        clear hbel hx hn hp
        by_cases hlm : m < (pathI (id : Int)).length
        · obtain ⟨ad, e1, e2⟩ := Kd.at_int (Kd.R_reads' HP.out.toR).2.2 (m : Int) (by omega) (by omega)
          subst e1
          have hrd : rd (pathI (id : Int)) (m : Int) = (pathI (id : Int))[m] := by unfold rd; simp [hlm]
          rw [hrd, Int.toNat_natCast] at e2
          have hmem := List.getElem_mem hlm
          have hsm := hran.out _ hmem
          obtain ⟨nd, hnd⟩ : ∃ nd : Nat, (pathI (id : Int))[m] = (nd : Int) := ⟨(pathI (id : Int))[m].toNat, by omega⟩
          rw [hnd] at e2 hmem hsm
          have hnl : nd < 32 := by omega
          have hon : (pathI (id : Int)).contains (nd : Int) = true := List.contains_iff_mem.2 hmem
          have c1 := HX.out.cell (j := nd) hnl
          have c2 := HN.out.cell (j := nd) hnl
          rw [HKO.out nd hnl, if_pos hon] at c2
          have hne := HM2.out nd hnl hon
          have hem : (key x nd).toList.isEmpty = false := by
            rw [Bool.eq_false_iff]
            intro h
            exact hne ((isEmpty_iff _).1 h)
          generalize key x nd = t at c1 c2 hem
          have h0n : (0 : Int) ≤ (nd : Int) := by omega
          have h1n : (nd : Int) < 32 := by omega
          clear hne hon hmem hsm hnd hrd
          go_wp2_with fail
          go_quiet (fail)
          go_wp2_with fail
          go_roundw
          case rel => exact ⟨m + 1, by omega, by simp, pw_below_drewN HB.out _, HX.out.drewN _, HN.out.drewN _, irow_below HP.out (pw_below_drewN (RowKit.Below.refl _ _) _)⟩
          case measure => simp [intOf]; omega
        · have hE := eq_ks 30 Tryd.underlying30 O hlO
          have hG := guard30
          have crn : wr.rangeAt (w9.heap.size) 0 (O.map Value.string) := HN.out.range
          have crx : wr.rangeAt (w3.heap.size) 0 (x.map Value.string) := HX.out.range
          have hlan : (Tryd.prog.info? 30).map (·.size) = some (O.map Value.string).length := by rw [List.length_map, hlO]; exact s30
          have hlax : (Tryd.prog.info? 30).map (·.size) = some (x.map Value.string).length := by rw [List.length_map, lx]; exact s30
          have hua := Tryd.underlying30
          have HSt : ∀ w1 w' : World, (RowKit.Below wr.heap.size wr w1 ∧ w1.rangeAt (w9.heap.size) 0 (O.map Value.string) ∧ w1.rangeAt (w3.heap.size) 0 (x.map Value.string)) → RowKit.Below w1.heap.size w1 w' → (RowKit.Below wr.heap.size wr w' ∧ w'.rangeAt (w9.heap.size) 0 (O.map Value.string) ∧ w'.rangeAt (w3.heap.size) 0 (x.map Value.string)) := by
            rintro w1 w' ⟨h1, _⟩ hb
            have h6 := h1.trans (hb.mono h1.size)
            exact ⟨h6, (HN.out.after h6).range, (HX.out.after h6).range⟩
          have hB0 := RowKit.Below.refl wr.heap.size wr
          go_wp2_with fail
          refine wp_region_noPanic ?_
          refine wp_region_held_drew (S := (fun w' => RowKit.Below wr.heap.size wr w' ∧ w'.rangeAt (w9.heap.size) 0 (O.map Value.string) ∧ w'.rangeAt (w3.heap.size) 0 (x.map Value.string))) (by kernel_rfl) (HSt wr _ ⟨hB0, crn, crx⟩ ((RowKit.Below.refl _ _).drew)) (fun hHeld => ?_)
          refine wpAnyH_take (oi := ⟨_, _, _, _, _, _⟩) (i := 0) rfl (by kernel_rfl) (by kernel_rfl) (by kernel_rfl) (fun _ _ _ h => h) (yieldsIf_load_mid (by rfl) 30 (.tmp 13) rfl (w9.heap.size) 0 rfl (O.map Value.string) _ (fun w h => h.2.1) hua rfl hlan) (by assumption) ?_
          try simp only [Act.put, List.setIfInBounds_toArray, List.set_cons_zero, List.set_cons_succ]
          refine wpAnyH_take (oi := ⟨_, _, _, _, _, _⟩) (i := 1) rfl (by kernel_rfl) (by kernel_rfl) (by kernel_rfl) (fun _ _ _ h => h) (yieldsIf_load_mid (by rfl) 30 (.tmp 9) rfl (w3.heap.size) 0 rfl (x.map Value.string) _ (fun w h => h.2.2) hua rfl hlax) (by assumption) ?_
          try simp only [Act.put, List.setIfInBounds_toArray, List.set_cons_zero, List.set_cons_succ]
          refine wpAnyH_take (oi := ⟨_, _, _, _, _, _⟩) (i := 2) (v := ?_) rfl (by kernel_rfl) (by kernel_rfl) (by kernel_rfl) (fun _ _ _ h => h) (Or.inl ⟨by rfl, ?_⟩) (by assumption) ?_
          rotate_left
          · intro w hSw; (try dsimp only at hSw); first | (go_simp; done) | (go_simp; with_reducible rfl)
          try simp only [Act.put, List.setIfInBounds_toArray, List.set_cons_zero, List.set_cons_succ]
          refine wpAnyH_ready (rs := [3]) (by kernel_rfl) (by simp) ?_
          refine AllReadyH.cons (o := ⟨_, _, _, _, _, _⟩) rfl (fun K hK => ?_) AllReadyH.nil
          go_simp
          refine (hox _).mono ?_; rintro e w' ⟨rfl, hb⟩; (try go_wp2_with fail)
          refine hK.out _ _ (HSt _ _ hHeld hb) (fun hHeld => ?_)
          clear hK K
          try simp only [Act.put, List.setIfInBounds_toArray, List.set_cons_zero, List.set_cons_succ]
          refine wpAnyH_take (oi := ⟨_, _, _, _, _, _⟩) (i := 4) (v := ?_) rfl (by kernel_rfl) (by kernel_rfl) (by kernel_rfl) (fun _ _ _ h => h) (Or.inl ⟨by rfl, ?_⟩) (by assumption) ?_
          rotate_left
          · intro w hSw; (try dsimp only at hSw); first | (go_simp; done) | (go_simp; with_reducible rfl)
          try simp only [Act.put, List.setIfInBounds_toArray, List.set_cons_zero, List.set_cons_succ]
          refine wpAnyH_take (oi := ⟨_, _, _, _, _, _⟩) (i := 5) (v := ?_) rfl (by kernel_rfl) (by kernel_rfl) (by kernel_rfl) (fun _ _ _ h => h) (Or.inl ⟨by rfl, ?_⟩) (by assumption) ?_
          rotate_left
          · intro w hSw; (try dsimp only at hSw); first | (go_simp; done) | (go_simp; with_reducible rfl)
          try simp only [Act.put, List.setIfInBounds_toArray, List.set_cons_zero, List.set_cons_succ]
          refine wpAnyH_done (by kernel_rfl) ?_ _
          refine NoPanic.normal ?_
          have HB2 := Lib.hid (HB.out.trans (hHeld.1.mono HB.out.size))
          go_wp2_with fail
          go_ret
          exact ⟨rfl, HB2.out⟩
    | false =>
      go_wp2_with fail
      refine (hlv _).mono ?_
      rintro e w7 ⟨rfl, hb⟩
      replace HG := Lib.hid (HG.out.after hb)
      replace HX := Lib.hid (HX.out.after hb)
      replace HM := Lib.hid (HM.out.after hb)
      replace HL := Lib.hid (Kd.R_below HL.out hb)
      replace HB := Lib.hid (HB.out.trans (hb.mono HB.out.size))
      clear hb
      go_wp2_with fail
      refine (hol _).mono ?_
      rintro e w8 ⟨rfl, hb⟩
      replace HG := Lib.hid (HG.out.after hb)
      replace HX := Lib.hid (HX.out.after hb)
      replace HM := Lib.hid (HM.out.after hb)
      replace HL := Lib.hid (Kd.R_below HL.out hb)
      replace HB := Lib.hid (HB.out.trans (hb.mono HB.out.size))
      clear hb
      have hmine := hml h16 hbi _ (.inr ⟨rfl, hbt⟩)
      have lm := ownF_len leavesL (pathI (id : Int))
      generalize ownF leavesL (pathI (id : Int)) = mine at hmine lm
      clear hol hlv
      obtain ⟨hm1, hm2⟩ := hmine
      have hln := fun w hc => learn_any mine lm A cp l hll w hc (Kd.R_reads' HL.out).2.1
      rw [hm1] at hln
      clear hml hm1 hlg
      generalize (learnF mine l).2 = nn at hln
      generalize ownF x (pathI (id : Int)) = O at hln hox hlO hkO
      have HKO := Lib.hid hkO; have HM2 := Lib.hid hm2
      clear hkO hm2
      unfold KV at hln hox
      go_wp2_with (first | (refine wpList_store_row rfl 30 (.tmp 12) (.tmp 49) rfl _ _ rfl rfl _ _ HM.out.1 (size_info _ mine lm s30) (by rw [KA.rowSize HM.out.2, KA.rowSize lm]) (one_string _) ?_; replace HL := Lib.hid (rowR_setRow HL.out HM.out.1 (mine.map Value.string).toArray); replace HM := Lib.hid (HM.out.row mine lm); replace HG := Lib.hid (HG.out.setRow_other (show w2.heap.size ≠ w5.heap.size by omega) (mine.map Value.string).toArray); replace HX := Lib.hid (HX.out.setRow_other (show w3.heap.size ≠ w5.heap.size by omega) (mine.map Value.string).toArray); replace HB := Lib.hid (below_setRow HB.out hszc (mine.map Value.string).toArray); generalize w8.setRow (w5.heap.size) (mine.map Value.string).toArray = V8 at HL HB HG HX HM ⊢) | (refine wpList_load_row rfl 30 (.tmp 12) rfl _ rfl _ _ _ _ HM.out.1 Tryd.underlying30 rfl (size_info _ _ HM.out.2 s30) ?_))
      refine (hln _ (Kd.R_reads' HL.out).2.2).mono ?_
      clear hln
      rintro e w9 ⟨rfl, hb⟩
      replace HG := Lib.hid (HG.out.after hb)
      replace HX := Lib.hid (HX.out.after hb)
      replace HM := Lib.hid (HM.out.after hb)
      replace HL := Lib.hid (Kd.R_below HL.out hb)
      replace HB := Lib.hid (HB.out.trans (hb.mono HB.out.size))
      clear hb
      have HN0 := Lib.hid (KA.new 30 w9 noKeys noKeys_len Z32 rfl)
      have HBN := Lib.hid (HB.out.alloc HB.out.size (.cells Z32 30))
      have hszd : w.heap.size ≤ w9.heap.size := HB.out.size
      have hneGd : w2.heap.size < w9.heap.size := HG.out.lt
      have HNG := Lib.hid (HG.out.alloc (.cells Z32 30))
      have hneXd : w3.heap.size < w9.heap.size := HX.out.lt
      have HNX := Lib.hid (HX.out.alloc (.cells Z32 30))
      have hneMd : w5.heap.size < w9.heap.size := HM.out.lt
      have HNM := Lib.hid (HM.out.alloc (.cells Z32 30))
      have HNL := Lib.hid (Kd.R_alloc HL.out (.cells Z32 30))
      go_wp2_with (first | (refine wpList_store_row rfl 30 (.tmp 13) (.tmp 54) rfl _ _ rfl rfl _ _ HN0.out.1 (size_info _ O hlO s30) (by rw [KA.rowSize HN0.out.2, KA.rowSize hlO]) (one_string _) ?_; clear HB HG HX HM HL; have HN := Lib.hid (HN0.out.row O hlO); have HB := Lib.hid (below_setRow HBN.out hszd (O.map Value.string).toArray); have HG := Lib.hid (HNG.out.setRow_other (show w2.heap.size ≠ w9.heap.size by omega) (O.map Value.string).toArray); have HX := Lib.hid (HNX.out.setRow_other (show w3.heap.size ≠ w9.heap.size by omega) (O.map Value.string).toArray); have HM := Lib.hid (HNM.out.setRow_other (show w5.heap.size ≠ w9.heap.size by omega) (O.map Value.string).toArray); have HL := Lib.hid (rowR_setRow HNL.out HN0.out.1 (O.map Value.string).toArray); clear HN0 HBN HNG HNX HNM HNL; generalize (w9.alloc (.cells Z32 30)).setRow w9.heap.size (O.map Value.string).toArray = Vd at HG HX HM HN HB HL ⊢))
      refine (hrp _).mono ?_
      rintro e w10 ⟨v, rfl, hr, hb⟩
      have HP := Lib.hid (IRow.ofR (Kd.R_lower hr HB.out.size))
      replace HG := Lib.hid (HG.out.after hb)
      replace HX := Lib.hid (HX.out.after hb)
      replace HM := Lib.hid (HM.out.after hb)
      replace HN := Lib.hid (HN.out.after hb)
      replace HL := Lib.hid (Kd.R_below HL.out hb)
      replace HB := Lib.hid (HB.out.trans (hb.mono HB.out.size))
      clear hb
      obtain ⟨Ap, cpp, ep⟩ := Kd.R_slice hr
      subst ep
      clear hr hrp HM HG HL hz hcz
      go_wp2_with fail
      go_loopw [59] (fun i wl => ∃ m : Nat, m ≤ (pathI (id : Int)).length ∧ i = .int .i64 m ∧ RowKit.Below w.heap.size w wl ∧ KA 30 wl (w3.heap.size) x ∧ KA 30 wl (w9.heap.size) O ∧ IRow w.heap.size wl (.slice Ap (pathI (id : Int)).length cpp) (pathI (id : Int))) (fun i _ => (pathI (id : Int)).length - (intOf i).toNat)
      case atStart => exact ⟨0, Nat.zero_le _, rfl, HB.out, HX.out, HN.out, HP.out⟩
      case round =>
        clear HB HX HN HP
        obtain ⟨m, hm, rfl, hbel, hx, hn, hp⟩ := hrel
        have HB := Lib.hid hbel; have HX := Lib.hid hx; have HN := Lib.hid hn; have HP := Lib.hid hp
        clear hbel hx hn hp
        by_cases hlm : m < (pathI (id : Int)).length
        · obtain ⟨ad, e1, e2⟩ := Kd.at_int (Kd.R_reads' HP.out.toR).2.2 (m : Int) (by omega) (by omega)
          subst e1
          have hrd : rd (pathI (id : Int)) (m : Int) = (pathI (id : Int))[m] := by unfold rd; simp [hlm]
          rw [hrd, Int.toNat_natCast] at e2
          have hmem := List.getElem_mem hlm
          have hsm := hran.out _ hmem
          obtain ⟨nd, hnd⟩ : ∃ nd : Nat, (pathI (id : Int))[m] = (nd : Int) := ⟨(pathI (id : Int))[m].toNat, by omega⟩
          rw [hnd] at e2 hmem hsm
          have hnl : nd < 32 := by omega
          have hon : (pathI (id : Int)).contains (nd : Int) = true := List.contains_iff_mem.2 hmem
          have c1 := HX.out.cell (j := nd) hnl
          have c2 := HN.out.cell (j := nd) hnl
          rw [HKO.out nd hnl, if_pos hon] at c2
          have hne := HM2.out nd hnl hon
          have hem : (key x nd).toList.isEmpty = false := by
            rw [Bool.eq_false_iff]
            intro h
            exact hne ((isEmpty_iff _).1 h)
          generalize key x nd = t at c1 c2 hem
          have h0n : (0 : Int) ≤ (nd : Int) := by omega
          have h1n : (nd : Int) < 32 := by omega
          clear hne hon hmem hsm hnd hrd
          go_wp2_with fail
          go_quiet (fail)
          go_wp2_with fail
          go_roundw
          case rel => exact ⟨m + 1, by omega, by simp, pw_below_drewN HB.out _, HX.out.drewN _, HN.out.drewN _, irow_below HP.out (pw_below_drewN (RowKit.Below.refl _ _) _)⟩
          case measure => simp [intOf]; omega
        · have hE := eq_ks 30 Tryd.underlying30 O hlO
          have hG := guard30
          have crn : wr.rangeAt (w9.heap.size) 0 (O.map Value.string) := HN.out.range
          have crx : wr.rangeAt (w3.heap.size) 0 (x.map Value.string) := HX.out.range
          have hlan : (Tryd.prog.info? 30).map (·.size) = some (O.map Value.string).length := by rw [List.length_map, hlO]; exact s30
          have hlax : (Tryd.prog.info? 30).map (·.size) = some (x.map Value.string).length := by rw [List.length_map, lx]; exact s30
          have hua := Tryd.underlying30
          have HSt : ∀ w1 w' : World, (RowKit.Below wr.heap.size wr w1 ∧ w1.rangeAt (w9.heap.size) 0 (O.map Value.string) ∧ w1.rangeAt (w3.heap.size) 0 (x.map Value.string)) → RowKit.Below w1.heap.size w1 w' → (RowKit.Below wr.heap.size wr w' ∧ w'.rangeAt (w9.heap.size) 0 (O.map Value.string) ∧ w'.rangeAt (w3.heap.size) 0 (x.map Value.string)) := by
            rintro w1 w' ⟨h1, _⟩ hb
            have h6 := h1.trans (hb.mono h1.size)
            exact ⟨h6, (HN.out.after h6).range, (HX.out.after h6).range⟩
          have hB0 := RowKit.Below.refl wr.heap.size wr
          go_wp2_with fail
          refine wp_region_noPanic ?_
          refine wp_region_held_drew (S := (fun w' => RowKit.Below wr.heap.size wr w' ∧ w'.rangeAt (w9.heap.size) 0 (O.map Value.string) ∧ w'.rangeAt (w3.heap.size) 0 (x.map Value.string))) (by kernel_rfl) (HSt wr _ ⟨hB0, crn, crx⟩ ((RowKit.Below.refl _ _).drew)) (fun hHeld => ?_)
          refine wpAnyH_take (oi := ⟨_, _, _, _, _, _⟩) (i := 0) rfl (by kernel_rfl) (by kernel_rfl) (by kernel_rfl) (fun _ _ _ h => h) (yieldsIf_load_mid (by rfl) 30 (.tmp 13) rfl (w9.heap.size) 0 rfl (O.map Value.string) _ (fun w h => h.2.1) hua rfl hlan) (by assumption) ?_
          try simp only [Act.put, List.setIfInBounds_toArray, List.set_cons_zero, List.set_cons_succ]
          refine wpAnyH_take (oi := ⟨_, _, _, _, _, _⟩) (i := 1) rfl (by kernel_rfl) (by kernel_rfl) (by kernel_rfl) (fun _ _ _ h => h) (yieldsIf_load_mid (by rfl) 30 (.tmp 9) rfl (w3.heap.size) 0 rfl (x.map Value.string) _ (fun w h => h.2.2) hua rfl hlax) (by assumption) ?_
          try simp only [Act.put, List.setIfInBounds_toArray, List.set_cons_zero, List.set_cons_succ]
          refine wpAnyH_take (oi := ⟨_, _, _, _, _, _⟩) (i := 2) (v := ?_) rfl (by kernel_rfl) (by kernel_rfl) (by kernel_rfl) (fun _ _ _ h => h) (Or.inl ⟨by rfl, ?_⟩) (by assumption) ?_
          rotate_left
          · intro w hSw; (try dsimp only at hSw); first | (go_simp; done) | (go_simp; with_reducible rfl)
          try simp only [Act.put, List.setIfInBounds_toArray, List.set_cons_zero, List.set_cons_succ]
          refine wpAnyH_ready (rs := [3]) (by kernel_rfl) (by simp) ?_
          refine AllReadyH.cons (o := ⟨_, _, _, _, _, _⟩) rfl (fun K hK => ?_) AllReadyH.nil
          go_simp
          refine (hox _).mono ?_; rintro e w' ⟨rfl, hb⟩; (try go_wp2_with fail)
          refine hK.out _ _ (HSt _ _ hHeld hb) (fun hHeld => ?_)
          clear hK K
          try simp only [Act.put, List.setIfInBounds_toArray, List.set_cons_zero, List.set_cons_succ]
          refine wpAnyH_take (oi := ⟨_, _, _, _, _, _⟩) (i := 4) (v := ?_) rfl (by kernel_rfl) (by kernel_rfl) (by kernel_rfl) (fun _ _ _ h => h) (Or.inl ⟨by rfl, ?_⟩) (by assumption) ?_
          rotate_left
          · intro w hSw; (try dsimp only at hSw); first | (go_simp; done) | (go_simp; with_reducible rfl)
          try simp only [Act.put, List.setIfInBounds_toArray, List.set_cons_zero, List.set_cons_succ]
          refine wpAnyH_take (oi := ⟨_, _, _, _, _, _⟩) (i := 5) (v := ?_) rfl (by kernel_rfl) (by kernel_rfl) (by kernel_rfl) (fun _ _ _ h => h) (Or.inl ⟨by rfl, ?_⟩) (by assumption) ?_
          rotate_left
          · intro w hSw; (try dsimp only at hSw); first | (go_simp; done) | (go_simp; with_reducible rfl)
          try simp only [Act.put, List.setIfInBounds_toArray, List.set_cons_zero, List.set_cons_succ]
          refine wpAnyH_done (by kernel_rfl) ?_ _
          refine NoPanic.normal ?_
          have HB2 := Lib.hid (HB.out.trans (hHeld.1.mono HB.out.size))
          go_wp2_with fail
          go_ret
          exact ⟨rfl, HB2.out⟩
end Go.Proofs.YtecimagjeelgbaaDoor.Pr
