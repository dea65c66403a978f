import Derived.Test.YtecimagjeelgbaaDoorCAlive
/- PathOwn: its walk. -/
set_option linter.unusedVariables false
set_option linter.unusedSimpArgs false
namespace Go.Proofs.YtecimagjeelgbaaDoor.Pr
open Go.RowKit Go.Proofs.YtecimagjeelgbaaDoorW.PrintWords Go.Proofs.YtecimagjeelgbaaDoorW.PrintLast Go.Proofs.YtecimagjeelgbaaDoorW.PrintMore Go.Proofs.YtecimagjeelgbaaDoor.TT

theorem key_ext {a b : List ByteArray} (ha : a.length = 32) (hb : b.length = 32) (h : ∀ j, j < 32 → key a j = key b j) : a = b := by
  apply List.ext_getElem (by omega)
  intro j h1 h2
  have := h j (by omega)
  unfold key at this
  simpa [h1, h2] using this
theorem key_none (j : Nat) : key noKeys j = ByteArray.empty := by
  unfold key noKeys
  rw [List.getD_eq_getElem?_getD, List.getElem?_replicate]
  split <;> rfl
theorem own_key (ks : List ByteArray) (j : Nat) (hj : j < 32) : ∀ (P : List Int) (o : List ByteArray), o.length = 32 → (∀ n ∈ P, 0 ≤ n ∧ n ≤ 31) → key (P.foldl (fun o n => o.set n.toNat (key ks n.toNat)) o) j = if P.contains (j : Int) then key ks j else key o j := by
  intro P
  induction P with
  | nil => intro o _ _; rfl
  | cons n P ih =>
    intro o ho hP
    have hn := hP n (List.mem_cons_self ..)
    rw [List.foldl_cons, ih _ (by rw [List.length_set]; exact ho) (fun m hm => hP m (List.mem_cons_of_mem _ hm))]
    rw [key_set o ho n.toNat (by omega)]
    by_cases hc : P.contains (j : Int) = true
    · rw [if_pos hc, if_pos (by rw [List.contains_cons, hc, Bool.or_true])]
    · rw [if_neg hc]
      by_cases e : (j : Int) = n
      · rw [if_pos (by omega), if_pos (by rw [List.contains_cons, beq_iff_eq.mpr e, Bool.true_or]), show n.toNat = j by omega]
      · rw [if_neg (by omega), if_neg (by rw [List.contains_cons, beq_eq_false_iff_ne.mpr e, Bool.false_or]; exact hc)]
theorem ownF_key (ks : List ByteArray) (P : List Int) (hP : ∀ n ∈ P, 0 ≤ n ∧ n ≤ 31) (j : Nat) (hj : j < 32) : key (ownF ks P) j = if P.contains (j : Int) then key ks j else ByteArray.empty := by
  unfold ownF
  rw [own_key ks j hj P noKeys noKeys_len hP, key_none]
theorem own_own (ks : List ByteArray) (P : List Int) (hP : ∀ n ∈ P, 0 ≤ n ∧ n ≤ 31) : ownF (ownF ks P) P = ownF ks P := by
  refine key_ext (ownF_len _ _) (ownF_len _ _) (fun j hj => ?_)
  rw [ownF_key _ P hP j hj, ownF_key ks P hP j hj]
  split <;> rfl
theorem empty_list : ByteArray.empty.toList = [] := by rw [Go.ByteArray.toList_eq]; rfl
theorem empty_empty : isEmpty ByteArray.empty = true := by unfold isEmpty; rw [empty_list]; rfl
theorem isEmpty_iff (t : ByteArray) : isEmpty t = true ↔ t = ByteArray.empty := by
  unfold isEmpty
  constructor
  · intro h
    rw [List.isEmpty_iff] at h
    exact (Ev03.toList_iff t ByteArray.empty).1 (h.trans empty_list.symm)
  · intro h; subst h; exact empty_empty
/-- How many keys there are among the first. -/
def cntN (ks : List ByteArray) (j : Nat) : Nat := (keptL (ks.take j)).length
theorem cnt_succ {ks : List ByteArray} (hl : ks.length = 32) {j : Nat} (hj : j < 32) : cntN ks (j + 1) = cntN ks j + if isEmpty (key ks j) then 0 else 1 := by
  have hjl : j < ks.length := by omega
  have hk : key ks j = ks[j] := by unfold key; simp [hjl]
  unfold cntN keptL
  rw [List.take_succ_eq_append_getElem hjl, List.filter_append, List.length_append, hk]
  congr 1
  by_cases he : isEmpty ks[j] = true
  · rw [if_pos he, List.filter_cons_of_neg (by simp [he])]; rfl
  · rw [if_neg he, List.filter_cons_of_pos (by simp [he])]; rfl
theorem cnt_le (ks : List ByteArray) (j : Nat) : cntN ks j ≤ j := by
  unfold cntN keptL
  exact Nat.le_trans (List.length_filter_le _ _) (by rw [List.length_take]; omega)
theorem cnt_all {ks : List ByteArray} (hl : ks.length = 32) (h0 : isEmpty (key ks 0) = true) : cntN ks 32 = (haveF ks).length := by
  unfold cntN haveF
  rw [List.take_of_length_le (by omega)]
  cases ks with
  | nil => cases hl
  | cons t r =>
    have : isEmpty t = true := h0
    unfold keptL
    rw [List.filter_cons_of_neg (by simp [this])]
    rfl
theorem rpath_calls (id : Int) (h0 : 0 ≤ id) (h1 : id ≤ 255) (w : World) :
    Calls Tryd.prog 18 #[.int .u8 id] w fun e w' => ∃ v, e = .returned v ∧ Kd.R (Kd.int .i64) 3 w' w.heap.size (fun _ => True) v (pathI id) ∧ RowKit.Below w.heap.size w w' := by
  obtain ⟨K, hK⟩ := rpath_f id h0 h1
  exact chantryref14_Path.calls K _ _ w (hK K (Nat.le_refl _))
attribute [local go_sem] beq_self_eq_true   -- for this text's walk alone
set_option maxHeartbeats 4000000 in
set_option maxRecDepth 100000 in
theorem PathOwn (ks : List ByteArray) (hl : ks.length = 32) (id : Int) (h0 : 0 ≤ id) (h1 : id ≤ 255) (w : World) (HT0 : TabAt w) :
    Calls Tryd.prog 6 #[KV ks, .int .u8 id] w fun e w' => e = .returned (.bool true) ∧ RowKit.Below w.heap.size w w' := by
  have hca := cells_agg ks
  have hz := zero30
  have hcz := cellsZ
  have hal := alive_any
  have hfw := few_any ks hl
  have hown := own_any ks hl id h0 h1
  have hrp := rpath_calls id h0 h1
  have hran := Lib.hid (fun n (h : n ∈ pathI id) => path_small h)
  have hle := path_le id
  have hown2 := own_any (ownF ks (pathI id)) (ownF_len _ _) id h0 h1
  rw [own_own ks (pathI id) (fun n hn => by have := path_small hn; omega)] at hown2
  have hkey := ownF_key ks (pathI id) (fun n hn => by have := path_small hn; omega)
  have h0e : isEmpty (key (ownF ks (pathI id)) 0) = true := by
    rw [hkey 0 (by omega), if_neg]
    · exact empty_empty
    · intro h
      have := path_small (List.contains_iff_mem.1 h)
      omega
  have hlO := ownF_len ks (pathI id)
  have hhv := have_any (ownF ks (pathI id)) hlO
  have hcnt := Lib.hid (cnt_all hlO h0e)
  generalize ownF ks (pathI id) = O at hown hown2 hkey hlO hhv hcnt
  have HKEY := Lib.hid hkey
  clear h0e hkey
  generalize pathI id = P at hrp hran hle HKEY
  unfold KV at hfw hown hown2 hhv ⊢
  go_enter Tryd.func6, Tryd.ntmps6
  have HK := Lib.hid (KA.new 27 w ks hl (ks.map Value.string).toArray rfl)
  have HB := Lib.hid ((RowKit.Below.refl w.heap.size w).alloc (Nat.le_refl _) (.cells (ks.map Value.string).toArray 27))
  go_wp2_with fail
  generalize w.alloc (.cells (ks.map Value.string).toArray 27) = W at HK HB ⊢
  refine (hal W (TabAt.below HT0 (Nat.le_refl _) HB.out)).mono ?_
  rintro e w2 ⟨rfl, hb⟩
  have HK2 := Lib.hid (HK.out.after hb)
  have HB2 := Lib.hid (HB.out.trans (hb.mono HB.out.size))
  clear hb HK HB
  go_wp2_with (first | refine wpList_load_row rfl 27 (.tmp 2) rfl _ rfl _ _ _ _ HK2.out.1 Tryd.underlying27 rfl (size_info _ _ hl s27) ?_)
  refine (hfw w2).mono ?_
  rintro e w3 ⟨rfl, hb⟩
  have HK3 := Lib.hid (HK2.out.after hb)
  have HB3 := Lib.hid (HB2.out.trans (hb.mono HB2.out.size))
  clear hb HK2 HB2
  cases hfb : fewB ks with
  | false =>
    go_wp2_with fail
    go_ret
    exact ⟨rfl, HB3.out⟩
  | true =>
    clear hfb hfw
    go_wp2_with (first | refine wpList_load_row rfl 27 (.tmp 2) rfl _ rfl _ _ _ _ HK3.out.1 Tryd.underlying27 rfl (size_info _ _ hl s27) ?_)
    refine (hown w3).mono ?_
    rintro e w4 ⟨rfl, hb⟩
    have HK4 := Lib.hid ((HK3.out.after hb).alloc (.cells Z32 30))
    have hb4 := HB3.out.trans (hb.mono HB3.out.size)
    have hsz4 := hb4.size
    have HB4 := Lib.hid (hb4.alloc hb4.size (.cells Z32 30))
    have HO4 := Lib.hid (KA.new 30 w4 noKeys noKeys_len Z32 rfl)
    have hne4 : w.heap.size < w4.heap.size := (HK3.out.after hb).lt
    clear hb hb4 HK3 HB3 hown
    go_wp2_with (first | (refine wpList_store_row rfl 30 (.tmp 5) (.tmp 19) rfl _ _ rfl rfl _ _ HO4.out.1 (size_info _ O hlO s30) (by rw [KA.rowSize HO4.out.2, KA.rowSize hlO]) (one_string _) ?_; have HO := Lib.hid (HO4.out.row O hlO); have HK := Lib.hid (HK4.out.setRow_other (show w.heap.size ≠ w4.heap.size by omega) (O.map Value.string).toArray); have HB := Lib.hid (below_setRow HB4.out hsz4 (O.map Value.string).toArray); clear HO4 HK4 HB4; generalize (w4.alloc (.cells Z32 30)).setRow w4.heap.size (O.map Value.string).toArray = V at HO HK HB ⊢) | refine wpList_load_row rfl 30 (.tmp 5) rfl _ rfl _ _ _ _ HO.out.1 Tryd.underlying30 rfl (size_info _ _ hlO s30) ?_)
    clear hca hz hcz hal
    go_loopw [6, 21] (fun n i wr => ∃ j : Nat, j ≤ 32 ∧ i = .int .i64 j ∧ n = .int .i64 (cntN O j : Int) ∧ RowKit.Below w.heap.size w wr ∧ KA 27 wr w.heap.size ks ∧ KA 30 wr w4.heap.size O) (fun _ i _ => 32 - (intOf i).toNat)
    case atStart => exact ⟨0, Nat.zero_le _, rfl, rfl, HB.out, HK.out, HO.out⟩
    case round =>
      clear HB HK HO
      obtain ⟨j, hj, rfl, rfl, hbel, hk, ho⟩ := hrel
      have HB := Lib.hid hbel; have HK := Lib.hid hk; have HO := Lib.hid ho
      clear hbel hk ho
      by_cases hlt : j < 32
      · have hix := index_ks 30 Tryd.underlying30 O hlO j hlt
        have hcs := cnt_succ hlO hlt
        have hcl := cnt_le O j
        have hkj := HKEY.out j hlt
        generalize key O j = t at hix hcs hkj
        have HCS := Lib.hid hcs; have HKJ := Lib.hid hkj
        clear hcs hkj
        go_wp2_with fail
        refine (hrp wr).mono ?_
        rintro e w5 ⟨v, rfl, hr, hb⟩
        have HB5 := Lib.hid (HB.out.trans (hb.mono HB.out.size))
        have HK5 := Lib.hid (HK.out.after hb); have HO5 := Lib.hid (HO.out.after hb)
        have HP := Lib.hid (IRow.ofR (Kd.R_lower hr HB.out.size))
        clear hb HB HK HO
        obtain ⟨Ap, cp, ep⟩ := Kd.R_slice hr
        subst ep
        clear hr
        go_wp2_with fail
        go_loopw [9, 28] (fun on i wl => ∃ m : Nat, m ≤ P.length ∧ i = .int .i64 m ∧ on = .bool ((P.take m).contains (j : Int)) ∧ RowKit.Below w.heap.size w wl ∧ KA 27 wl w.heap.size ks ∧ KA 30 wl w4.heap.size O ∧ IRow w.heap.size wl (.slice Ap P.length cp) P) (fun _ i _ => P.length - (intOf i).toNat)
        case atStart => exact ⟨0, Nat.zero_le _, rfl, rfl, HB5.out, HK5.out, HO5.out, HP.out⟩
        case round =>
          clear HB5 HK5 HO5 HP
          obtain ⟨m, hm, rfl, rfl, hbel, hk, ho, hp⟩ := hrel
          by_cases hlm : m < P.length
          · obtain ⟨ad, e1, e2⟩ := Kd.at_int (Kd.R_reads' hp.toR).2.2 (m : Int) (by omega) (by omega)
            subst e1
            have hrd : rd P (m : Int) = P[m] := by unfold rd; simp [hlm]
            rw [hrd, Int.toNat_natCast] at e2
            have htk : (P.take (m + 1)).contains (j : Int) = ((P.take m).contains (j : Int) || (P[m] == (j : Int))) := by
              rw [List.take_succ_eq_append_getElem hlm]
              rw [Bool.eq_iff_iff, Bool.or_eq_true, List.contains_iff_mem, List.contains_iff_mem, List.mem_append, List.mem_singleton, beq_iff_eq]
              exact ⟨fun h => h.imp (fun x => x) Eq.symm, fun h => h.imp (fun x => x) Eq.symm⟩
            generalize P[m] = pm at e2 htk
            generalize (P.take m).contains (j : Int) = on at htk
            have HTK := Lib.hid htk
            have HB := Lib.hid hbel; have HK := Lib.hid hk; have HO := Lib.hid ho; have HP := Lib.hid hp
            clear hbel hk ho hp htk hrd
            cases on with
            | true =>
              go_wp2_with fail
              go_roundw
              case rel => exact ⟨m + 1, by omega, by simp, by rw [HTK.out]; rfl, HB.out, HK.out, HO.out, HP.out⟩
              case measure => simp [intOf]; omega
            | false =>
              by_cases hpj : pm = (j : Int)
              · subst hpj
                go_wp2_with fail
                go_roundw
                case rel => exact ⟨m + 1, by omega, by simp, by rw [HTK.out]; simp, HB.out, HK.out, HO.out, HP.out⟩
                case measure => simp [intOf]; omega
              · go_wp2_with fail
                go_roundw
                case rel => exact ⟨m + 1, by omega, by simp, by rw [HTK.out]; simp [hpj], HB.out, HK.out, HO.out, HP.out⟩
                case measure => simp [intOf]; omega
          · obtain rfl : m = P.length := by omega
            rw [List.take_length] at *
            have HB := Lib.hid hbel; have HK := Lib.hid hk; have HO := Lib.hid ho
            clear hbel hk ho hp
            have hck := HK.out.cell (j := j) hlt
            cases hon : P.contains (j : Int) with
            | true =>
              have e := HKJ.out
              rw [if_pos hon] at e
              rw [← e] at hck
              clear e
              by_cases hem : isEmpty t = true
              · have HC := Lib.hid (show cntN O (j + 1) = cntN O j by rw [HCS.out, if_pos hem]; rfl)
                rw [isEmpty_iff] at hem
                subst hem
                go_wp2_with fail
                go_roundw
                case rel => exact ⟨j + 1, by omega, by simp, by rw [HC.out], HB.out, HK.out, HO.out⟩
                case measure => simp [intOf]; omega
              · have HC := Lib.hid (show cntN O (j + 1) = cntN O j + 1 by rw [HCS.out, if_neg hem])
                have hem2 : t.toList.isEmpty = false := Bool.eq_false_iff.mpr hem
                go_wp2_with fail
                go_roundw
                case rel => exact ⟨j + 1, by omega, by simp, by rw [HC.out]; simp, HB.out, HK.out, HO.out⟩
                case measure => simp [intOf]; omega
            | false =>
              have e := HKJ.out
              rw [if_neg (by rw [hon]; decide)] at e
              have HC := Lib.hid (show cntN O (j + 1) = cntN O j by rw [HCS.out, if_pos (by rw [e]; exact empty_empty)]; rfl)
              subst e
              go_wp2_with fail
              go_roundw
              case rel => exact ⟨j + 1, by omega, by simp, by rw [HC.out], HB.out, HK.out, HO.out⟩
              case measure => simp [intOf]; omega
      · obtain rfl : j = 32 := by omega
        have hE := eq_ks 30 Tryd.underlying30 O hlO
        have hG := guard30
        rw [hcnt.out]
        have hlen : (haveF O).length ≤ 32 := by rw [← hcnt.out]; exact cnt_le O 32
        generalize haveF O = H at hhv hlen ⊢
        have hbe : ((H.length : Int) == (H.length : Int)) = true := by simp
        have hbd : decide ((H.length : Int) = (H.length : Int)) = true := by simp
        have cr : wr.rangeAt w4.heap.size 0 (O.map Value.string) := HO.out.range
        have hla : (Tryd.prog.info? 30).map (·.size) = some (O.map Value.string).length := by rw [List.length_map, hlO]; exact s30
        have hua := Tryd.underlying30
        have HSt : ∀ w1 w' : World, (RowKit.Below wr.heap.size wr w1 ∧ w1.rangeAt w4.heap.size 0 (O.map Value.string)) → RowKit.Below w1.heap.size w1 w' → (RowKit.Below wr.heap.size wr w' ∧ w'.rangeAt w4.heap.size 0 (O.map Value.string)) := by
          rintro w1 w' ⟨h1, _⟩ hb
          have h6 := h1.trans (hb.mono h1.size)
          exact ⟨h6, (HO.out.after h6).range⟩
        have hB0 := RowKit.Below.refl wr.heap.size wr
        clear HK hcnt HKEY hran hrp
        go_wp2_with fail
        refine wp_region_noPanic ?_
        refine wp_region_held_drew (S := (fun w' => RowKit.Below wr.heap.size wr w' ∧ w'.rangeAt w4.heap.size 0 (O.map Value.string))) (by kernel_rfl) (HSt wr _ ⟨hB0, cr⟩ ((RowKit.Below.refl _ _).drew)) (fun hHeld => ?_)
        refine wpAnyH_take (oi := ⟨_, _, _, _, _, _⟩) (i := 0) (v := ?_) rfl (by kernel_rfl) (by kernel_rfl) (by kernel_rfl) (fun _ _ _ h => h) (Or.inl ⟨by rfl, ?_⟩) (by assumption) ?_
        rotate_left
        · intro w hSw; (try dsimp only at hSw); first | (go_simp; done) | (go_simp; with_reducible rfl)
        try simp only [Act.put, List.setIfInBounds_toArray, List.set_cons_zero, List.set_cons_succ]
        refine wpAnyH_take (oi := ⟨_, _, _, _, _, _⟩) (i := 1) rfl (by kernel_rfl) (by kernel_rfl) (by kernel_rfl) (fun _ _ _ h => h) (yieldsIf_load_mid (by rfl) 30 (.tmp 5) rfl w4.heap.size 0 rfl (O.map Value.string) _ (fun w h => h.2) hua rfl hla) (by assumption) ?_
        try simp only [Act.put, List.setIfInBounds_toArray, List.set_cons_zero, List.set_cons_succ]
        refine wpAnyH_ready (rs := [2]) (by kernel_rfl) (by simp) ?_
        refine AllReadyH.cons (o := ⟨_, _, _, _, _, _⟩) rfl (fun K hK => ?_) AllReadyH.nil
        go_simp
        refine (hhv _).mono ?_; rintro e w' ⟨v, rfl, hr, hb⟩; obtain ⟨A', c', ev⟩ := Kd.R_slice hr; subst ev; clear hr; (try go_wp2_with fail)
        refine hK.out _ _ (HSt _ _ hHeld hb) (fun hHeld => ?_)
        clear hK K
        try simp only [Act.put, List.setIfInBounds_toArray, List.set_cons_zero, List.set_cons_succ]
        refine wpAnyH_take (oi := ⟨_, _, _, _, _, _⟩) (i := 3) (v := ?_) rfl (by kernel_rfl) (by kernel_rfl) (by kernel_rfl) (fun _ _ _ h => h) (Or.inl ⟨by rfl, ?_⟩) (by assumption) ?_
        rotate_left
        · intro w hSw; (try dsimp only at hSw); first | (go_simp; done) | (go_simp; with_reducible rfl)
        try simp only [Act.put, List.setIfInBounds_toArray, List.set_cons_zero, List.set_cons_succ]
        refine wpAnyH_take (oi := ⟨_, _, _, _, _, _⟩) (i := 4) (v := ?_) rfl (by kernel_rfl) (by kernel_rfl) (by kernel_rfl) (fun _ _ _ h => h) (Or.inl ⟨by rfl, ?_⟩) (by assumption) ?_
        rotate_left
        · intro w hSw; (try dsimp only at hSw); first | (go_simp; done) | (go_simp; with_reducible rfl)
        try simp only [Act.put, List.setIfInBounds_toArray, List.set_cons_zero, List.set_cons_succ]
        refine wpAnyH_take (oi := ⟨_, _, _, _, _, _⟩) (i := 5) (v := ?_) rfl (by kernel_rfl) (by kernel_rfl) (by kernel_rfl) (fun _ _ _ h => h) (Or.inl ⟨by rfl, ?_⟩) (by assumption) ?_
        rotate_left
        · intro w hSw; (try dsimp only at hSw); first | (go_simp; done) | (go_simp; with_reducible rfl)
        try simp only [Act.put, List.setIfInBounds_toArray, List.set_cons_zero, List.set_cons_succ]
        refine wpAnyH_take (oi := ⟨_, _, _, _, _, _⟩) (i := 6) rfl (by kernel_rfl) (by kernel_rfl) (by kernel_rfl) (fun _ _ _ h => h) (yieldsIf_load_mid (by rfl) 30 (.tmp 5) rfl w4.heap.size 0 rfl (O.map Value.string) _ (fun w h => h.2) hua rfl hla) (by assumption) ?_
        try simp only [Act.put, List.setIfInBounds_toArray, List.set_cons_zero, List.set_cons_succ]
        refine wpAnyH_take (oi := ⟨_, _, _, _, _, _⟩) (i := 7) (v := ?_) rfl (by kernel_rfl) (by kernel_rfl) (by kernel_rfl) (fun _ _ _ h => h) (Or.inl ⟨by rfl, ?_⟩) (by assumption) ?_
        rotate_left
        · intro w hSw; (try dsimp only at hSw); first | (go_simp; done) | (go_simp; with_reducible rfl)
        try simp only [Act.put, List.setIfInBounds_toArray, List.set_cons_zero, List.set_cons_succ]
        refine wpAnyH_take (oi := ⟨_, _, _, _, _, _⟩) (i := 9) rfl (by kernel_rfl) (by kernel_rfl) (by kernel_rfl) (fun _ _ _ h => h) (yieldsIf_load_mid (by rfl) 30 (.tmp 5) rfl w4.heap.size 0 rfl (O.map Value.string) _ (fun w h => h.2) hua rfl hla) (by assumption) ?_
        try simp only [Act.put, List.setIfInBounds_toArray, List.set_cons_zero, List.set_cons_succ]
        refine wpAnyH_ready (rs := [8]) (by kernel_rfl) (by simp) ?_
        refine AllReadyH.cons (o := ⟨_, _, _, _, _, _⟩) rfl (fun K hK => ?_) AllReadyH.nil
        go_simp
        refine (hown2 _).mono ?_; rintro e w' ⟨rfl, hb⟩; (try go_wp2_with fail)
        refine hK.out _ _ (HSt _ _ hHeld hb) (fun hHeld => ?_)
        clear hK K
        try simp only [Act.put, List.setIfInBounds_toArray, List.set_cons_zero, List.set_cons_succ]
        refine wpAnyH_take (oi := ⟨_, _, _, _, _, _⟩) (i := 10) (v := ?_) rfl (by kernel_rfl) (by kernel_rfl) (by kernel_rfl) (fun _ _ _ h => h) (Or.inl ⟨by rfl, ?_⟩) (by assumption) ?_
        rotate_left
        · intro w hSw; (try dsimp only at hSw); first | (go_simp; done) | (go_simp; with_reducible rfl)
        try simp only [Act.put, List.setIfInBounds_toArray, List.set_cons_zero, List.set_cons_succ]
        refine wpAnyH_take (oi := ⟨_, _, _, _, _, _⟩) (i := 11) (v := ?_) rfl (by kernel_rfl) (by kernel_rfl) (by kernel_rfl) (fun _ _ _ h => h) (Or.inl ⟨by rfl, ?_⟩) (by assumption) ?_
        rotate_left
        · intro w hSw; (try dsimp only at hSw); first | (go_simp; done) | (go_simp; with_reducible rfl)
        try simp only [Act.put, List.setIfInBounds_toArray, List.set_cons_zero, List.set_cons_succ]
        refine wpAnyH_take (oi := ⟨_, _, _, _, _, _⟩) (i := 12) (v := ?_) rfl (by kernel_rfl) (by kernel_rfl) (by kernel_rfl) (fun _ _ _ h => h) (Or.inl ⟨by rfl, ?_⟩) (by assumption) ?_
        rotate_left
        · intro w hSw; (try dsimp only at hSw); first | (go_simp; done) | (go_simp; with_reducible rfl)
        try simp only [Act.put, List.setIfInBounds_toArray, List.set_cons_zero, List.set_cons_succ]
        refine wpAnyH_done (by kernel_rfl) ?_ _
        refine NoPanic.normal ?_
        have HB2 := Lib.hid (HB.out.trans (hHeld.1.mono HB.out.size))
        go_wp2_with fail
        go_ret
        exact ⟨rfl, HB2.out⟩
end Go.Proofs.YtecimagjeelgbaaDoor.Pr
