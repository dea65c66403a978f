import Derived.Test.YtecimagjeelgbaaDoorCRefK
import Derived.Test.YtecimagjeelgbaaDoorCLNot15
/- The reference's Rekey: its walk. -/
set_option linter.unusedVariables false
set_option linter.unusedSimpArgs false
namespace Go.Proofs.YtecimagjeelgbaaDoor.Pr
open Go.RowKit Go.Proofs.YtecimagjeelgbaaDoorW.PrintWords Go.Proofs.YtecimagjeelgbaaDoorW.PrintLast Go.Proofs.YtecimagjeelgbaaDoorW.PrintMore Go.Proofs.YtecimagjeelgbaaDoor.TT

set_option maxHeartbeats 4000000 in
set_option maxRecDepth 100000 in
theorem rrekey_any (ks : List ByteArray) (hl : ks.length = 32) (was is : Nat) (hwas : was < 65536) (his : is < 65536) (first : Nat) (hfi : first < 65536) (w : World) :
    Calls Tryd.prog 11 #[.int .u16 (was : Int), .int .u16 (is : Int), KV ks, .int .u16 (first : Int)] w (RekeyPost (rekeyF was is ks first).1 (rekeyF was is ks first).2.1 (rekeyF was is ks first).2.2 w) := by
  have hca := cells_agg ks
  have hz := zero27
  have hcz := cellsZ
  have hfc := rfresh_calls was is hwas his
  have hsc := rsteps_calls was is hwas his
  have hbl := rbelow_calls is his
  have hpr := Lib.hid (pair_range (is : Int) (freshI (was : Int) (is : Int)) (fresh_range _ _))
  have hfr := Lib.hid (fresh_range (was : Int) (is : Int))
  have hfl := fresh_len (was : Int) (is : Int)
  have hpl := pairs_len (is : Int) (freshI (was : Int) (is : Int))
  have hrn := Lib.hid (ref_new (is : Int) (freshI (was : Int) (is : Int)) (fresh_range _ _) (fresh_nodup _ _) ks first)
  obtain ⟨F, hF⟩ : ∃ F, F = freshI (was : Int) (is : Int) := ⟨_, rfl⟩
  obtain ⟨S, hS⟩ : ∃ S, S = pairsL (is : Int) F := ⟨_, rfl⟩
  have hans := Lib.hid (show rekeyF was is ks first = if S.any (lackOne F ks) then (noKeys, [], 12) else if 65535 < (first : Int) + F.length then (noKeys, [], 7) else if S.any (fun p => decide ((tellOne (newKeys is F ks first) p).2 ≠ 0)) then (noKeys, [], 3) else (newKeys is F ks first, S.map (fun p => (tellOne (newKeys is F ks first) p).1), 0) by rw [hS, hF]; rfl)
  rw [← hF, ← hS] at hpr
  rw [← hF] at hfr hfl hrn
  rw [← hF, ← hS] at hpl
  simp only [← hF] at hfc hsc
  simp only [← hS] at hsc
  clear hF hS
  have hlk := lacks_any ks hl F hfl S (by omega) (fun p hp => by have := hpr.out p hp; omega)
  unfold KV at hlk ⊢
  go_enter Tryd.func11, Tryd.ntmps11
  have HK := Lib.hid (show KA 27 ((w.alloc (.cells (ks.map Value.string).toArray 27)).alloc (.cells Z32 27)) w.heap.size ks from (KA.new _ w ks hl _ rfl).alloc _)
  have HR := Lib.hid (show KA 27 ((w.alloc (.cells (ks.map Value.string).toArray 27)).alloc (.cells Z32 27)) (w.heap.size + 1) noKeys from by
    have := KA.new 27 (w.alloc (.cells (ks.map Value.string).toArray 27)) noKeys noKeys_len Z32 rfl
    simpa using this)
  have HB := Lib.hid (((RowKit.Below.refl w.heap.size w).alloc (Nat.le_refl _) (.cells (ks.map Value.string).toArray 27)).alloc (by simp) (.cells Z32 27))
  go_wp2_with fail
  generalize (w.alloc (.cells (ks.map Value.string).toArray 27)).alloc (.cells Z32 27) = W at HK HR HB ⊢
  refine (hfc W).mono ?_
  rintro e w2 ⟨v1, rfl, hr1, hb1⟩
  have HK2 := Lib.hid (HK.out.after hb1); have HR2 := Lib.hid (HR.out.after hb1)
  have HB2 := Lib.hid (HB.out.trans (hb1.mono HB.out.size))
  have HF2 := Lib.hid (Kd.R_lower hr1 HB.out.size)
  clear hb1 hr1 hfc HK HR
  go_wp2_with fail
  refine (hsc w2).mono ?_
  rintro e w3 ⟨v2, rfl, hr2, hb2⟩
  have HK3 := Lib.hid (HK2.out.after hb2); have HR3 := Lib.hid (HR2.out.after hb2)
  have HB3 := Lib.hid (HB2.out.trans (hb2.mono HB2.out.size))
  have HF3 := Lib.hid (Kd.R_below HF2.out hb2)
  have HS3 := Lib.hid (Kd.R_lower hr2 HB2.out.size)
  clear hb2 hr2 hsc HK2 HR2 HF2 HB2 HB
  obtain ⟨Af, cf, ef⟩ := Kd.R_slice HF3.out
  obtain ⟨As, cs, es⟩ := Kd.R_slice HS3.out
  subst ef; subst es
  have HST := Lib.hid (show RR w ks F S Af cf As cs w3 from ⟨HB3.out, HK3.out, HR3.out, HF3.out, HS3.out⟩)
  clear HB3 HK3 HR3 HF3 HS3
  have hlm : (S.map m37).length = S.length := List.length_map _
  go_wp2_with (first | refine wpList_load_row rfl 27 (.tmp 6) rfl _ rfl _ _ _ _ HST.out.k.1 Tryd.underlying27 rfl (size_info _ _ HST.out.k.2 s27) ?_)
  refine (hlk Af cf As cs w3 (Kd.R_reads' HST.out.f).2.2 (Kd.R_reads' HST.out.f).2.1 (by have := (Kd.R_reads' HST.out.s).2.2; rw [hlm] at this; exact this)).mono ?_
  rintro e w4 ⟨rfl, hb⟩
  have HST1 := Lib.hid (HST.out.after hb)
  clear hb HST hlk
  cases hany : S.any (lackOne F ks) with
  | true =>
    go_wp2_with (first | refine wpList_store_row rfl 27 (.tmp 8) (.tmp 29) rfl _ _ rfl rfl _ _ HST1.out.r.1 zsize27 (by rw [KA.rowSize HST1.out.r.2, zrow]) zone ?_)
    have hfin := HST1.out.r.row _ noKeys_len
    refine bodyPost_ret (results_cell_row2 rfl _ _ _ _ _ _ _ rfl hfin.1 Tryd.underlying27 rfl (size_info _ _ hfin.2 s27)) rfl ?_
    rw [hans.out, if_pos hany]
    exact ⟨_, rfl, Kd.R_nil _ _ _ _ _, below_setRow HST1.out.bel (by omega) _⟩
  | false =>
    by_cases hfull : 65535 < (first : Int) + F.length
    · go_wp2_with (first | refine wpList_store_row rfl 27 (.tmp 8) (.tmp 36) rfl _ _ rfl rfl _ _ HST1.out.r.1 zsize27 (by rw [KA.rowSize HST1.out.r.2, zrow]) zone ?_)
      have hfin := HST1.out.r.row _ noKeys_len
      refine bodyPost_ret (results_cell_row2 rfl _ _ _ _ _ _ _ rfl hfin.1 Tryd.underlying27 rfl (size_info _ _ hfin.2 s27)) rfl ?_
      rw [hans.out, if_neg (by rw [hany]; decide), if_pos hfull]
      exact ⟨_, rfl, Kd.R_nil _ _ _ _ _, below_setRow HST1.out.bel (by omega) _⟩
    · go_wp2_with fail
      have HST2 := Lib.hid (HST1.out.alloc (.cells Z32 27))
      have HO := Lib.hid (KA.new 27 w4 noKeys noKeys_len Z32 rfl)
      have ho : w.heap.size + 1 < w4.heap.size := HST1.out.r.lt
      generalize w4.alloc (.cells Z32 27) = wo at HST2 HO ⊢
      generalize w4.heap.size = o at HO ho ⊢
      clear HST1
      go_loopw [14] (fun i wl => ∃ j : Nat, j ≤ 31 ∧ i = .int .i64 ((1 + j : Nat) : Int) ∧ RR w ks F S Af cf As cs wl ∧ KA 27 wl o (refUp is F ks first j)) (fun i _ => 32 - (intOf i).toNat)
      case atStart => exact ⟨0, Nat.zero_le _, rfl, HST2.out, HO.out⟩
      case round =>
        clear HST2 HO
        obtain ⟨j, hj, rfl, hst, ho'⟩ := hrel
        have HST := Lib.hid hst; have HO := Lib.hid ho'
        clear hst ho'
        by_cases hlt : j < 31
        · have hsu := refUp_succ (is : Int) F ks first j
          go_wp2_with fail
          rw [show (1 : Int) + (j : Int) = ((1 + j : Nat) : Int) by omega]
          refine (hbl _ wr).mono ?_
          rintro e w5 ⟨rfl, hb⟩
          have HST2 := Lib.hid (HST.out.after hb); have HO2 := Lib.hid (HO.out.after hb)
          clear hb HST HO
          by_cases hz0 : belowI (is : Int) ((1 + j : Nat) : Int) = 0
          · have HO3 := Lib.hid (show KA 27 w5 o (baseOne (is : Int) ks (refUp is F ks first j) (1 + j)) by unfold baseOne; rw [if_pos hz0]; exact HO2.out)
            have HST3 := HST2
            rw [hz0]
            clear HST2 HO2 hz0
            go_wp2_with fail
            refine (place_calls Af cf F (by omega) ((1 + j : Nat) : Int) _ (Kd.R_reads' HST3.out.f).2.2 (Kd.R_reads' HST3.out.f).2.1).mono ?_
            rintro e w6 ⟨rfl, hd⟩
            have HST4 := Lib.hid (HST3.out.after hd.below); have HO4 := Lib.hid (HO3.out.after hd.below)
            clear hd HST3 HO3
            unfold refOne at hsu
            have hpm := (place_mem F ((1 + j : Nat) : Int))
            have hpx : ∀ h : ((1 + j : Nat) : Int) ∈ F, placeI F ((1 + j : Nat) : Int) < 15 := fun h => by have := List.idxOf_lt_length_of_mem h; rw [place_idx h]; omega
            have hpb : placeI F ((1 + j : Nat) : Int) < F.length := by
              by_cases h : ((1 + j : Nat) : Int) ∈ F
              · rw [place_idx h]; have := List.idxOf_lt_length_of_mem h; omega
              · have := mt hpm.1 h; omega
            clear hpm hpx
            generalize placeI F ((1 + j : Nat) : Int) = pl at hsu hpb ⊢
            by_cases hp0 : 0 ≤ pl
            · rw [if_pos hp0] at hsu
              obtain ⟨pn, rfl⟩ : ∃ pn : Nat, pl = (pn : Int) := ⟨pl.toNat, by omega⟩
              have HSU := Lib.hid hsu
              clear hsu
              go_wp2_with fail
              refine (rnonce_calls _ (by omega) (by omega) _).mono ?_
              rintro e w7 ⟨rfl, hb⟩
              have HST5 := Lib.hid (HST4.out.after hb); have HO5 := Lib.hid (HO4.out.after hb)
              clear hb HST4 HO4
              have hco := HO5.out.cell (j := 1 + j) (by omega)
              have hfo := HO5.out.frozen (1 + j)
              go_wp2_with fail
              go_roundw
              case rel => exact ⟨j + 1, by omega, by simp; omega, HST5.out.set HO5.out ho _ _, by rw [HSU.out]; exact HO5.out.set (1 + j) _⟩
              case measure => simp [intOf]; omega
            · rw [if_neg hp0] at hsu
              have HSU := Lib.hid hsu
              clear hsu
              go_wp2_with fail
              go_roundw
              case rel => exact ⟨j + 1, by omega, by simp; omega, HST4.out, by rw [HSU.out]; exact HO4.out⟩
              case measure => simp [intOf]; omega
          · have hck := HST2.out.k.cell (j := 1 + j) (by omega)
            have hco := HO2.out.cell (j := 1 + j) (by omega)
            have hfo := HO2.out.frozen (1 + j)
            have HBO := Lib.hid (show baseOne (is : Int) ks (refUp is F ks first j) (1 + j) = (refUp is F ks first j).set (1 + j) (key ks (1 + j)) by unfold baseOne; rw [if_neg hz0])
            have HST3 := Lib.hid (HST2.out.set HO2.out ho (1 + j) (.string (key ks (1 + j))))
            have HO3 := Lib.hid (show KA 27 (w5.setCell ⟨o, 1 + j, none⟩ (.string (key ks (1 + j)))) o (baseOne (is : Int) ks (refUp is F ks first j) (1 + j)) by rw [HBO.out]; exact HO2.out.set (1 + j) _)
            generalize belowI (is : Int) ((1 + j : Nat) : Int) = z at hz0 ⊢
            go_wp2_with fail
            refine (place_calls Af cf F (by omega) ((1 + j : Nat) : Int) _ (Kd.R_reads' HST3.out.f).2.2 (Kd.R_reads' HST3.out.f).2.1).mono ?_
            rintro e w6 ⟨rfl, hd⟩
            have HST4 := Lib.hid (HST3.out.after hd.below); have HO4 := Lib.hid (HO3.out.after hd.below)
            clear hd HST3 HO3
            unfold refOne at hsu
            have hpm := (place_mem F ((1 + j : Nat) : Int))
            have hpx : ∀ h : ((1 + j : Nat) : Int) ∈ F, placeI F ((1 + j : Nat) : Int) < 15 := fun h => by have := List.idxOf_lt_length_of_mem h; rw [place_idx h]; omega
            have hpb : placeI F ((1 + j : Nat) : Int) < F.length := by
              by_cases h : ((1 + j : Nat) : Int) ∈ F
              · rw [place_idx h]; have := List.idxOf_lt_length_of_mem h; omega
              · have := mt hpm.1 h; omega
            clear hpm hpx
            generalize placeI F ((1 + j : Nat) : Int) = pl at hsu hpb ⊢
            by_cases hp0 : 0 ≤ pl
            · rw [if_pos hp0] at hsu
              obtain ⟨pn, rfl⟩ : ∃ pn : Nat, pl = (pn : Int) := ⟨pl.toNat, by omega⟩
              have HSU := Lib.hid hsu
              clear hsu
              go_wp2_with fail
              refine (rnonce_calls _ (by omega) (by omega) _).mono ?_
              rintro e w7 ⟨rfl, hb⟩
              have HST5 := Lib.hid (HST4.out.after hb); have HO5 := Lib.hid (HO4.out.after hb)
              clear hb HST4 HO4
              have hco := HO5.out.cell (j := 1 + j) (by omega)
              have hfo := HO5.out.frozen (1 + j)
              go_wp2_with fail
              go_roundw
              case rel => exact ⟨j + 1, by omega, by simp; omega, HST5.out.set HO5.out ho _ _, by rw [HSU.out]; exact HO5.out.set (1 + j) _⟩
              case measure => simp [intOf]; omega
            · rw [if_neg hp0] at hsu
              have HSU := Lib.hid hsu
              clear hsu
              go_wp2_with fail
              go_roundw
              case rel => exact ⟨j + 1, by omega, by simp; omega, HST4.out, by rw [HSU.out]; exact HO4.out⟩
              case measure => simp [intOf]; omega
        · obtain rfl : j = 31 := by omega
          clear hj hlt
          rw [show ((1 + 31 : Nat) : Int) = 32 from rfl]
          obtain ⟨X, hX⟩ : ∃ X, X = newKeys (is : Int) F ks first := ⟨_, rfl⟩
          replace HO := Lib.hid (show KA 27 wr o X by rw [hX, ← hrn.out]; exact HO.out)
          rw [← hX] at hans
          clear hX hrn hbl
          go_wp2_with fail
          go_loopw [16, 17] (fun l i wl => ∃ j : Nat, j ≤ S.length ∧ i = .int .i64 j ∧ (S.take j).any (fun p => decide ((tellOne X p).2 ≠ 0)) = false ∧ RR w ks F S Af cf As cs wl ∧ KA 27 wl o X ∧ Kd.R Kd.string 25 wl w.heap.size (fun _ => True) l ((S.take j).map (fun p => (tellOne X p).1))) (fun _ i _ => S.length - (intOf i).toNat)
          case atStart => exact ⟨0, Nat.zero_le _, rfl, rfl, HST.out, HO.out, Kd.R_nil _ _ _ _ _⟩
          case round =>
            clear HST HO
            obtain ⟨j, hj, rfl, hbad, hst, ho', hlr⟩ := hrel
            by_cases hlt : j < S.length
            · obtain ⟨ad, e1, e2, e3⟩ := read_rstep (Kd.R_reads' hst.s).2.2 hlm j hlt
              have hp := hpr.out S[j] (List.getElem_mem hlt)
              subst e1
              obtain ⟨g, eg⟩ := Kd.R_head hst.s
              subst eg
              have HST := Lib.hid hst; have HO := Lib.hid ho'; have HL := Lib.hid hlr
              have hto : tellOne X S[j] = Ev03.tellOf (key X S[j].2.toNat) S[j].1 (key X S[j].1.toNat) := rfl
              obtain ⟨cd, hcd⟩ : ∃ cd : Nat, S[j].2 = (cd : Int) := ⟨S[j].2.toNat, by omega⟩
              obtain ⟨nd, hnd⟩ : ∃ nd : Nat, S[j].1 = (nd : Int) := ⟨S[j].1.toNat, by omega⟩
              rw [hcd, hnd] at hto hp
              rw [hcd] at e3
              rw [hnd] at e2
              simp only [Int.toNat_natCast] at hto
              have HTO := Lib.hid hto
              have hc0 : wr.cell? ⟨g, j * 2, none⟩ = some (.int .i64 (nd : Int)) := by rw [Addr.add_mid, Nat.zero_add] at e2; exact e2
              have hc1 : wr.cell? ⟨g, j * 2 + 1, none⟩ = some (.int .i64 (cd : Int)) := by rw [Addr.add_mid, Nat.zero_add] at e3; exact e3
              have hk1 := HO.out.cell (j := cd) (by omega)
              have hk2 := HO.out.cell (j := nd) (by omega)
              have hgl : g < wr.heap.size := World.block_lt_of_cell? wr ⟨g, j * 2, none⟩ hc0
              have hci : (cd : Int) < 32 := by omega
              have hni : (nd : Int) < 32 := by omega
              have hji : (j : Int) < (S.length : Int) := by omega
              have hj0 : (0 : Int) ≤ (j : Int) := by omega
              clear hst ho' hlr hp hcd hnd hto e2 e3
              have HSt : ∀ w1 w2 : World, (RowKit.Below wr.heap.size wr w1 ∧ w1.cell? ⟨g, j * 2, none⟩ = some (.int .i64 (nd : Int)) ∧ w1.cell? ⟨g, j * 2 + 1, none⟩ = some (.int .i64 (cd : Int)) ∧ w1.cell? ⟨o, cd, none⟩ = some (.string (key X cd)) ∧ w1.cell? ⟨o, nd, none⟩ = some (.string (key X nd))) → RowKit.Below w1.heap.size w1 w2 →
                  (RowKit.Below wr.heap.size wr w2 ∧ w2.cell? ⟨g, j * 2, none⟩ = some (.int .i64 (nd : Int)) ∧ w2.cell? ⟨g, j * 2 + 1, none⟩ = some (.int .i64 (cd : Int)) ∧ w2.cell? ⟨o, cd, none⟩ = some (.string (key X cd)) ∧ w2.cell? ⟨o, nd, none⟩ = some (.string (key X nd))) := by
                rintro w1 w2 ⟨h1, _⟩ hb
                have h6 := h1.trans (hb.mono h1.size)
                exact ⟨h6, (h6.cell (p := ⟨g, j * 2, none⟩) hgl).trans hc0, (h6.cell (p := ⟨g, j * 2 + 1, none⟩) hgl).trans hc1, (h6.cell (p := ⟨o, cd, none⟩) HO.out.lt).trans hk1, (h6.cell (p := ⟨o, nd, none⟩) HO.out.lt).trans hk2⟩
              have hB0 := RowKit.Below.refl wr.heap.size wr
              go_wp2_with fail
              go_region_held3 (fun w' => RowKit.Below wr.heap.size wr w' ∧ w'.cell? ⟨g, j * 2, none⟩ = some (.int .i64 (nd : Int)) ∧ w'.cell? ⟨g, j * 2 + 1, none⟩ = some (.int .i64 (cd : Int)) ∧ w'.cell? ⟨o, cd, none⟩ = some (.string (key X cd)) ∧ w'.cell? ⟨o, nd, none⟩ = some (.string (key X nd))) ((first | exact HSt wr _ ⟨hB0, hc0, hc1, hk1, hk2⟩ ((RowKit.Below.refl _ _).drew) | exact HSt _ _ (by first | assumption | exact ⟨by assumption, by assumption, by assumption, by assumption, by assumption⟩) (by assumption) | go_keep)) ((go_at_call 33; refine (rtold_calls _ _ _ _).mono ?_; rintro e w' ⟨rfl, hb⟩))
              rename_i hheld
              have hb' := hheld.1
              have HST3 := Lib.hid (HST.out.after hb'); have HO3 := Lib.hid (HO.out.after hb'); have HL3 := Lib.hid (Kd.R_below HL.out hb')
              clear hheld hb hb' HSt hB0 hc0 hc1 hk1 hk2 hgl HST HO HL
              have hte := Ev03.tell_empty (key X cd) (nd : Int) (key X nd)
              generalize Ev03.tellOf (key X cd) (nd : Int) (key X nd) = T at HTO hte ⊢
              obtain ⟨tt, te⟩ := T
              dsimp only at hte
              by_cases he : te = 0
              · have hne : tt.toList.isEmpty = false := by
                  rw [Bool.eq_false_iff]
                  intro h
                  exact hte.1 ((isEmpty_iff tt).1 h) he
                clear hte
                subst he
                have HBD := Lib.hid (any_take S (fun p => decide ((tellOne X p).2 ≠ 0)) j hlt hbad (by rw [HTO.out]; rfl))
                have HTK : Hid ((S.take (j + 1)).map (fun p => (tellOne X p).1) = (S.take j).map (fun p => (tellOne X p).1) ++ [tt]) := by
                  apply Lib.hid; rw [List.take_succ_eq_append_getElem hlt, List.map_append, List.map_cons, HTO.out]; rfl
                have hll : ((S.take j).map (fun p => (tellOne X p).1)).length = j := by rw [List.length_map, List.length_take]; omega
                go_wp2_with (first | (at_builtin; refine Kd.R_append Kd.string (w0 := w) w.heap.size rfl (.tmp 91) (.tmp 93) 31 25 (.string ⟨#[]⟩) 16 rfl Tryd.underlying31 info25 rfl (by decide) (by omega) _ _ tt [.string tt] (fun _ => True) (fun _ => False) rfl rfl rfl (fun _ hk => hk.elim) (fun _ _ => trivial) HL3.out HST3.out.bel HST3.out.bel.size (by rw [hll]; omega) ?_; intro v1 w7 hL hB hG hAt; have HST4 := Lib.hid (HST3.out.grown hG hB (row_type HL3.out)); have HO4 := Lib.hid (HO3.out.grown hG (row_type HL3.out) (by decide)); have HL4 := Lib.hid hL; clear hL hB hG hAt))
                go_roundw
                case rel => exact ⟨j + 1, by omega, by simp, HBD.out, HST4.out, HO4.out, by rw [HTK.out]; exact HL4.out⟩
                case measure => simp [intOf]; omega
              · have hno := Lib.hid (any_at S (fun p => decide ((tellOne X p).2 ≠ 0)) j hlt (by rw [HTO.out]; simpa using he))
                have hem : tt = ByteArray.empty := hte.2 he
                clear hte
                subst hem
                have hel : ByteArray.empty.toList = [] := empty_list
                go_wp2_with (first | refine wpList_store_row rfl 27 (.tmp 8) (.tmp 90) rfl _ _ rfl rfl _ _ HST3.out.r.1 zsize27 (by rw [KA.rowSize HST3.out.r.2, zrow]) zone ?_)
                have hfin := HST3.out.r.row _ noKeys_len
                refine bodyPost_ret (results_cell_row2 rfl _ _ _ _ _ _ _ rfl hfin.1 Tryd.underlying27 rfl (size_info _ _ hfin.2 s27)) rfl ?_
                rw [hans.out, if_neg (by rw [hany]; decide), if_neg (by omega), if_pos hno.out]
                exact ⟨_, rfl, Kd.R_nil _ _ _ _ _, below_setRow HST3.out.bel (by omega) _⟩
            · obtain rfl : j = S.length := by omega
              rw [List.take_length] at hbad hlr
              have HST := Lib.hid hst; have HO := Lib.hid ho'; have HL := Lib.hid hlr
              clear hst ho' hlr
              go_wp2_with (first | refine wpList_load_row rfl 27 (.tmp 13) rfl _ rfl _ _ _ _ HO.out.1 Tryd.underlying27 rfl (size_info _ _ HO.out.2 s27) ?_ | refine wpList_store_row rfl 27 (.tmp 8) (.tmp 95) rfl _ _ rfl rfl _ _ HST.out.r.1 (size_info _ _ HO.out.2 s27) (by rw [KA.rowSize HST.out.r.2, KA.rowSize HO.out.2]) (one_string _) ?_)
              have hfin := HST.out.r.row _ HO.out.2
              refine bodyPost_ret (results_cell_row2 rfl _ _ _ _ _ _ _ rfl hfin.1 Tryd.underlying27 rfl (size_info _ _ hfin.2 s27)) rfl ?_
              rw [hans.out, if_neg (by rw [hany]; decide), if_neg (by omega), if_neg (by rw [hbad]; decide)]
              exact ⟨_, rfl, rowR_setRow27 HL.out HST.out.r.1 _, below_setRow HST.out.bel (by omega) _⟩
end Go.Proofs.YtecimagjeelgbaaDoor.Pr
