import Derived.Test.YtecimagjeelgbaaDoorCIdx
import Derived.Deep.RegionHeld3
/- path.Rekey: its contract. -/
set_option linter.unusedVariables false
set_option linter.unusedSimpArgs false
namespace Go.Proofs.YtecimagjeelgbaaDoor.Pr
open Go.RowKit Go.Proofs.YtecimagjeelgbaaDoorW.PrintWords Go.Proofs.YtecimagjeelgbaaDoorW.PrintLast Go.Proofs.YtecimagjeelgbaaDoorW.PrintMore Go.Proofs.YtecimagjeelgbaaDoor.TT

/-- The way of Rekey's answers. -/
def RekeyPost (x : List ByteArray) (l : List ByteArray) (err : Int) (w : World) (e : Ending) (w' : World) : Prop :=
  ∃ v, e = .returned (.tuple #[KV x, v, .int .i64 err]) ∧ Kd.R Kd.string 25 w' w.heap.size (fun _ => True) v l ∧ RowKit.Below w.heap.size w w'
theorem results_cell_row1 {P : Program} {fn : Func} {p u : Tmp} {ty : TypeId} (h : fn.results = #[.cell p ty, .tmp u]) (tmps : Array Value) (w : World) (g : Nat) (t : TypeId) (cs : Array Value) (fr : Nat × Nat) (d : TypeDesc)
    (hp : tmps.getD p undef = .pointer (some ⟨g, 0, none⟩)) (hg : w.heap[g]? = some (.cells cs t fr))
    (hu : P.underlying ty = some d) (hd : (match d with | .struct _ | .array _ _ => true | _ => false) = true) (hi : (P.info? ty).map (·.size) = some cs.size) :
    (results fn tmps).run P w = .ok (.tuple #[.agg cs, tmps.getD u undef]) w := by
  rw [results_cell_tmp h, hp]
  simp [asAddr, run_loadVar_row w g t ty cs fr d hg hu hd hi, Result.andThen]
theorem results_cell_row2 {P : Program} {fn : Func} {p u u2 : Tmp} {ty : TypeId} (h : fn.results = #[.cell p ty, .tmp u, .tmp u2]) (tmps : Array Value) (w : World) (g : Nat) (t : TypeId) (cs : Array Value) (fr : Nat × Nat) (d : TypeDesc)
    (hp : tmps.getD p undef = .pointer (some ⟨g, 0, none⟩)) (hg : w.heap[g]? = some (.cells cs t fr))
    (hu : P.underlying ty = some d) (hd : (match d with | .struct _ | .array _ _ => true | _ => false) = true) (hi : (P.info? ty).map (·.size) = some cs.size) :
    (results fn tmps).run P w = .ok (.tuple #[.agg cs, tmps.getD u undef, tmps.getD u2 undef]) w := by
  have hp' : tmps[p]?.getD undef = .pointer (some ⟨g, 0, none⟩) := by simpa using hp
  simp [results, h, hp', asAddr, run_loadVar_row w g t ty cs fr d hg hu hd hi]
/-- What is read of the steps. -/
theorem read_step {w : World} {base : Nat} {ok : Nat → Prop} {A : Option Addr} {c : Nat} {S : List (Int × Int)} (h : Kd.R k61 61 w base ok (.slice A (S.map m38).length c) (S.map m38)) (j : Nat) (hj : j < S.length) :
    ∃ ad : Addr, A = some ad ∧ w.cell? (ad.add (j * 2)) = some (.int .i64 S[j].1) ∧ w.cell? ⟨(ad.add (j * 2)).block, (ad.add (j * 2)).off + 1, none⟩ = some (.int .i64 S[j].2) := by
  obtain ⟨ad, e, h0, h1⟩ := at_T61 (Kd.R_reads' h).2.2 (j : Int) (by omega) (by rw [List.length_map]; omega)
  have hr : rd_T61 (S.map m38) (j : Int) = m38 S[j] := by unfold rd_T61; simp [hj]
  rw [hr, Int.toNat_natCast] at h0 h1
  exact ⟨ad, e, h0, h1⟩
theorem any_take {α : Type} (S : List α) (f : α → Bool) (j : Nat) (hj : j < S.length) (h : (S.take j).any f = false) (hf : f S[j] = false) : (S.take (j + 1)).any f = false := by
  rw [List.take_succ_eq_append_getElem hj, List.any_append, h, List.any_cons, hf]; rfl
theorem any_at {α : Type} (S : List α) (f : α → Bool) (j : Nat) (hj : j < S.length) (hf : f S[j] = true) : S.any f = true := List.any_eq_true.2 ⟨S[j], List.getElem_mem hj, hf⟩
/-- What stays in Rekey's world: the box of the keys, the result's cell, the new keys' numbers and the steps. -/
structure RK (w0 : World) (ks : List ByteArray) (F : List Int) (S : List (Int × Int)) (Af : Option Addr) (cf : Nat) (As : Option Addr) (cs : Nat) (w : World) : Prop where
  bel : RowKit.Below w0.heap.size w0 w
  k : KA 30 w w0.heap.size ks
  r : KA 30 w (w0.heap.size + 1) noKeys
  f : Kd.R (Kd.int .i64) 3 w w0.heap.size (fun _ => True) (.slice Af F.length cf) F
  s : Kd.R k61 61 w w0.heap.size (fun _ => True) (.slice As (S.map m38).length cs) (S.map m38)
theorem RK.after {w0 : World} {ks : List ByteArray} {F : List Int} {S : List (Int × Int)} {Af : Option Addr} {cf : Nat} {As : Option Addr} {cs : Nat} {w w' : World} (h : RK w0 ks F S Af cf As cs w) (hb : RowKit.Below w.heap.size w w') : RK w0 ks F S Af cf As cs w' :=
  ⟨h.bel.trans (hb.mono h.bel.size), h.k.after hb, h.r.after hb, Kd.R_below h.f hb, Kd.R_below h.s hb⟩
theorem RK.alloc {w0 : World} {ks : List ByteArray} {F : List Int} {S : List (Int × Int)} {Af : Option Addr} {cf : Nat} {As : Option Addr} {cs : Nat} {w : World} (h : RK w0 ks F S Af cf As cs w) (o : Obj) : RK w0 ks F S Af cf As cs (w.alloc o) := h.after ((RowKit.Below.refl _ _).alloc (Nat.le_refl _) o)
theorem RK.drewN {w0 : World} {ks : List ByteArray} {F : List Int} {S : List (Int × Int)} {Af : Option Addr} {cf : Nat} {As : Option Addr} {cs : Nat} {w : World} (h : RK w0 ks F S Af cf As cs w) (m : Nat) : RK w0 ks F S Af cf As cs (w.drewN m) := h.after (pw_below_drewN (RowKit.Below.refl _ _) m)
theorem RK.drew {w0 : World} {ks : List ByteArray} {F : List Int} {S : List (Int × Int)} {Af : Option Addr} {cf : Nat} {As : Option Addr} {cs : Nat} {w : World} (h : RK w0 ks F S Af cf As cs w) : RK w0 ks F S Af cf As cs w.drew := h.after ((RowKit.Below.refl _ _).drew)
/-- A new key is stored. -/
theorem RK.set {w0 : World} {ks : List ByteArray} {F : List Int} {S : List (Int × Int)} {Af : Option Addr} {cf : Nat} {As : Option Addr} {cs : Nat} {w : World} (h : RK w0 ks F S Af cf As cs w) {o : Nat} {x : List ByteArray} (hx : KA 30 w o x) (ho : w0.heap.size + 1 < o) (j : Nat) (v : Value) : RK w0 ks F S Af cf As cs (w.setCell ⟨o, j, none⟩ v) :=
  ⟨h.bel.setCell (p := ⟨o, j, none⟩) (show w0.heap.size ≤ o by omega) v, h.k.other _ _ (show w0.heap.size ≠ o by omega), h.r.other _ _ (show w0.heap.size + 1 ≠ o by omega),
    Kd.R_mono (Kd.R_set h.f hx.1 (by decide) j v) (fun _ _ => trivial), Kd.R_mono (Kd.R_set h.s hx.1 (by decide) j v) (fun _ _ => trivial)⟩
theorem KA.drewN {T : TypeId} {w : World} {b : Nat} {ks : List ByteArray} (h : KA T w b ks) (m : Nat) : KA T (w.drewN m) b ks := h.after (pw_below_drewN (RowKit.Below.refl _ _) m)
theorem zsize : (Tryd.prog.info? 30).map (·.size) = some Z32.size := size_info _ _ noKeys_len s30
theorem zone : Z32.all (·.oneCell') = true := one_string noKeys
theorem zrow : Z32.size = 32 := KA.rowSize noKeys_len
/-- A row of texts grows. -/
theorem KA.grown {T : TypeId} {w w1 : World} {b : Nat} {ks : List ByteArray} {row : Option Nat} (h : KA T w b ks) (hg : w.grownBy w1 row) (hrow : ∀ k, row = some k → ∃ cells, w.heap[k]? = some (.cells cells 25 (0, 0))) (hT : T ≠ 25) : KA T w1 b ks :=
  h.same (hg.block b h.lt (fun e => by
    obtain ⟨c, hc⟩ := hrow b e.symm
    rw [h.1] at hc
    injection hc with hc
    injection hc with _ hc
    exact hT hc))
theorem RK.grown {w0 : World} {ks : List ByteArray} {F : List Int} {S : List (Int × Int)} {Af : Option Addr} {cf : Nat} {As : Option Addr} {cs : Nat} {w w1 : World} {row : Option Nat} (h : RK w0 ks F S Af cf As cs w) (hg : w.grownBy w1 row) (hb : RowKit.Below w0.heap.size w0 w1) (hrow : ∀ k, row = some k → ∃ cells, w.heap[k]? = some (.cells cells 25 (0, 0))) : RK w0 ks F S Af cf As cs w1 :=
  ⟨hb, h.k.grown hg hrow (by decide), h.r.grown hg hrow (by decide),
    Kd.R_grown2 h.f rfl hg (fun k hk => by obtain ⟨c, hc⟩ := hrow k hk; exact Kd.R_ne h.f hc (by decide)),
    Kd.R_grown2 h.s rfl hg (fun k hk => by obtain ⟨c, hc⟩ := hrow k hk; exact Kd.R_ne h.s hc (by decide))⟩
theorem row_type {w : World} {base : Nat} {ok : Nat → Prop} {v : Value} {xs : List ByteArray} (h : Kd.R Kd.string 25 w base ok v xs) : ∀ k, v.ownBlock = some k → ∃ cells, w.heap[k]? = some (.cells cells 25 (0, 0)) := by
  intro k hk
  obtain ⟨_, _, _, q, hq, c, hc⟩ := (Kd.R_bound h).1 k hk
  have : q = 25 := by simpa [Kd.string, Kd.scalar] using hq
  exact ⟨c, this ▸ hc⟩
theorem rowR_setRow {w : World} {base g : Nat} {ok : Nat → Prop} {v : Value} {xs : List ByteArray} {c : Array Value} (h : Kd.R Kd.string 25 w base ok v xs) (hg : w.heap[g]? = some (.cells c 30 (0, 0))) (cs : Array Value) : Kd.R Kd.string 25 (w.setRow g cs) base (fun _ => True) v xs :=
  Kd.R_mono (Kd.R_step (Kd.R_types h hg (by decide)) (fun k hk _ => by simp only [World.setRow, Array.getElem?_modify]; rw [if_neg (fun e => hk.2 e.symm)])) (fun _ _ => trivial)
/-- A block that was there is there. -/
theorem cell_kept {w w' : World} {b : Nat} {cs : Array Value} {T : TypeId} (h : w.heap[b]? = some (.cells cs T (0, 0))) (hb : RowKit.Below w.heap.size w w') : w'.heap[b]? = some (.cells cs T (0, 0)) := (hb.block b (Array.getElem?_eq_some_iff.1 h).1).trans h
set_option maxHeartbeats 4000000 in
set_option maxRecDepth 100000 in
theorem rekey_any (ks : List ByteArray) (hl : ks.length = 32) (was is : Nat) (hwas : was < 65536) (his : is < 65536) (first : Nat) (hfi : first < 65536) (w : World) (HT0 : TabAt w) :
    Calls Tryd.prog 10 #[.int .u16 (was : Int), .int .u16 (is : Int), KV ks, .int .u16 (first : Int)] w (RekeyPost (rekeyF was is ks first).1 (rekeyF was is ks first).2.1 (rekeyF was is ks first).2.2 w) := by
  have hca := cells_agg ks
  have hz := zero30
  have hcz := cellsZ
  have hfc := fresh_calls was is hwas his
  have hsc := steps_calls was is hwas his
  have hpr := Lib.hid (pair_range (is : Int) (freshI (was : Int) (is : Int)) (fresh_range _ _))
  have hfr := Lib.hid (fresh_range (was : Int) (is : Int))
  have hfl := fresh_len (was : Int) (is : Int)
  have hpl := pairs_len (is : Int) (freshI (was : Int) (is : Int))
  obtain ⟨F, hF⟩ : ∃ F, F = freshI (was : Int) (is : Int) := ⟨_, rfl⟩
  obtain ⟨S, hS⟩ : ∃ S, S = pairsL (is : Int) F := ⟨_, rfl⟩
  have hans := Lib.hid (show rekeyF was is ks first = if S.any (lackOne F ks) then (noKeys, [], 12) else if 65535 < (first : Int) + F.length then (noKeys, [], 7) else if S.any (fun p => decide ((tellOne (newKeys is F ks first) p).2 ≠ 0)) then (noKeys, [], 3) else (newKeys is F ks first, S.map (fun p => (tellOne (newKeys is F ks first) p).1), 0) by rw [hS, hF]; rfl)
  rw [← hF, ← hS] at hpr
  rw [← hF] at hfr hfl
  rw [← hF, ← hS] at hpl
  simp only [← hF] at hfc hsc
  simp only [← hS] at hsc
  clear hF hS
  unfold KV
  go_enter Tryd.func10, Tryd.ntmps10
  have HK := Lib.hid (show KA 30 ((w.alloc (.cells (ks.map Value.string).toArray 30)).alloc (.cells Z32 30)) w.heap.size ks from (KA.new _ w ks hl _ rfl).alloc _)
  have HR := Lib.hid (show KA 30 ((w.alloc (.cells (ks.map Value.string).toArray 30)).alloc (.cells Z32 30)) (w.heap.size + 1) noKeys from by
    have := KA.new 30 (w.alloc (.cells (ks.map Value.string).toArray 30)) noKeys noKeys_len Z32 rfl
    simpa using this)
  have HB := Lib.hid (((RowKit.Below.refl w.heap.size w).alloc (Nat.le_refl _) (.cells (ks.map Value.string).toArray 30)).alloc (by simp) (.cells Z32 30))
  go_wp2_with fail
  generalize (w.alloc (.cells (ks.map Value.string).toArray 30)).alloc (.cells Z32 30) = W at HK HR HB ⊢
  refine (hfc W (TabAt.below HT0 (Nat.le_refl _) HB.out)).mono ?_
  rintro e w2 ⟨v1, rfl, hr1, hb1⟩
  have HK2 := Lib.hid (HK.out.after hb1); have HR2 := Lib.hid (HR.out.after hb1)
  have HB2 := Lib.hid (HB.out.trans (hb1.mono HB.out.size))
  have HF2 := Lib.hid (Kd.R_lower hr1 HB.out.size)
  have hge : w.heap.size + 2 ≤ W.heap.size := by have := HR.out.lt; omega
  have HG1 := Lib.hid hr1
  clear hb1 hr1 hfc HK HR
  go_wp2_with fail
  refine (hsc w2 (TabAt.below HT0 (Nat.le_refl _) HB2.out)).mono ?_
  rintro e w3 ⟨v2, rfl, hr2, hb2⟩
  have HK3 := Lib.hid (HK2.out.after hb2); have HR3 := Lib.hid (HR2.out.after hb2)
  have HB3 := Lib.hid (HB2.out.trans (hb2.mono HB2.out.size))
  have HF3 := Lib.hid (Kd.R_below HF2.out hb2)
  have HS3 := Lib.hid (Kd.R_lower hr2 HB2.out.size)
  clear hb2 hr2 hsc HK2 HR2 HF2 HB2 HB HG1
  obtain ⟨Af, cf, ef⟩ := Kd.R_slice HF3.out
  obtain ⟨As, cs, es⟩ := Kd.R_slice HS3.out
  subst ef; subst es
  go_wp2_with fail
  have HST := Lib.hid (show RK w ks F S Af cf As cs w3 from ⟨HB3.out, HK3.out, HR3.out, HF3.out, HS3.out⟩)
  clear HB3 HK3 HR3 HF3 HS3
  have hlm : (S.map m38).length = S.length := List.length_map _
  go_loopw [32] (fun i wr => ∃ j : Nat, j ≤ S.length ∧ i = .int .i64 j ∧ (S.take j).any (lackOne F ks) = false ∧ RK w ks F S Af cf As cs wr) (fun i _ => S.length - (intOf i).toNat)
  case atStart => exact ⟨0, Nat.zero_le _, rfl, rfl, HST.out⟩
  case round =>
    clear HST
    obtain ⟨j, hj, rfl, hany, hst⟩ := hrel
    by_cases hlt : j < S.length
    · obtain ⟨ad, e1, e2, e3⟩ := read_step hst.s j hlt
      have hp := hpr.out S[j] (List.getElem_mem hlt)
      subst e1
      have HST := Lib.hid hst
      have hlo : lackOne F ks S[j] = (!F.contains S[j].2 && decide (check (key ks S[j].2.toNat) ≠ 0)) := rfl
      obtain ⟨cd, hcd⟩ : ∃ cd : Nat, S[j].2 = (cd : Int) := ⟨S[j].2.toNat, by omega⟩
      rw [hcd] at e3 hlo hp
      rw [Int.toNat_natCast] at hlo
      have hc2 : 2 ≤ cd ∧ cd ≤ 31 := by omega
      have HLO := Lib.hid hlo
      have hlt' : (j : Int) < ((S.map m38).length : Int) := by omega
      clear hst hlo hp hcd
      go_wp2_with fail
      have HST2 := Lib.hid (HST.out.alloc (.cells #[.int .i64 S[j].1, .int .i64 (cd : Int)] 61))
      have hnew := heap_alloc_new wr (.cells #[.int .i64 S[j].1, .int .i64 (cd : Int)] 61)
      generalize wr.alloc (.cells #[.int .i64 S[j].1, .int .i64 (cd : Int)] 61) = wa at HST2 hnew ⊢
      refine (contains_calls Af cf F (by omega) cd wa (Kd.R_reads' HST2.out.f).2.2 (Kd.R_reads' HST2.out.f).2.1).mono ?_
      rintro e w4 ⟨rfl, hd⟩
      have HST3 := Lib.hid (HST2.out.after hd.below)
      have hnew3 := cell_kept hnew hd.below
      have hcl := cell_of_row w4 wr.heap.size 1 _ 61 (0, 0) hnew3
      simp only [List.getElem?_toArray, List.getElem?_cons_succ, List.getElem?_cons_zero] at hcl
      clear HST HST2 hnew hd hnew3
      by_cases hc : F.contains (cd : Int) = true
      · rw [hc]
        go_wp2_with fail
        go_roundw
        case rel => exact ⟨j + 1, by omega, by simp, any_take S _ j hlt hany (by rw [HLO.out, hc]; rfl), HST3.out⟩
        case measure => simp [intOf]; omega
      · rw [Bool.eq_false_iff.mpr hc]
        have hck := HST3.out.k.cell (j := cd) (by omega)
        go_wp2_with fail
        refine (check_calls _ w4).mono ?_
        rintro e w5 ⟨rfl, hb⟩
        have HST4 := Lib.hid (HST3.out.after hb)
        clear hb hck hcl
        by_cases h0 : check (key ks cd) = 0
        · rw [h0]
          go_wp2_with fail
          go_roundw
          case rel => exact ⟨j + 1, by omega, by simp, any_take S _ j hlt hany (by rw [HLO.out, h0]; simp), HST4.out⟩
          case measure => simp [intOf]; omega
        · have hno := Lib.hid (any_at S (lackOne F ks) j hlt (by rw [HLO.out, Bool.eq_false_iff.mpr hc]; simpa using h0))
          go_wp2_with (first | refine wpList_store_row rfl 30 (.tmp 8) (.tmp 49) rfl _ _ rfl rfl _ _ HST4.out.r.1 zsize (by rw [KA.rowSize HST4.out.r.2, zrow]) zone ?_)
          have hfin := HST4.out.r.row _ noKeys_len
          refine bodyPost_ret (results_cell_row2 rfl _ _ _ _ _ _ _ rfl hfin.1 Tryd.underlying30 rfl (size_info _ _ hfin.2 s30)) rfl ?_
          rw [hans.out, if_pos hno.out]
          exact ⟨_, rfl, Kd.R_nil _ _ _ _ _, below_setRow HST4.out.bel (by omega) _⟩
    · obtain rfl : j = S.length := by omega
      have HST := Lib.hid hst
      rw [List.take_length] at hany
      clear hst hj
      by_cases hfull : 65535 < (first : Int) + F.length
      · go_wp2_with (first | refine wpList_store_row rfl 30 (.tmp 8) (.tmp 57) rfl _ _ rfl rfl _ _ HST.out.r.1 zsize (by rw [KA.rowSize HST.out.r.2, zrow]) zone ?_)
        have hfin := HST.out.r.row _ noKeys_len
        refine bodyPost_ret (results_cell_row2 rfl _ _ _ _ _ _ _ rfl hfin.1 Tryd.underlying30 rfl (size_info _ _ hfin.2 s30)) rfl ?_
        rw [hans.out, if_neg (by rw [hany]; decide), if_pos hfull]
        exact ⟨_, rfl, Kd.R_nil _ _ _ _ _, below_setRow HST.out.bel (by omega) _⟩
      · go_wp2_with fail
        have HST1 := Lib.hid (HST.out.alloc (.cells Z32 30))
        have HO := Lib.hid (KA.new 30 wr noKeys noKeys_len Z32 rfl)
        have ho : w.heap.size + 1 < wr.heap.size := by
          have := HST.out.r.lt; exact this
        generalize wr.alloc (.cells Z32 30) = wo at HST1 HO ⊢
        generalize wr.heap.size = o at HO ho ⊢
        clear HST
        go_loopw [16] (fun i wl => ∃ j : Nat, j ≤ 31 ∧ i = .int .i64 ((1 + j : Nat) : Int) ∧ RK w ks F S Af cf As cs wl ∧ KA 30 wl o (baseUp is ks j)) (fun i _ => 32 - (intOf i).toNat)
        case atStart => exact ⟨0, Nat.zero_le _, rfl, HST1.out, HO.out⟩
        case round =>
          clear HST1 HO
          obtain ⟨j, hj, rfl, hst, ho'⟩ := hrel
          have HST := Lib.hid hst; have HO := Lib.hid ho'
          clear hst ho'
          by_cases hlt : j < 31
          · have hsu := baseUp_succ (is : Int) ks j
            go_wp2_with fail
            rw [show (1 : Int) + (j : Int) = ((1 + j : Nat) : Int) by omega]
            refine (below_calls is his _ wr).mono ?_
            rintro e w4 ⟨rfl, hb⟩
            have HST2 := Lib.hid (HST.out.after hb)
            have HO2 := Lib.hid (HO.out.after hb)
            clear hb HST HO
            unfold baseOne at hsu
            by_cases hz : belowI (is : Int) ((1 + j : Nat) : Int) = 0
            · rw [hz]
              rw [if_pos hz] at hsu
              have HSU := Lib.hid hsu
              clear hsu hz
              go_wp2_with fail
              go_roundw
              case rel => exact ⟨j + 1, by omega, by simp; omega, HST2.out, HSU.out ▸ HO2.out⟩
              case measure => simp [intOf]; omega
            · rw [if_neg hz] at hsu
              have HSU := Lib.hid hsu
              have hck := HST2.out.k.cell (j := 1 + j) (by omega)
              have hco := HO2.out.cell (j := 1 + j) (by omega)
              have hfo := HO2.out.frozen (1 + j)
              clear hsu
              generalize belowI (is : Int) ((1 + j : Nat) : Int) = z at hz ⊢
              go_wp2_with fail
              go_roundw
              case rel => exact ⟨j + 1, by omega, by simp; omega, HST2.out.set HO2.out ho _ _, by rw [HSU.out]; exact HO2.out.set (1 + j) _⟩
              case measure => simp [intOf]; omega
          · obtain rfl : j = 31 := by omega
            clear hj hlt
            have hb31 := baseUp_len (is : Int) ks 31
            rw [show ((1 + 31 : Nat) : Int) = 32 from rfl]
            go_wp2_with fail
            go_loopw [73] (fun i wl => ∃ j : Nat, j ≤ F.length ∧ i = .int .i64 j ∧ RK w ks F S Af cf As cs wl ∧ KA 30 wl o (freshUp F first (baseUp is ks 31) j)) (fun i _ => F.length - (intOf i).toNat)
            case atStart => exact ⟨0, Nat.zero_le _, rfl, HST.out, HO.out⟩
            case round =>
              clear HST HO
              obtain ⟨j, hj, rfl, hst, ho'⟩ := hrel
              by_cases hlt : j < F.length
              · have hn := hfr.out F[j] (List.getElem_mem hlt)
                obtain ⟨ad, e1, e2⟩ := Kd.at_int (Kd.R_reads' hst.f).2.2 (j : Int) (by omega) (by omega)
                subst e1
                have hrd : rd F (j : Int) = F[j] := by unfold rd; simp [hlt]
                rw [hrd, Int.toNat_natCast] at e2
                have hsu := freshUp_succ F first (baseUp is ks 31) j
                have hgd : F.getD j 0 = F[j] := by simp [hlt]
                rw [hgd] at hsu
                obtain ⟨nd, hnd⟩ : ∃ nd : Nat, F[j] = (nd : Int) := ⟨F[j].toNat, by omega⟩
                rw [hnd] at e2 hn hsu
                rw [Int.toNat_natCast] at hsu
                have hn2 : 1 ≤ nd ∧ nd ≤ 15 := by omega
                have HST := Lib.hid hst; have HO := Lib.hid ho'; have HSU := Lib.hid hsu
                clear hst ho' hsu hnd hrd hgd hn
                go_wp2_with fail
                refine (nonce_calls _ wr).mono ?_
                rintro e w4 ⟨rfl, hb⟩
                have HST2 := Lib.hid (HST.out.after hb)
                have HO2 := Lib.hid (HO.out.after hb)
                clear hb HST HO
                have hco := HO2.out.cell (j := nd) (by omega)
                have hfo := HO2.out.frozen nd
                go_wp2_with fail
                go_roundw
                case rel => exact ⟨j + 1, by omega, by simp, HST2.out.set HO2.out ho _ _, by rw [HSU.out]; exact HO2.out.set nd _⟩
                case measure => simp [intOf]; omega
              · obtain rfl : j = F.length := by omega
                obtain ⟨X, hX⟩ : ∃ X, X = newKeys (is : Int) F ks first := ⟨_, rfl⟩
                have HST := Lib.hid hst
                have HO := Lib.hid (show KA 30 wr o X by rw [hX]; exact ho')
                rw [← hX] at hans
                clear hst ho' hX hj hlt hb31
                go_wp2_with fail
                go_loopw [19, 88] (fun l i wl => ∃ j : Nat, j ≤ S.length ∧ i = .int .i64 j ∧ (S.take j).any (fun p => decide ((tellOne X p).2 ≠ 0)) = false ∧ RK w ks F S Af cf As cs wl ∧ KA 30 wl o X ∧ Kd.R Kd.string 25 wl w.heap.size (fun _ => True) l ((S.take j).map (fun p => (tellOne X p).1))) (fun _ i _ => S.length - (intOf i).toNat)
                case atStart => exact ⟨0, Nat.zero_le _, rfl, rfl, HST.out, HO.out, Kd.R_nil _ _ _ _ _⟩
                case round =>
                  clear HST HO
                  obtain ⟨j, hj, rfl, hbad, hst, ho', hlr⟩ := hrel
                  by_cases hlt : j < S.length
                  · obtain ⟨ad, e1, e2, e3⟩ := read_step hst.s j hlt
                    have hp := hpr.out S[j] (List.getElem_mem hlt)
                    subst e1
                    have HST := Lib.hid hst; have HO := Lib.hid ho'; have HL := Lib.hid hlr
                    have hto : tellOne X S[j] = Ev03.tellOf (key X S[j].2.toNat) S[j].1 (key X S[j].1.toNat) := rfl
                    obtain ⟨cd, hcd⟩ : ∃ cd : Nat, S[j].2 = (cd : Int) := ⟨S[j].2.toNat, by omega⟩
                    obtain ⟨nd, hnd⟩ : ∃ nd : Nat, S[j].1 = (nd : Int) := ⟨S[j].1.toNat, by omega⟩
                    rw [hcd, hnd] at hto hp
                    rw [hcd] at e3
                    rw [hnd] at e2
                    simp only [Int.toNat_natCast] at hto
                    have hc2 : 2 ≤ cd ∧ cd ≤ 31 ∧ 1 ≤ nd ∧ nd ≤ 15 := by omega
                    have HTO := Lib.hid hto
                    have hlt' : (j : Int) < ((S.map m38).length : Int) := by omega
                    clear hst ho' hlr hp hcd hnd hto
                    go_wp2_with fail
                    have HST2 := Lib.hid (HST.out.alloc (.cells #[.int .i64 (nd : Int), .int .i64 (cd : Int)] 61))
                    have HO2 := Lib.hid (HO.out.alloc (.cells #[.int .i64 (nd : Int), .int .i64 (cd : Int)] 61))
                    have HL2 := Lib.hid (Kd.R_alloc HL.out (.cells #[.int .i64 (nd : Int), .int .i64 (cd : Int)] 61))
                    have hnew := heap_alloc_new wr (.cells #[.int .i64 (nd : Int), .int .i64 (cd : Int)] 61)
                    generalize wr.alloc (.cells #[.int .i64 (nd : Int), .int .i64 (cd : Int)] 61) = wa at HST2 HO2 HL2 hnew ⊢
                    have hc0 := cell_of_row wa wr.heap.size 0 _ 61 (0, 0) hnew
                    have hc1 := cell_of_row wa wr.heap.size 1 _ 61 (0, 0) hnew
                    simp only [List.getElem?_toArray, List.getElem?_cons_succ, List.getElem?_cons_zero] at hc0 hc1
                    have hk1 := HO2.out.cell (j := cd) (by omega)
                    have hsz : wr.heap.size < wa.heap.size := (Array.getElem?_eq_some_iff.1 hnew).1
                    have hk2 := HO2.out.cell (j := nd) (by omega)
                    clear HST HO HL hnew
                    have HSt : ∀ w1 w2 : World, (RowKit.Below wa.heap.size wa w1 ∧ w1.cell? ⟨wr.heap.size, 0, none⟩ = some (.int .i64 (nd : Int)) ∧ w1.cell? ⟨wr.heap.size, 1, none⟩ = some (.int .i64 (cd : Int)) ∧ w1.cell? ⟨o, cd, none⟩ = some (.string (key X cd)) ∧ w1.cell? ⟨o, nd, none⟩ = some (.string (key X nd))) → RowKit.Below w1.heap.size w1 w2 →
                        (RowKit.Below wa.heap.size wa w2 ∧ w2.cell? ⟨wr.heap.size, 0, none⟩ = some (.int .i64 (nd : Int)) ∧ w2.cell? ⟨wr.heap.size, 1, none⟩ = some (.int .i64 (cd : Int)) ∧ w2.cell? ⟨o, cd, none⟩ = some (.string (key X cd)) ∧ w2.cell? ⟨o, nd, none⟩ = some (.string (key X nd))) := by
                      rintro w1 w2 ⟨h1, h2, h3, h4, h5⟩ hb
                      have h6 := h1.trans (hb.mono h1.size)
                      exact ⟨h6, (h6.cell (p := ⟨wr.heap.size, 0, none⟩) hsz).trans hc0, (h6.cell (p := ⟨wr.heap.size, 1, none⟩) hsz).trans hc1, (h6.cell (p := ⟨o, cd, none⟩) HO2.out.lt).trans hk1, (h6.cell (p := ⟨o, nd, none⟩) HO2.out.lt).trans hk2⟩
                    have hB0 := RowKit.Below.refl wa.heap.size wa
                    have hci : (cd : Int) < 32 := by omega
                    have hni : (nd : Int) < 32 := by omega
                    go_region_held3 (fun w' => RowKit.Below wa.heap.size wa w' ∧ w'.cell? ⟨wr.heap.size, 0, none⟩ = some (.int .i64 (nd : Int)) ∧ w'.cell? ⟨wr.heap.size, 1, none⟩ = some (.int .i64 (cd : Int)) ∧ w'.cell? ⟨o, cd, none⟩ = some (.string (key X cd)) ∧ w'.cell? ⟨o, nd, none⟩ = some (.string (key X nd))) ((first | exact HSt wa _ ⟨hB0, hc0, hc1, hk1, hk2⟩ ((RowKit.Below.refl _ _).drew) | exact HSt _ _ (by first | assumption | exact ⟨by assumption, by assumption, by assumption, by assumption, by assumption⟩) (by assumption) | go_keep)) ((go_at_call 27; refine (told_calls _ _ _ _).mono ?_; rintro e w' ⟨rfl, hb⟩))
                    rename_i hheld
                    have hb' := hheld.1
                    have HST3 := Lib.hid (HST2.out.after hb'); have HO3 := Lib.hid (HO2.out.after hb'); have HL3 := Lib.hid (Kd.R_below HL2.out hb')
                    clear hheld hb hb' HSt hB0 hc0 hc1 hk1 hk2 hsz HST2 HO2 HL2
                    generalize Ev03.tellOf (key X cd) (nd : Int) (key X nd) = T at HTO ⊢
                    obtain ⟨tt, te⟩ := T
                    by_cases he : te = 0
                    · subst he
                      have HBD := Lib.hid (any_take S (fun p => decide ((tellOne X p).2 ≠ 0)) j hlt hbad (by rw [HTO.out]; rfl))
                      have HTK : Hid ((S.take (j + 1)).map (fun p => (tellOne X p).1) = (S.take j).map (fun p => (tellOne X p).1) ++ [tt]) := by
                        apply Lib.hid; rw [List.take_succ_eq_append_getElem hlt, List.map_append, List.map_cons, HTO.out]; rfl
                      have hll : ((S.take j).map (fun p => (tellOne X p).1)).length = j := by rw [List.length_map, List.length_take]; omega
                      go_wp2_with (first | (at_builtin; refine Kd.R_append Kd.string (w0 := w) w.heap.size rfl (.tmp 109) (.tmp 111) 31 25 (.string ⟨#[]⟩) 16 rfl Tryd.underlying31 info25 rfl (by decide) (by omega) _ _ tt [.string tt] (fun _ => True) (fun _ => False) rfl rfl rfl (fun _ hk => hk.elim) (fun _ _ => trivial) HL3.out HST3.out.bel HST3.out.bel.size (by rw [hll]; omega) ?_; intro v1 w7 hL hB hG hAt; have HST4 := Lib.hid (HST3.out.grown hG hB (row_type HL3.out)); have HO4 := Lib.hid (HO3.out.grown hG (row_type HL3.out) (by decide)); have HL4 := Lib.hid hL; clear hL hB hG hAt))
                      go_roundw
                      case rel => exact ⟨j + 1, by omega, by simp, HBD.out, HST4.out, HO4.out, by rw [HTK.out]; exact HL4.out⟩
                      case measure => simp [intOf]; omega
                    · have hno := Lib.hid (any_at S (fun p => decide ((tellOne X p).2 ≠ 0)) j hlt (by rw [HTO.out]; simpa using he))
                      go_wp2_with (first | refine wpList_store_row rfl 30 (.tmp 8) (.tmp 108) rfl _ _ rfl rfl _ _ HST3.out.r.1 zsize (by rw [KA.rowSize HST3.out.r.2, zrow]) zone ?_)
                      have hfin := HST3.out.r.row _ noKeys_len
                      refine bodyPost_ret (results_cell_row2 rfl _ _ _ _ _ _ _ rfl hfin.1 Tryd.underlying30 rfl (size_info _ _ hfin.2 s30)) rfl ?_
                      rw [hans.out, if_neg (by rw [hany]; decide), if_neg (by omega), if_pos hno.out]
                      exact ⟨_, rfl, Kd.R_nil _ _ _ _ _, below_setRow HST3.out.bel (by omega) _⟩
                  · obtain rfl : j = S.length := by omega
                    rw [List.take_length] at hbad hlr
                    have HST := Lib.hid hst; have HO := Lib.hid ho'; have HL := Lib.hid hlr
                    clear hst ho' hlr
                    go_wp2_with (first | refine wpList_load_row rfl 30 (.tmp 15) rfl _ rfl _ _ _ _ HO.out.1 Tryd.underlying30 rfl (size_info _ _ HO.out.2 s30) ?_ | refine wpList_store_row rfl 30 (.tmp 8) (.tmp 114) rfl _ _ rfl rfl _ _ HST.out.r.1 (size_info _ _ HO.out.2 s30) (by rw [KA.rowSize HST.out.r.2, KA.rowSize HO.out.2]) (one_string _) ?_)
                    have hfin := HST.out.r.row _ HO.out.2
                    refine bodyPost_ret (results_cell_row2 rfl _ _ _ _ _ _ _ rfl hfin.1 Tryd.underlying30 rfl (size_info _ _ hfin.2 s30)) rfl ?_
                    rw [hans.out, if_neg (by rw [hany]; decide), if_neg (by omega), if_neg (by rw [hbad]; decide)]
                    exact ⟨_, rfl, rowR_setRow HL.out HST.out.r.1 _, below_setRow HST.out.bel (by omega) _⟩
end Go.Proofs.YtecimagjeelgbaaDoor.Pr

/- grown: its contract. -/
set_option linter.unusedVariables false
set_option linter.unusedSimpArgs false
namespace Go.Proofs.YtecimagjeelgbaaDoor.Pr
open Go.RowKit Go.Proofs.YtecimagjeelgbaaDoorW.PrintWords Go.Proofs.YtecimagjeelgbaaDoorW.PrintLast Go.Proofs.YtecimagjeelgbaaDoorW.PrintMore Go.Proofs.YtecimagjeelgbaaDoor.TT

theorem rekeyF_len (was is : Int) (ks : List ByteArray) (first : Int) : (rekeyF was is ks first).1.length = 32 := by
  unfold rekeyF
  split
  · exact noKeys_len
  · split
    · exact noKeys_len
    · split
      · exact noKeys_len
      · exact newKeys_len _ _ _ _
def grownF (m : Int) : List ByteArray × Bool := (leafUp (rekeyF 0 m leavesL 2000).1 16, decide ((rekeyF 0 m leavesL 2000).2.2 = 0))
theorem grownF_len (m : Int) : (grownF m).1.length = 32 := by
  unfold grownF
  dsimp only
  exact leafUp_len _ (rekeyF_len _ _ _ _) 16
theorem KA.setRow_other {T : TypeId} {w : World} {b : Nat} {ks : List ByteArray} (h : KA T w b ks) {g : Nat} (hne : b ≠ g) (cs : Array Value) : KA T (w.setRow g cs) b ks :=
  h.same (by simp only [World.setRow, Array.getElem?_modify]; rw [if_neg (fun e => hne e.symm)])
set_option maxHeartbeats 4000000 in
set_option maxRecDepth 100000 in
theorem grown_any (m : Nat) (hm : m < 65536) (w : World) (HT0 : TabAt w) :
    Calls Tryd.prog 13 #[.int .u16 (m : Int)] w fun e w' => e = .returned (.tuple #[KV (grownF m).1, .bool (grownF m).2]) ∧ RowKit.Below w.heap.size w w' := by
  have hz := zero30
  have hcz := cellsZ
  have hrk := fun w => rekey_any leavesL leaves_len 0 m (by decide) hm 2000 (by decide) w
  have hlen := rekeyF_len 0 m leavesL 2000
  have hg : grownF (m : Int) = (leafUp (rekeyF 0 m leavesL 2000).1 16, decide ((rekeyF 0 m leavesL 2000).2.2 = 0)) := rfl
  obtain ⟨X, hX⟩ : ∃ X, X = rekeyF 0 (m : Int) leavesL 2000 := ⟨_, rfl⟩
  simp only [show ((0 : Nat) : Int) = 0 from rfl, show ((2000 : Nat) : Int) = 2000 from rfl, ← hX] at hrk hlen hg
  rw [hg]
  clear hg hX
  obtain ⟨x, l, er⟩ := X
  simp only at hrk hlen
  go_enter Tryd.func13, Tryd.ntmps13
  have HR := Lib.hid (KA.new 30 w noKeys noKeys_len Z32 rfl)
  have HB := Lib.hid ((RowKit.Below.refl w.heap.size w).alloc (Nat.le_refl _) (.cells Z32 30))
  go_wp2_with fail
  generalize w.alloc (.cells Z32 30) = W at HR HB ⊢
  refine (leaves_any W).mono ?_
  rintro e w2 ⟨rfl, hb⟩
  have HR2 := Lib.hid (HR.out.after hb)
  have HB2 := Lib.hid (HB.out.trans (hb.mono HB.out.size))
  clear hb HR HB
  go_wp2_with fail
  refine (hrk w2 (TabAt.below HT0 (Nat.le_refl _) HB2.out)).mono ?_
  rintro e w3 ⟨v, rfl, hr, hb⟩
  have HR3 := Lib.hid (HR2.out.after hb)
  have HB3 := Lib.hid (HB2.out.trans (hb.mono HB2.out.size))
  clear hb HR2 HB2 hr hrk
  have HR4 := Lib.hid (HR3.out.alloc (.cells Z32 30))
  have HB4 := Lib.hid (HB3.out.alloc HB3.out.size (.cells Z32 30))
  have HO4 := Lib.hid (KA.new 30 w3 noKeys noKeys_len Z32 rfl)
  have hlo : w.heap.size < w3.heap.size := HR3.out.lt
  go_wp2_with (first | refine wpList_store_row rfl 30 (.tmp 4) (.tmp 12) rfl _ _ rfl rfl _ _ HO4.out.1 (size_info _ x hlen s30) (by rw [KA.rowSize HO4.out.2, KA.rowSize hlen]) (one_string _) ?_)
  have HR := Lib.hid (HR4.out.setRow_other (show w.heap.size ≠ w3.heap.size by omega) (x.map Value.string).toArray)
  have HO := Lib.hid (HO4.out.row x hlen)
  have HB := Lib.hid (below_setRow HB4.out (show w.heap.size ≤ w3.heap.size by omega) (x.map Value.string).toArray)
  generalize (w3.alloc (.cells Z32 30)).setRow w3.heap.size (x.map Value.string).toArray = W4 at HR HO HB ⊢
  generalize w3.heap.size = o at hlo HO ⊢
  clear HR3 HB3 HR4 HB4 HO4 hz hcz
  go_loopw [7] (fun i wr => ∃ j : Nat, j ≤ 16 ∧ i = .int .i64 ((16 + j : Nat) : Int) ∧ RowKit.Below w.heap.size w wr ∧ KA 30 wr w.heap.size noKeys ∧ KA 30 wr o (leafUp x j)) (fun i _ => 32 - (intOf i).toNat)
  case atStart => exact ⟨0, Nat.zero_le _, rfl, HB.out, HR.out, HO.out⟩
  case round =>
    obtain ⟨j, hj, rfl, hbel, hr, ho⟩ := hrel
    by_cases hlt : j < 16
    · have HBEL := Lib.hid hbel; have HRr := Lib.hid hr; have HOr := Lib.hid ho
      clear hbel hr ho
      go_wp2_with fail
      rw [show ((1000 : Int) + (16 + (j : Int))) = ((1016 + j : Nat) : Int) by omega]
      refine (nonce_calls _ _).mono ?_
      rintro e w2 ⟨rfl, hb⟩
      have HR2 := Lib.hid (HRr.out.after hb); have HO2 := Lib.hid (HOr.out.after hb)
      have HB2 := Lib.hid (HBEL.out.trans (hb.mono HBEL.out.size))
      have htk := Lib.hid (leafUp_succ x j)
      have hfo := HO2.out.frozen (16 + j)
      have hco := HO2.out.cell (j := 16 + j) (by omega)
      clear hb
      go_wp2_with fail
      go_roundw
      case rel =>
        refine ⟨j + 1, by omega, by simp; omega, HB2.out.setCell (p := ⟨o, 16 + j, none⟩) (show w.heap.size ≤ o by omega) _, HR2.out.other _ _ (show w.heap.size ≠ o by omega), ?_⟩
        rw [htk.out]; exact HO2.out.set (16 + j) _
      case measure => simp [intOf]; omega
    · obtain rfl : j = 16 := by omega
      have HBEL := Lib.hid hbel; have HRr := Lib.hid hr; have HOr := Lib.hid ho
      clear hbel hr ho
      go_wp2_with (first | refine wpList_load_row rfl 30 (.tmp 4) rfl _ rfl _ _ _ _ HOr.out.1 Tryd.underlying30 rfl (size_info _ _ HOr.out.2 s30) ?_ | refine wpList_store_row rfl 30 (.tmp 2) (.tmp 25) rfl _ _ rfl rfl _ _ HRr.out.1 (size_info _ _ HOr.out.2 s30) (by rw [KA.rowSize HRr.out.2, KA.rowSize HOr.out.2]) (one_string _) ?_)
      have hfin := HRr.out.row _ HOr.out.2
      refine bodyPost_ret (results_cell_row1 rfl _ _ _ _ _ _ _ rfl hfin.1 Tryd.underlying30 rfl (size_info _ _ hfin.2 s30)) rfl ?_
      exact ⟨rfl, below_setRow HBEL.out (by omega) _⟩
end Go.Proofs.YtecimagjeelgbaaDoor.Pr

/- (Keys).open: its contract. -/
set_option linter.unusedVariables false
set_option linter.unusedSimpArgs false
namespace Go.Proofs.YtecimagjeelgbaaDoor.Pr
open Go.RowKit Go.Proofs.YtecimagjeelgbaaDoorW.PrintWords Go.Proofs.YtecimagjeelgbaaDoorW.PrintLast Go.Proofs.YtecimagjeelgbaaDoorW.PrintMore Go.Proofs.YtecimagjeelgbaaDoor.TT

/-- What a pair's text has behind its label. -/
def pairOf (p : ByteArray) (n : Int) : ByteArray × Bool :=
  if (partsOf p).1 = 112 then (match (partsOf p).2.1 with
    | [a, b] => if a = Ev03.labelOf n then (b, true) else (⟨#[]⟩, false)
    | _ => (⟨#[]⟩, false)) else (⟨#[]⟩, false)
def openK (ks : List ByteArray) (t : ByteArray) (c : Nat) : ByteArray × Bool :=
  if (Ev03.openOf (key ks c) t).2 = 0 then pairOf (Ev03.openOf (key ks c) t).1 ((c / 2 : Nat) : Int) else (⟨#[]⟩, false)
theorem parts_pair {p : ByteArray} (h : (partsOf p).1 = 112) : ∃ a b, (partsOf p).2.1 = [a, b] := by
  by_cases hc : check p = 0
  · obtain ⟨t, hr, ho, _⟩ := check_ok hc
    rw [partsOf_ok hc hr] at h ⊢
    cases t with
    | nonce a b => exact absurd (show ((110 : UInt8).toNat : Int) = 112 from h) (by decide)
    | const l => exact absurd (show ((99 : UInt8).toNat : Int) = 112 from h) (by decide)
    | hash t => exact absurd (show ((104 : UInt8).toNat : Int) = 112 from h) (by decide)
    | two k a b => exact ⟨a.str, b.str, rfl⟩
  · rw [partsOf_bad hc] at h
    exact absurd (show (0 : Int) = 112 from h) (by decide)
theorem open_calls (key s : ByteArray) (w : World) :
    Calls Tryd.prog 56 #[.string key, .string s] w fun e w' => e = .returned (.tuple #[.string (Ev03.openOf key s).1, .int .i64 (Ev03.openOf key s).2]) ∧ RowKit.Below w.heap.size w w' :=
  term_Open.calls key s _ _ w (Ev03.open_spec key s)
theorem parts_calls (s : ByteArray) (w : World) :
    Calls Tryd.prog 57 #[.string s] w fun e w' => ∃ v1_ : Value, e = .returned (.tuple #[.int .u8 (partsOf s).1, v1_, .int .i64 (partsOf s).2.2]) ∧ Kd.R Kd.string 25 w' w.heap.size (fun _ => True) v1_ (partsOf s).2.1 ∧ RowKit.Below w.heap.size w w' :=
  term_Parts.calls s _ _ _ w rfl
theorem label_calls (n : Int) (w : World) :
    Calls Tryd.prog 51 #[.int .i64 n] w fun e w' => e = .returned (.string (Ev03.labelOf n)) ∧ RowKit.Below w.heap.size w w' :=
  path_label.calls n _ w (Ev03.label_spec n)
set_option maxHeartbeats 4000000 in
set_option maxRecDepth 100000 in
theorem openK_any (ks : List ByteArray) (hl : ks.length = 32) (t : ByteArray) (c : Nat) (hc : 1 ≤ c ∧ c < 32) (w : World) :
    Calls Tryd.prog 36 #[KV ks, .string t, .int .i64 (c : Int)] w fun e w' => e = .returned (.tuple #[.string (openK ks t c).1, .bool (openK ks t c).2]) ∧ RowKit.Below w.heap.size w w' := by
  have hca := cells_agg ks
  have hci : (c : Int) < 32 := by omega
  obtain ⟨R, hR⟩ : ∃ R, R = openK ks t c := ⟨_, rfl⟩
  rw [← hR]
  have HR := Lib.hid (show R = if (Ev03.openOf (key ks c) t).2 = 0 then pairOf (Ev03.openOf (key ks c) t).1 ((c / 2 : Nat) : Int) else (⟨#[]⟩, false) from hR)
  clear hR
  unfold KV
  go_enter Tryd.func36, Tryd.ntmps36
  have HK := Lib.hid (KA.new 30 w ks hl (ks.map Value.string).toArray rfl)
  have HB := Lib.hid ((RowKit.Below.refl w.heap.size w).alloc (Nat.le_refl _) (.cells (ks.map Value.string).toArray 30))
  have hck := HK.out.cell (j := c) (by omega)
  go_wp2_with fail
  generalize w.alloc (.cells (ks.map Value.string).toArray 30) = W at HK HB hck ⊢
  refine (open_calls _ _ W).mono ?_
  rintro e w2 ⟨rfl, hb⟩
  have HB2 := Lib.hid (HB.out.trans (hb.mono HB.out.size))
  clear hb HB HK hck hca
  generalize Ev03.openOf (key ks c) t = O at HR ⊢
  obtain ⟨p, er⟩ := O
  by_cases he : er = 0
  · subst he
    have HR1 := Lib.hid (HR.out.trans (if_pos rfl))
    clear HR
    go_wp2_with fail
    refine (parts_calls p w2).mono ?_
    rintro e w3 ⟨v, rfl, hr, hb⟩
    have HB3 := Lib.hid (HB2.out.trans (hb.mono HB2.out.size))
    clear hb HB2
    by_cases hk : (partsOf p).1 = 112
    · obtain ⟨a, b, hab⟩ := parts_pair hk
      have hpo : pairOf p ((c / 2 : Nat) : Int) = if a = Ev03.labelOf ((c / 2 : Nat) : Int) then (b, true) else (⟨#[]⟩, false) := by unfold pairOf; rw [if_pos hk, hab]
      have HR2 := Lib.hid (HR1.out.trans hpo)
      rw [hk]
      rw [hab] at hr
      clear hpo hk hab HR1
      obtain ⟨A, cp, ev⟩ := Kd.R_slice hr
      subst ev
      obtain ⟨ad, e1, ha⟩ := Kd.at_string (Kd.R_reads' hr).2.2 0 (by omega) (by simp)
      subst e1
      obtain ⟨ad2, e1, hb2⟩ := Kd.at_string (Kd.R_reads' hr).2.2 1 (by omega) (by simp)
      injection e1 with e1
      subst e1
      obtain ⟨g, eg⟩ := Kd.R_head hr
      subst eg
      have ha0 : w3.cell? ⟨g, 0, none⟩ = some (.string a) := ha
      have hb0 : w3.cell? ⟨g, 1, none⟩ = some (.string b) := hb2
      clear ha hb2
      go_wp2_with fail
      have HB3' := HB3
      have hq : Int.tdiv (c : Int) 2 = ((c / 2 : Nat) : Int) := by rw [Int.tdiv_eq_ediv_of_nonneg (by omega)]; omega
      have HSt : ∀ w1 w2 : World, (RowKit.Below w3.heap.size w3 w1 ∧ w1.cell? ⟨g, 0, none⟩ = some (.string a)) → RowKit.Below w1.heap.size w1 w2 → (RowKit.Below w3.heap.size w3 w2 ∧ w2.cell? ⟨g, 0, none⟩ = some (.string a)) := by
        rintro w1 w2 ⟨h1, h2⟩ hb
        have h6 := h1.trans (hb.mono h1.size)
        obtain ⟨ad', e1, ha2⟩ := Kd.at_string (Kd.R_reads' (Kd.R_below hr h6)).2.2 0 (by omega) (by simp)
        injection e1 with e1
        subst e1
        exact ⟨h6, ha2⟩
      have hB0 := RowKit.Below.refl w3.heap.size w3
      go_region_held3 (fun w' => RowKit.Below w3.heap.size w3 w' ∧ w'.cell? ⟨g, 0, none⟩ = some (.string a)) ((first | exact HSt w3 _ ⟨hB0, ha0⟩ ((RowKit.Below.refl _ _).drew) | exact HSt _ _ (by first | assumption | exact ⟨by assumption, by assumption⟩) (by assumption) | go_keep)) ((go_at_call 51; refine (label_calls _ _).mono ?_; rintro e w' ⟨rfl, hb⟩))
      rename_i hheld
      have hw2 : IntKind.i64.wrap ((c : Int) / 2) = ((c / 2 : Nat) : Int) := by simp only [IntKind.wrap, IntKind.bits, IntKind.signed]; simp; omega
      rw [hw2]
      have HB4 := Lib.hid (HB3.out.trans (hheld.1.mono HB3.out.size))
      have hb1 : w'.cell? ⟨g, 1, none⟩ = some (.string b) := by
        obtain ⟨ad', e1, ha2⟩ := Kd.at_string (Kd.R_reads' (Kd.R_below hr hheld.1)).2.2 1 (by omega) (by simp)
        injection e1 with e1
        subst e1
        exact ha2
      clear hheld hb HSt hB0 hq hw2 ha0 hb0 hr HB3 HB3'
      generalize Ev03.labelOf ((c / 2 : Nat) : Int) = L at HR2 ⊢
      by_cases hal : a = L
      · have HR3 := Lib.hid (HR2.out.trans (if_pos hal))
        subst hal
        rw [show (!(a.toList == a.toList)) = false by simp]
        go_wp2_with fail
        go_ret2
        rw [HR3.out]
        exact ⟨rfl, HB4.out⟩
      · have HR3 := Lib.hid (HR2.out.trans (if_neg hal))
        rw [show (!(a.toList == L.toList)) = true by simpa [Ev03.toList_iff] using hal]
        go_wp2_with fail
        go_ret2
        rw [HR3.out]
        exact ⟨rfl, HB4.out⟩
    · have HR2 := Lib.hid (HR1.out.trans (show pairOf p ((c / 2 : Nat) : Int) = (⟨#[]⟩, false) by unfold pairOf; rw [if_neg hk]))
      obtain ⟨A, cp, ev⟩ := Kd.R_slice hr
      subst ev
      generalize (partsOf p).1 = kd at hk ⊢
      go_wp2_with fail
      go_quiet (fail)
      go_wp2_with fail
      go_ret2
      rw [HR2.out]
      exact ⟨rfl, pw_below_drewN HB3.out _⟩
  · have HR1 := Lib.hid (HR.out.trans (if_neg he))
    clear HR
    go_wp2_with fail
    go_ret2
    rw [HR1.out]
    exact ⟨rfl, HB2.out⟩
end Go.Proofs.YtecimagjeelgbaaDoor.Pr

/- path.Learn: its contract. -/
set_option linter.unusedVariables false
set_option linter.unusedSimpArgs false
namespace Go.Proofs.YtecimagjeelgbaaDoor.Pr
open Go.RowKit Go.Proofs.YtecimagjeelgbaaDoorW.PrintWords Go.Proofs.YtecimagjeelgbaaDoorW.PrintLast Go.Proofs.YtecimagjeelgbaaDoorW.PrintMore Go.Proofs.YtecimagjeelgbaaDoor.TT

/-- The first node by whose key a term is opened. -/
def findOpen (ks : List ByteArray) (t : ByteArray) : Option Nat := (List.range' 2 30).find? (fun c => (openK ks t c).2)
def learnStep (s : List ByteArray × Nat) (t : ByteArray) : List ByteArray × Nat :=
  match findOpen s.1 t with
  | some c => (s.1.set (c / 2) (openK s.1 t c).1, s.2 + 1)
  | none => s
def learnF (ks : List ByteArray) (l : List ByteArray) : List ByteArray × Nat := l.foldl learnStep (ks, 0)
theorem learnStep_len {s : List ByteArray × Nat} (h : s.1.length = 32) (t : ByteArray) : (learnStep s t).1.length = 32 := by
  unfold learnStep
  split
  · rw [List.length_set]; exact h
  · exact h
theorem learnF_len {ks : List ByteArray} (h : ks.length = 32) (l : List ByteArray) : (learnF ks l).1.length = 32 := by
  unfold learnF
  have H : ∀ (l : List ByteArray) (s : List ByteArray × Nat), s.1.length = 32 → (l.foldl learnStep s).1.length = 32 := by
    intro l
    induction l with
    | nil => intro s h; exact h
    | cons t l ih => intro s h; exact ih _ (learnStep_len h t)
  exact H l _ h
theorem learnStep_n (s : List ByteArray × Nat) (t : ByteArray) : (learnStep s t).2 ≤ s.2 + 1 := by
  unfold learnStep; split <;> simp
theorem learnF_n (ks : List ByteArray) (l : List ByteArray) : (learnF ks l).2 ≤ l.length := by
  unfold learnF
  have H : ∀ (l : List ByteArray) (s : List ByteArray × Nat), (l.foldl learnStep s).2 ≤ s.2 + l.length := by
    intro l
    induction l with
    | nil => intro s; simp
    | cons t l ih => intro s; have := ih (learnStep s t); have := learnStep_n s t; simp only [List.foldl_cons, List.length_cons]; omega
  have := H l (ks, 0)
  simpa using this
theorem learnF_take (ks : List ByteArray) (l : List ByteArray) (j : Nat) (hj : j < l.length) : learnF ks (l.take (j + 1)) = learnStep (learnF ks (l.take j)) l[j] := by
  unfold learnF; rw [List.take_succ_eq_append_getElem hj, List.foldl_append]; rfl
theorem find_at {ks : List ByteArray} {t : ByteArray} {c : Nat} (h2 : 2 ≤ c) (hc : c < 32) (hno : ∀ d, 2 ≤ d → d < c → (openK ks t d).2 = false) (ho : (openK ks t c).2 = true) : findOpen ks t = some c := by
  unfold findOpen
  rw [show List.range' 2 30 = List.range' 2 (c - 2) ++ List.range' c (32 - c) by
    have := @List.range'_append_1 2 (c - 2) (32 - c)
    rw [show 2 + (c - 2) = c by omega, show c - 2 + (32 - c) = 30 by omega] at this
    exact this.symm, List.find?_append]
  have h1 : (List.range' 2 (c - 2)).find? (fun c => (openK ks t c).2) = none := by
    rw [List.find?_eq_none]
    intro d hd
    rw [List.mem_range'_1] at hd
    rw [hno d hd.1 (by omega)]
    decide
  rw [h1, Option.none_or, show 32 - c = (31 - c) + 1 by omega, List.range'_succ, List.find?_cons, ho]
theorem find_none {ks : List ByteArray} {t : ByteArray} (hno : ∀ d, 2 ≤ d → d < 32 → (openK ks t d).2 = false) : findOpen ks t = none := by
  unfold findOpen
  rw [List.find?_eq_none]
  intro d hd
  rw [List.mem_range'_1] at hd
  rw [hno d hd.1 (by omega)]
  decide
set_option maxHeartbeats 4000000 in
set_option maxRecDepth 100000 in
theorem learn_any (ks : List ByteArray) (hl : ks.length = 32) (A : Option Addr) (cp : Nat) (l : List ByteArray) (hll : l.length ≤ 1000000) (w : World) (hr : Kd.C Kd.string w A l.length l) (hcp : l.length ≤ cp) :
    Calls Tryd.prog 17 #[KV ks, .slice A l.length cp] w fun e w' => e = .returned (.tuple #[KV (learnF ks l).1, .int .i64 ((learnF ks l).2 : Int)]) ∧ RowKit.Below w.heap.size w w' := by
  have hca := cells_agg ks
  have hz := zero30
  have hcz := cellsZ
  have HC := Lib.hid hr
  clear hr
  unfold KV
  go_enter Tryd.func17, Tryd.ntmps17
  have HK := Lib.hid (show KA 30 ((w.alloc (.cells (ks.map Value.string).toArray 30)).alloc (.cells Z32 30)) w.heap.size ks from (KA.new _ w ks hl _ rfl).alloc _)
  have HR := Lib.hid (show KA 30 ((w.alloc (.cells (ks.map Value.string).toArray 30)).alloc (.cells Z32 30)) (w.heap.size + 1) noKeys from by
    have := KA.new 30 (w.alloc (.cells (ks.map Value.string).toArray 30)) noKeys noKeys_len Z32 rfl
    simpa using this)
  have HB := Lib.hid (((RowKit.Below.refl w.heap.size w).alloc (Nat.le_refl _) (.cells (ks.map Value.string).toArray 30)).alloc (by simp) (.cells Z32 30))
  go_wp2_with fail
  generalize (w.alloc (.cells (ks.map Value.string).toArray 30)).alloc (.cells Z32 30) = W at HK HR HB ⊢
  go_step3
  go_wp2_with fail
  go_step3
  go_wp2_with fail
  clear hca hz hcz
  go_loopw [6, 14] (fun n i wr => ∃ j : Nat, j ≤ l.length ∧ i = .int .i64 j ∧ n = .int .i64 ((learnF ks (l.take j)).2 : Int) ∧ RowKit.Below w.heap.size w wr ∧ KA 30 wr w.heap.size (learnF ks (l.take j)).1 ∧ KA 30 wr (w.heap.size + 1) noKeys) (fun _ i _ => l.length - (intOf i).toNat)
  case atStart => exact ⟨0, Nat.zero_le _, rfl, rfl, HB.out, HK.out, HR.out⟩
  case round =>
    clear HB HK HR
    obtain ⟨j, hj, rfl, rfl, hbel, hk, hr⟩ := hrel
    by_cases hlt : j < l.length
    · obtain ⟨ad, e1, e2⟩ := Kd.at_string (Kd.C_below HC.out hbel) (j : Int) (by omega) (by omega)
      subst e1
      have hrd : rdOf ByteArray.empty l (j : Int) = l[j] := by simp [rdOf, hlt]
      rw [hrd, Int.toNat_natCast] at e2
      have htk := Lib.hid (learnF_take ks l j hlt)
      have hnb := learnF_n ks (l.take j)
      rw [List.length_take] at hnb
      generalize l[j] = t at e2 htk
      generalize learnF ks (l.take j) = s at hk htk hnb ⊢
      obtain ⟨K, n⟩ := s
      dsimp only at hk hnb ⊢
      have HBEL := Lib.hid hbel; have HKr := Lib.hid hk; have HRr := Lib.hid hr
      clear hbel hk hr hrd
      go_wp2_with fail
      go_loopw [6, 9] (fun nn i wl => ∃ c : Nat, 2 ≤ c ∧ c ≤ 32 ∧ i = .int .i64 (c : Int) ∧ nn = .int .i64 (n : Int) ∧ (∀ d, 2 ≤ d → d < c → (openK K t d).2 = false) ∧ RowKit.Below w.heap.size w wl ∧ KA 30 wl w.heap.size K ∧ KA 30 wl (w.heap.size + 1) noKeys) (fun _ i _ => 32 - (intOf i).toNat)
      case atStart => exact ⟨2, by omega, by omega, rfl, rfl, fun d h1 h2 => absurd h2 (by omega), HBEL.out, HKr.out, HRr.out⟩
      case round =>
        clear HBEL HKr HRr
        obtain ⟨c, hc2, hc3, rfl, rfl, hno, hbel, hk, hr⟩ := hrel
        have HBEL := Lib.hid hbel; have HKr := Lib.hid hk; have HRr := Lib.hid hr; have HNO := Lib.hid hno
        clear hbel hk hr hno
        by_cases hlc : c < 32
        · have hop := openK_any K HKr.out.2 t c ⟨by omega, hlc⟩
          unfold KV at hop
          go_wp2_with (first | refine wpList_load_row rfl 30 (.tmp 2) rfl _ rfl _ _ _ _ HKr.out.1 Tryd.underlying30 rfl (size_info _ _ HKr.out.2 s30) ?_)
          refine (hop _).mono ?_
          rintro e w4 ⟨rfl, hb⟩
          have HB2 := Lib.hid (HBEL.out.trans (hb.mono HBEL.out.size))
          have HK2 := Lib.hid (HKr.out.after hb); have HR2 := Lib.hid (HRr.out.after hb)
          clear hb hop HBEL HKr HRr
          cases hoc : (openK K t c).2 with
          | true =>
            have HST := Lib.hid (show learnStep (K, n) t = (K.set (c / 2) (openK K t c).1, n + 1) by unfold learnStep; rw [find_at hc2 hlc HNO.out hoc])
            have hfo := HK2.out.frozen (c / 2)
            have hco := HK2.out.cell (j := c / 2) (by omega)
            have hq : Int.tdiv (c : Int) 2 = ((c / 2 : Nat) : Int) := by rw [Int.tdiv_eq_ediv_of_nonneg (by omega)]; omega
            go_wp2_with fail
            go_roundw
            case rel =>
              refine ⟨j + 1, by omega, by simp, by rw [htk.out, HST.out]; simp, HB2.out.setCell (p := ⟨w.heap.size, c / 2, none⟩) (Nat.le_refl _) _, ?_, HR2.out.other _ _ (show w.heap.size + 1 ≠ w.heap.size by omega)⟩
              rw [htk.out, HST.out]
              exact HK2.out.set (c / 2) _
            case measure => simp [intOf]; omega
          | false =>
            have HNO2 := Lib.hid (show ∀ d, 2 ≤ d → d < c + 1 → (openK K t d).2 = false from fun d h1 h2 => by
              by_cases hd : d < c
              · exact HNO.out d h1 hd
              · obtain rfl : d = c := by omega
                exact hoc)
            go_wp2_with fail
            go_roundw
            case rel => exact ⟨c + 1, by omega, by omega, by simp, rfl, HNO2.out, HB2.out, HK2.out, HR2.out⟩
            case measure => simp [intOf]; omega
        · obtain rfl : c = 32 := by omega
          have HST := Lib.hid (show learnStep (K, n) t = (K, n) by unfold learnStep; rw [find_none HNO.out])
          go_wp2_with fail
          go_roundw
          case rel => exact ⟨j + 1, by omega, by simp, by rw [htk.out, HST.out], HBEL.out, by rw [htk.out, HST.out]; exact HKr.out, HRr.out⟩
          case measure => simp [intOf]; omega
    · obtain rfl : j = l.length := by omega
      rw [List.take_length] at hk ⊢
      have hfl := learnF_len hl l
      obtain ⟨s, hs⟩ : ∃ s, s = learnF ks l := ⟨_, rfl⟩
      rw [← hs] at hk hfl ⊢
      have HS := Lib.hid hs
      clear hs
      have HBEL := Lib.hid hbel; have HKr := Lib.hid hk; have HRr := Lib.hid hr
      clear hbel hk hr
      go_wp2_with (first | refine wpList_load_row rfl 30 (.tmp 2) rfl _ rfl _ _ _ _ HKr.out.1 Tryd.underlying30 rfl (size_info _ _ HKr.out.2 s30) ?_ | refine wpList_store_row rfl 30 (.tmp 4) (.tmp 37) rfl _ _ rfl rfl _ _ HRr.out.1 (size_info _ _ HKr.out.2 s30) (by rw [KA.rowSize HRr.out.2, KA.rowSize HKr.out.2]) (one_string _) ?_)
      rw [Exit.noGoto_ret]
      have hfin := HRr.out.row _ HKr.out.2
      refine bodyPost_ret (results_cell_row1 rfl _ _ _ _ _ _ _ rfl hfin.1 Tryd.underlying30 rfl (size_info _ _ hfin.2 s30)) rfl ?_
      rw [← HS.out]
      exact ⟨rfl, below_setRow HBEL.out (by omega) _⟩
end Go.Proofs.YtecimagjeelgbaaDoor.Pr
