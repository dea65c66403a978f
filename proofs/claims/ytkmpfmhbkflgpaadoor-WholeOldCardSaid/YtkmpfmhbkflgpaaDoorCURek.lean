import Derived.Test.YtkmpfmhbkflgpaaDoorCUIdx
import Derived.Deep.RegionHeld3
import Derived.ChangeKeysEq
import Derived.Laws.StructEq
/- path.Rekey: its contract. -/
set_option linter.unusedVariables false
set_option linter.unusedSimpArgs false
namespace Go.Proofs.YtkmpfmhbkflgpaaDoor.Pr
open Go.RowKit Go.Proofs.YtkmpfmhbkflgpaaDoorW.PrintWords Go.Proofs.YtkmpfmhbkflgpaaDoorW.PrintLast Go.Proofs.YtkmpfmhbkflgpaaDoorW.PrintMore Go.Proofs.YtkmpfmhbkflgpaaDoor.TT

/-- The way of Rekey's answers. -/
def RekeyPost (x : List ByteArray) (l : List ByteArray) (err : Int) (w : World) (e : Ending) (w' : World) : Prop :=
  ∃ v, e = .returned (.tuple #[KV x, v, .int .i64 err]) ∧ Kd.R Kd.string 25 w' w.heap.size (fun _ => True) v l ∧ RowKit.Below w.heap.size w w'
theorem results_cell_row2 {P : Program} {fn : Func} {p u u2 : Tmp} {ty : TypeId} (h : fn.results = #[.cell p ty, .tmp u, .tmp u2]) (tmps : Array Value) (w : World) (g : Nat) (t : TypeId) (cs : Array Value) (fr : Nat × Nat) (d : TypeDesc)
    (hp : tmps.getD p undef = .pointer (some ⟨g, 0, none⟩)) (hg : w.heap[g]? = some (.cells cs t fr))
    (hu : P.underlying ty = some d) (hd : (match d with | .struct _ | .array _ _ => true | _ => false) = true) (hi : (P.info? ty).map (·.size) = some cs.size) :
    (results fn tmps).run P w = .ok (.tuple #[.agg cs, tmps.getD u undef, tmps.getD u2 undef]) w := by
  have hp' : tmps[p]?.getD undef = .pointer (some ⟨g, 0, none⟩) := by simpa using hp
  simp [results, h, hp', asAddr, run_loadVar_row w g t ty cs fr d hg hu hd hi]
/-- What is read of the steps. -/
theorem read_step {w : World} {base : Nat} {ok : Nat → Prop} {A : Option Addr} {c : Nat} {S : List (Int × Int)} (h : Kd.R k54 54 w base ok (.slice A (S.map m38).length c) (S.map m38)) (j : Nat) (hj : j < S.length) :
    ∃ ad : Addr, A = some ad ∧ w.cell? (ad.add (j * 2)) = some (.int .i64 S[j].1) ∧ w.cell? ⟨(ad.add (j * 2)).block, (ad.add (j * 2)).off + 1, none⟩ = some (.int .i64 S[j].2) := by
  obtain ⟨ad, e, h0, h1⟩ := at_T54 (Kd.R_reads' h).2.2 (j : Int) (by omega) (by rw [List.length_map]; omega)
  have hr : rd_T54 (S.map m38) (j : Int) = m38 S[j] := by unfold rd_T54; simp [hj]
  rw [hr, Int.toNat_natCast] at h0 h1
  exact ⟨ad, e, h0, h1⟩
theorem any_take {α : Type} (S : List α) (f : α → Bool) (j : Nat) (hj : j < S.length) (h : (S.take j).any f = false) (hf : f S[j] = false) : (S.take (j + 1)).any f = false := by
  rw [List.take_succ_eq_append_getElem hj, List.any_append, h, List.any_cons, hf]; rfl
theorem any_at {α : Type} (S : List α) (f : α → Bool) (j : Nat) (hj : j < S.length) (hf : f S[j] = true) : S.any f = true := List.any_eq_true.2 ⟨S[j], List.getElem_mem hj, hf⟩
/-- What stays in Rekey's world: the box of the keys, the result's cell, the new keys' numbers and the steps. -/
structure RK (w0 : World) (ks : List ByteArray) (F : List Int) (S : List (Int × Int)) (Af : Option Addr) (cf : Nat) (As : Option Addr) (cs : Nat) (w : World) : Prop where
  bel : RowKit.Below w0.heap.size w0 w
  k : KA 27 w w0.heap.size ks
  r : KA 27 w (w0.heap.size + 1) noKeys
  f : Kd.R (Kd.int .i64) 3 w w0.heap.size (fun _ => True) (.slice Af F.length cf) F
  s : Kd.R k54 54 w w0.heap.size (fun _ => True) (.slice As (S.map m38).length cs) (S.map m38)
theorem RK.after {w0 : World} {ks : List ByteArray} {F : List Int} {S : List (Int × Int)} {Af : Option Addr} {cf : Nat} {As : Option Addr} {cs : Nat} {w w' : World} (h : RK w0 ks F S Af cf As cs w) (hb : RowKit.Below w.heap.size w w') : RK w0 ks F S Af cf As cs w' :=
  ⟨h.bel.trans (hb.mono h.bel.size), h.k.after hb, h.r.after hb, Kd.R_below h.f hb, Kd.R_below h.s hb⟩
theorem RK.alloc {w0 : World} {ks : List ByteArray} {F : List Int} {S : List (Int × Int)} {Af : Option Addr} {cf : Nat} {As : Option Addr} {cs : Nat} {w : World} (h : RK w0 ks F S Af cf As cs w) (o : Obj) : RK w0 ks F S Af cf As cs (w.alloc o) := h.after ((RowKit.Below.refl _ _).alloc (Nat.le_refl _) o)
theorem RK.drew {w0 : World} {ks : List ByteArray} {F : List Int} {S : List (Int × Int)} {Af : Option Addr} {cf : Nat} {As : Option Addr} {cs : Nat} {w : World} (h : RK w0 ks F S Af cf As cs w) : RK w0 ks F S Af cf As cs w.drew := h.after ((RowKit.Below.refl _ _).drew)
/-- A new key is stored. -/
theorem RK.set {w0 : World} {ks : List ByteArray} {F : List Int} {S : List (Int × Int)} {Af : Option Addr} {cf : Nat} {As : Option Addr} {cs : Nat} {w : World} (h : RK w0 ks F S Af cf As cs w) {o : Nat} {x : List ByteArray} (hx : KA 27 w o x) (ho : w0.heap.size + 1 < o) (j : Nat) (v : Value) : RK w0 ks F S Af cf As cs (w.setCell ⟨o, j, none⟩ v) :=
  ⟨h.bel.setCell (p := ⟨o, j, none⟩) (show w0.heap.size ≤ o by omega) v, h.k.other _ _ (show w0.heap.size ≠ o by omega), h.r.other _ _ (show w0.heap.size + 1 ≠ o by omega),
    Kd.R_mono (Kd.R_set h.f hx.1 (by decide) j v) (fun _ _ => trivial), Kd.R_mono (Kd.R_set h.s hx.1 (by decide) j v) (fun _ _ => trivial)⟩
theorem zsize : (Tryd.prog.info? 27).map (·.size) = some Z32.size := size_info _ _ noKeys_len s30
theorem zone : Z32.all (·.oneCell') = true := one_string noKeys
theorem zrow : Z32.size = 32 := KA.rowSize noKeys_len
/-- A row of texts grows. -/
theorem KA.grown {T : TypeId} {w w1 : World} {b : Nat} {ks : List ByteArray} {row : Option Nat} (h : KA T w b ks) (hg : w.grownBy w1 row) (hrow : ∀ k, row = some k → ∃ cells, w.heap[k]? = some (.cells cells 25 (0, 0))) (hT : T ≠ 25) : KA T w1 b ks :=
  h.same (hg.block b h.lt (fun e => by
    obtain ⟨c, hc⟩ := hrow b e.symm
    rw [h.1] at hc
    injection hc with hc
    injection hc with _ hc
    exact hT hc))
theorem RK.grown {w0 : World} {ks : List ByteArray} {F : List Int} {S : List (Int × Int)} {Af : Option Addr} {cf : Nat} {As : Option Addr} {cs : Nat} {w w1 : World} {row : Option Nat} (h : RK w0 ks F S Af cf As cs w) (hg : w.grownBy w1 row) (hb : RowKit.Below w0.heap.size w0 w1) (hrow : ∀ k, row = some k → ∃ cells, w.heap[k]? = some (.cells cells 25 (0, 0))) : RK w0 ks F S Af cf As cs w1 :=
  ⟨hb, h.k.grown hg hrow (by decide), h.r.grown hg hrow (by decide),
    Kd.R_grown2 h.f rfl hg (fun k hk => by obtain ⟨c, hc⟩ := hrow k hk; exact Kd.R_ne h.f hc (by decide)),
    Kd.R_grown2 h.s rfl hg (fun k hk => by obtain ⟨c, hc⟩ := hrow k hk; exact Kd.R_ne h.s hc (by decide))⟩
theorem row_type {w : World} {base : Nat} {ok : Nat → Prop} {v : Value} {xs : List ByteArray} (h : Kd.R Kd.string 25 w base ok v xs) : ∀ k, v.ownBlock = some k → ∃ cells, w.heap[k]? = some (.cells cells 25 (0, 0)) := by
  intro k hk
  obtain ⟨_, _, _, q, hq, c, hc⟩ := (Kd.R_bound h).1 k hk
  have : q = 25 := by simpa [Kd.string, Kd.scalar] using hq
  exact ⟨c, this ▸ hc⟩
theorem rowR_setRow {w : World} {base g : Nat} {ok : Nat → Prop} {v : Value} {xs : List ByteArray} {c : Array Value} (h : Kd.R Kd.string 25 w base ok v xs) (hg : w.heap[g]? = some (.cells c 27 (0, 0))) (cs : Array Value) : Kd.R Kd.string 25 (w.setRow g cs) base (fun _ => True) v xs :=
  Kd.R_mono (Kd.R_step (Kd.R_types h hg (by decide)) (fun k hk _ => by simp only [World.setRow, Array.getElem?_modify]; rw [if_neg (fun e => hk.2 e.symm)])) (fun _ _ => trivial)
/-- A block that was there is there. -/
theorem cell_kept {w w' : World} {b : Nat} {cs : Array Value} {T : TypeId} (h : w.heap[b]? = some (.cells cs T (0, 0))) (hb : RowKit.Below w.heap.size w w') : w'.heap[b]? = some (.cells cs T (0, 0)) := (hb.block b (Array.getElem?_eq_some_iff.1 h).1).trans h
set_option maxHeartbeats 4000000 in
set_option maxRecDepth 100000 in
theorem rekey_any (ks : List ByteArray) (hl : ks.length = 32) (was is : Nat) (hwas : was < 65536) (his : is < 65536) (first : Nat) (hfi : first < 65536) (w : World) (HT0 : TabAt w) :
    Calls Tryd.prog 6 #[.int .u16 (was : Int), .int .u16 (is : Int), KV ks, .int .u16 (first : Int)] w (RekeyPost (rekeyF was is ks first).1 (rekeyF was is ks first).2.1 (rekeyF was is ks first).2.2 w) := by
  have hca := cells_agg ks
  have hz := zero30
  have hcz := cellsZ
  have hfc := fresh_calls was is hwas his
  have hsc := steps_calls was is hwas his
  have hpr := Lib.hid (pair_range (is : Int) (freshI (was : Int) (is : Int)) (fresh_range _ _))
  have hfr := Lib.hid (fresh_range (was : Int) (is : Int))
  have hfl := fresh_len (was : Int) (is : Int)
  have hpl := pairs_len (is : Int) (freshI (was : Int) (is : Int))
  obtain ⟨F, hF⟩ : ∃ F, F = freshI (was : Int) (is : Int) := ⟨_, rfl⟩
  obtain ⟨S, hS⟩ : ∃ S, S = pairsL (is : Int) F := ⟨_, rfl⟩
  have hans := Lib.hid (show rekeyF was is ks first = if S.any (lackOne F ks) then (noKeys, [], 12) else if 65535 < (first : Int) + F.length then (noKeys, [], 7) else if S.any (fun p => decide ((tellOne (newKeys is F ks first) p).2 ≠ 0)) then (noKeys, [], 3) else (newKeys is F ks first, S.map (fun p => (tellOne (newKeys is F ks first) p).1), 0) by rw [hS, hF]; rfl)
  rw [← hF, ← hS] at hpr
  rw [← hF] at hfr hfl
  rw [← hF, ← hS] at hpl
  simp only [← hF] at hfc hsc
  simp only [← hS] at hsc
  clear hF hS
  unfold KV
  go_enter Tryd.func6, Tryd.ntmps6
  have HK := Lib.hid (show KA 27 ((w.alloc (.cells (ks.map Value.string).toArray 27)).alloc (.cells Z32 27)) w.heap.size ks from (KA.new _ w ks hl _ rfl).alloc _)
  have HR := Lib.hid (show KA 27 ((w.alloc (.cells (ks.map Value.string).toArray 27)).alloc (.cells Z32 27)) (w.heap.size + 1) noKeys from by
    have := KA.new 27 (w.alloc (.cells (ks.map Value.string).toArray 27)) noKeys noKeys_len Z32 rfl
    simpa using this)
  have HB := Lib.hid (((RowKit.Below.refl w.heap.size w).alloc (Nat.le_refl _) (.cells (ks.map Value.string).toArray 27)).alloc (by simp) (.cells Z32 27))
  go_wp2_with fail
  generalize (w.alloc (.cells (ks.map Value.string).toArray 27)).alloc (.cells Z32 27) = W at HK HR HB ⊢
  refine (hfc W (TabAt.below HT0 (Nat.le_refl _) HB.out)).mono ?_
  rintro e w2 ⟨v1, rfl, hr1, hb1⟩
  have HK2 := Lib.hid (HK.out.after hb1); have HR2 := Lib.hid (HR.out.after hb1)
  have HB2 := Lib.hid (HB.out.trans (hb1.mono HB.out.size))
  have HF2 := Lib.hid (Kd.R_lower hr1 HB.out.size)
  have hge : w.heap.size + 2 ≤ W.heap.size := by have := HR.out.lt; omega
  have HG1 := Lib.hid hr1
  clear hb1 hr1 hfc HK HR
  go_wp2_with fail
  refine (hsc w2 (TabAt.below HT0 (Nat.le_refl _) HB2.out)).mono ?_
  rintro e w3 ⟨v2, rfl, hr2, hb2⟩
  have HK3 := Lib.hid (HK2.out.after hb2); have HR3 := Lib.hid (HR2.out.after hb2)
  have HB3 := Lib.hid (HB2.out.trans (hb2.mono HB2.out.size))
  have HF3 := Lib.hid (Kd.R_below HF2.out hb2)
  have HS3 := Lib.hid (Kd.R_lower hr2 HB2.out.size)
  clear hb2 hr2 hsc HK2 HR2 HF2 HB2 HB HG1
  obtain ⟨Af, cf, ef⟩ := Kd.R_slice HF3.out
  obtain ⟨As, cs, es⟩ := Kd.R_slice HS3.out
  subst ef; subst es
  go_wp2_with fail
  have HST := Lib.hid (show RK w ks F S Af cf As cs w3 from ⟨HB3.out, HK3.out, HR3.out, HF3.out, HS3.out⟩)
  clear HB3 HK3 HR3 HF3 HS3
  have hlm : (S.map m38).length = S.length := List.length_map _
  go_loopw [32] (fun i wr => ∃ j : Nat, j ≤ S.length ∧ i = .int .i64 j ∧ (S.take j).any (lackOne F ks) = false ∧ RK w ks F S Af cf As cs wr) (fun i _ => S.length - (intOf i).toNat)
  case atStart => exact ⟨0, Nat.zero_le _, rfl, rfl, HST.out⟩
  case round =>
    clear HST
    obtain ⟨j, hj, rfl, hany, hst⟩ := hrel
    by_cases hlt : j < S.length
    · obtain ⟨ad, e1, e2, e3⟩ := read_step hst.s j hlt
      have hp := hpr.out S[j] (List.getElem_mem hlt)
      subst e1
      have HST := Lib.hid hst
      have hlo : lackOne F ks S[j] = (!F.contains S[j].2 && decide (check (key ks S[j].2.toNat) ≠ 0)) := rfl
      obtain ⟨cd, hcd⟩ : ∃ cd : Nat, S[j].2 = (cd : Int) := ⟨S[j].2.toNat, by omega⟩
      rw [hcd] at e3 hlo hp
      rw [Int.toNat_natCast] at hlo
      have hc2 : 2 ≤ cd ∧ cd ≤ 31 := by omega
      have HLO := Lib.hid hlo
      have hlt' : (j : Int) < ((S.map m38).length : Int) := by omega
      clear hst hlo hp hcd
      go_wp2_with fail
      have HST2 := Lib.hid (HST.out.alloc (.cells #[.int .i64 S[j].1, .int .i64 (cd : Int)] 54))
      have hnew := heap_alloc_new wr (.cells #[.int .i64 S[j].1, .int .i64 (cd : Int)] 54)
      generalize wr.alloc (.cells #[.int .i64 S[j].1, .int .i64 (cd : Int)] 54) = wa at HST2 hnew ⊢
      refine (contains_calls Af cf F (by omega) cd wa (Kd.R_reads' HST2.out.f).2.2 (Kd.R_reads' HST2.out.f).2.1).mono ?_
      rintro e w4 ⟨rfl, hd⟩
      have HST3 := Lib.hid (HST2.out.after hd.below)
      have hnew3 := cell_kept hnew hd.below
      have hcl := cell_of_row w4 wr.heap.size 1 _ 54 (0, 0) hnew3
      simp only [List.getElem?_toArray, List.getElem?_cons_succ, List.getElem?_cons_zero] at hcl
      clear HST HST2 hnew hd hnew3
      by_cases hc : F.contains (cd : Int) = true
      · rw [hc]
        go_wp2_with fail
        go_roundw
        case rel => exact ⟨j + 1, by omega, by simp, any_take S _ j hlt hany (by rw [HLO.out, hc]; rfl), HST3.out⟩
        case measure => simp [intOf]; omega
      · rw [Bool.eq_false_iff.mpr hc]
        have hck := HST3.out.k.cell (j := cd) (by omega)
        go_wp2_with fail
        refine (check_calls _ w4).mono ?_
        rintro e w5 ⟨rfl, hb⟩
        have HST4 := Lib.hid (HST3.out.after hb)
        clear hb hck hcl
        by_cases h0 : check (key ks cd) = 0
        · rw [h0]
          go_wp2_with fail
          go_roundw
          case rel => exact ⟨j + 1, by omega, by simp, any_take S _ j hlt hany (by rw [HLO.out, h0]; simp), HST4.out⟩
          case measure => simp [intOf]; omega
        · have hno := Lib.hid (any_at S (lackOne F ks) j hlt (by rw [HLO.out, Bool.eq_false_iff.mpr hc]; simpa using h0))
          go_wp2_with (first | refine wpList_store_row rfl 27 (.tmp 8) (.tmp 49) rfl _ _ rfl rfl _ _ HST4.out.r.1 zsize (by rw [KA.rowSize HST4.out.r.2, zrow]) zone ?_)
          have hfin := HST4.out.r.row _ noKeys_len
          refine bodyPost_ret (results_cell_row2 rfl _ _ _ _ _ _ _ rfl hfin.1 Tryd.underlying27 rfl (size_info _ _ hfin.2 s30)) rfl ?_
          rw [hans.out, if_pos hno.out]
          exact ⟨_, rfl, Kd.R_nil _ _ _ _ _, below_setRow HST4.out.bel (by omega) _⟩
    · obtain rfl : j = S.length := by omega
      have HST := Lib.hid hst
      rw [List.take_length] at hany
      clear hst hj
      by_cases hfull : 65535 < (first : Int) + F.length
      · go_wp2_with (first | refine wpList_store_row rfl 27 (.tmp 8) (.tmp 57) rfl _ _ rfl rfl _ _ HST.out.r.1 zsize (by rw [KA.rowSize HST.out.r.2, zrow]) zone ?_)
        have hfin := HST.out.r.row _ noKeys_len
        refine bodyPost_ret (results_cell_row2 rfl _ _ _ _ _ _ _ rfl hfin.1 Tryd.underlying27 rfl (size_info _ _ hfin.2 s30)) rfl ?_
        rw [hans.out, if_neg (by rw [hany]; decide), if_pos hfull]
        exact ⟨_, rfl, Kd.R_nil _ _ _ _ _, below_setRow HST.out.bel (by omega) _⟩
      · go_wp2_with fail
        have HST1 := Lib.hid (HST.out.alloc (.cells Z32 27))
        have HO := Lib.hid (KA.new 27 wr noKeys noKeys_len Z32 rfl)
        have ho : w.heap.size + 1 < wr.heap.size := by
          have := HST.out.r.lt; exact this
        generalize wr.alloc (.cells Z32 27) = wo at HST1 HO ⊢
        generalize wr.heap.size = o at HO ho ⊢
        clear HST
        go_loopw [16] (fun i wl => ∃ j : Nat, j ≤ 31 ∧ i = .int .i64 ((1 + j : Nat) : Int) ∧ RK w ks F S Af cf As cs wl ∧ KA 27 wl o (baseUp is ks j)) (fun i _ => 32 - (intOf i).toNat)
        case atStart => exact ⟨0, Nat.zero_le _, rfl, HST1.out, HO.out⟩
        case round =>
          clear HST1 HO
          obtain ⟨j, hj, rfl, hst, ho'⟩ := hrel
          have HST := Lib.hid hst; have HO := Lib.hid ho'
          clear hst ho'
          by_cases hlt : j < 31
          · have hsu := baseUp_succ (is : Int) ks j
            go_wp2_with fail
            rw [show (1 : Int) + (j : Int) = ((1 + j : Nat) : Int) by omega]
            refine (below_calls is his _ wr).mono ?_
            rintro e w4 ⟨rfl, hb⟩
            have HST2 := Lib.hid (HST.out.after hb)
            have HO2 := Lib.hid (HO.out.after hb)
            clear hb HST HO
            unfold baseOne at hsu
            by_cases hz : belowI (is : Int) ((1 + j : Nat) : Int) = 0
            · rw [hz]
              rw [if_pos hz] at hsu
              have HSU := Lib.hid hsu
              clear hsu hz
              go_wp2_with fail
              go_roundw
              case rel => exact ⟨j + 1, by omega, by simp; omega, HST2.out, HSU.out ▸ HO2.out⟩
              case measure => simp [intOf]; omega
            · rw [if_neg hz] at hsu
              have HSU := Lib.hid hsu
              have hck := HST2.out.k.cell (j := 1 + j) (by omega)
              have hco := HO2.out.cell (j := 1 + j) (by omega)
              have hfo := HO2.out.frozen (1 + j)
              clear hsu
              generalize belowI (is : Int) ((1 + j : Nat) : Int) = z at hz ⊢
              go_wp2_with fail
              go_roundw
              case rel => exact ⟨j + 1, by omega, by simp; omega, HST2.out.set HO2.out ho _ _, by rw [HSU.out]; exact HO2.out.set (1 + j) _⟩
              case measure => simp [intOf]; omega
          · obtain rfl : j = 31 := by omega
            clear hj hlt
            have hb31 := baseUp_len (is : Int) ks 31
            rw [show ((1 + 31 : Nat) : Int) = 32 from rfl]
            go_wp2_with fail
            go_loopw [73] (fun i wl => ∃ j : Nat, j ≤ F.length ∧ i = .int .i64 j ∧ RK w ks F S Af cf As cs wl ∧ KA 27 wl o (freshUp F first (baseUp is ks 31) j)) (fun i _ => F.length - (intOf i).toNat)
            case atStart => exact ⟨0, Nat.zero_le _, rfl, HST.out, HO.out⟩
            case round =>
              clear HST HO
              obtain ⟨j, hj, rfl, hst, ho'⟩ := hrel
              by_cases hlt : j < F.length
              · have hn := hfr.out F[j] (List.getElem_mem hlt)
                obtain ⟨ad, e1, e2⟩ := Kd.at_int (Kd.R_reads' hst.f).2.2 (j : Int) (by omega) (by omega)
                subst e1
                have hrd : rd F (j : Int) = F[j] := by unfold rd; simp [hlt]
                rw [hrd, Int.toNat_natCast] at e2
                have hsu := freshUp_succ F first (baseUp is ks 31) j
                have hgd : F.getD j 0 = F[j] := by simp [hlt]
                rw [hgd] at hsu
                obtain ⟨nd, hnd⟩ : ∃ nd : Nat, F[j] = (nd : Int) := ⟨F[j].toNat, by omega⟩
                rw [hnd] at e2 hn hsu
                rw [Int.toNat_natCast] at hsu
                have hn2 : 1 ≤ nd ∧ nd ≤ 15 := by omega
                have HST := Lib.hid hst; have HO := Lib.hid ho'; have HSU := Lib.hid hsu
                clear hst ho' hsu hnd hrd hgd hn
                go_wp2_with fail
                refine (nonce_calls _ wr).mono ?_
                rintro e w4 ⟨rfl, hb⟩
                have HST2 := Lib.hid (HST.out.after hb)
                have HO2 := Lib.hid (HO.out.after hb)
                clear hb HST HO
                have hco := HO2.out.cell (j := nd) (by omega)
                have hfo := HO2.out.frozen nd
                go_wp2_with fail
                go_roundw
                case rel => exact ⟨j + 1, by omega, by simp, HST2.out.set HO2.out ho _ _, by rw [HSU.out]; exact HO2.out.set nd _⟩
                case measure => simp [intOf]; omega
              · obtain rfl : j = F.length := by omega
                obtain ⟨X, hX⟩ : ∃ X, X = newKeys (is : Int) F ks first := ⟨_, rfl⟩
                have HST := Lib.hid hst
                have HO := Lib.hid (show KA 27 wr o X by rw [hX]; exact ho')
                rw [← hX] at hans
                clear hst ho' hX hj hlt hb31
                go_wp2_with fail
                go_loopw [19, 88] (fun l i wl => ∃ j : Nat, j ≤ S.length ∧ i = .int .i64 j ∧ (S.take j).any (fun p => decide ((tellOne X p).2 ≠ 0)) = false ∧ RK w ks F S Af cf As cs wl ∧ KA 27 wl o X ∧ Kd.R Kd.string 25 wl w.heap.size (fun _ => True) l ((S.take j).map (fun p => (tellOne X p).1))) (fun _ i _ => S.length - (intOf i).toNat)
                case atStart => exact ⟨0, Nat.zero_le _, rfl, rfl, HST.out, HO.out, Kd.R_nil _ _ _ _ _⟩
                case round =>
                  clear HST HO
                  obtain ⟨j, hj, rfl, hbad, hst, ho', hlr⟩ := hrel
                  by_cases hlt : j < S.length
                  · obtain ⟨ad, e1, e2, e3⟩ := read_step hst.s j hlt
                    have hp := hpr.out S[j] (List.getElem_mem hlt)
                    subst e1
                    have HST := Lib.hid hst; have HO := Lib.hid ho'; have HL := Lib.hid hlr
                    have hto : tellOne X S[j] = Ev03.tellOf (key X S[j].2.toNat) S[j].1 (key X S[j].1.toNat) := rfl
                    obtain ⟨cd, hcd⟩ : ∃ cd : Nat, S[j].2 = (cd : Int) := ⟨S[j].2.toNat, by omega⟩
                    obtain ⟨nd, hnd⟩ : ∃ nd : Nat, S[j].1 = (nd : Int) := ⟨S[j].1.toNat, by omega⟩
                    rw [hcd, hnd] at hto hp
                    rw [hcd] at e3
                    rw [hnd] at e2
                    simp only [Int.toNat_natCast] at hto
                    have hc2 : 2 ≤ cd ∧ cd ≤ 31 ∧ 1 ≤ nd ∧ nd ≤ 15 := by omega
                    have HTO := Lib.hid hto
                    have hlt' : (j : Int) < ((S.map m38).length : Int) := by omega
                    clear hst ho' hlr hp hcd hnd hto
                    go_wp2_with fail
                    have HST2 := Lib.hid (HST.out.alloc (.cells #[.int .i64 (nd : Int), .int .i64 (cd : Int)] 54))
                    have HO2 := Lib.hid (HO.out.alloc (.cells #[.int .i64 (nd : Int), .int .i64 (cd : Int)] 54))
                    have HL2 := Lib.hid (Kd.R_alloc HL.out (.cells #[.int .i64 (nd : Int), .int .i64 (cd : Int)] 54))
                    have hnew := heap_alloc_new wr (.cells #[.int .i64 (nd : Int), .int .i64 (cd : Int)] 54)
                    generalize wr.alloc (.cells #[.int .i64 (nd : Int), .int .i64 (cd : Int)] 54) = wa at HST2 HO2 HL2 hnew ⊢
                    have hc0 := cell_of_row wa wr.heap.size 0 _ 54 (0, 0) hnew
                    have hc1 := cell_of_row wa wr.heap.size 1 _ 54 (0, 0) hnew
                    simp only [List.getElem?_toArray, List.getElem?_cons_succ, List.getElem?_cons_zero] at hc0 hc1
                    have hk1 := HO2.out.cell (j := cd) (by omega)
                    have hsz : wr.heap.size < wa.heap.size := (Array.getElem?_eq_some_iff.1 hnew).1
                    have hk2 := HO2.out.cell (j := nd) (by omega)
                    clear HST HO HL hnew
                    have HSt : ∀ w1 w2 : World, (RowKit.Below wa.heap.size wa w1 ∧ w1.cell? ⟨wr.heap.size, 0, none⟩ = some (.int .i64 (nd : Int)) ∧ w1.cell? ⟨wr.heap.size, 1, none⟩ = some (.int .i64 (cd : Int)) ∧ w1.cell? ⟨o, cd, none⟩ = some (.string (key X cd)) ∧ w1.cell? ⟨o, nd, none⟩ = some (.string (key X nd))) → RowKit.Below w1.heap.size w1 w2 →
                        (RowKit.Below wa.heap.size wa w2 ∧ w2.cell? ⟨wr.heap.size, 0, none⟩ = some (.int .i64 (nd : Int)) ∧ w2.cell? ⟨wr.heap.size, 1, none⟩ = some (.int .i64 (cd : Int)) ∧ w2.cell? ⟨o, cd, none⟩ = some (.string (key X cd)) ∧ w2.cell? ⟨o, nd, none⟩ = some (.string (key X nd))) := by
                      rintro w1 w2 ⟨h1, h2, h3, h4, h5⟩ hb
                      have h6 := h1.trans (hb.mono h1.size)
                      exact ⟨h6, (h6.cell (p := ⟨wr.heap.size, 0, none⟩) hsz).trans hc0, (h6.cell (p := ⟨wr.heap.size, 1, none⟩) hsz).trans hc1, (h6.cell (p := ⟨o, cd, none⟩) HO2.out.lt).trans hk1, (h6.cell (p := ⟨o, nd, none⟩) HO2.out.lt).trans hk2⟩
                    have hB0 := RowKit.Below.refl wa.heap.size wa
                    have hci : (cd : Int) < 32 := by omega
                    have hni : (nd : Int) < 32 := by omega
                    go_region_held3 (fun w' => RowKit.Below wa.heap.size wa w' ∧ w'.cell? ⟨wr.heap.size, 0, none⟩ = some (.int .i64 (nd : Int)) ∧ w'.cell? ⟨wr.heap.size, 1, none⟩ = some (.int .i64 (cd : Int)) ∧ w'.cell? ⟨o, cd, none⟩ = some (.string (key X cd)) ∧ w'.cell? ⟨o, nd, none⟩ = some (.string (key X nd))) ((first | exact HSt wa _ ⟨hB0, hc0, hc1, hk1, hk2⟩ ((RowKit.Below.refl _ _).drew) | exact HSt _ _ (by first | assumption | exact ⟨by assumption, by assumption, by assumption, by assumption, by assumption⟩) (by assumption) | go_keep)) ((go_at_call 18; refine (told_calls _ _ _ _).mono ?_; rintro e w' ⟨rfl, hb⟩))
                    rename_i hheld
                    have hb' := hheld.1
                    have HST3 := Lib.hid (HST2.out.after hb'); have HO3 := Lib.hid (HO2.out.after hb'); have HL3 := Lib.hid (Kd.R_below HL2.out hb')
                    clear hheld hb hb' HSt hB0 hc0 hc1 hk1 hk2 hsz HST2 HO2 HL2
                    generalize Ev03.tellOf (key X cd) (nd : Int) (key X nd) = T at HTO ⊢
                    obtain ⟨tt, te⟩ := T
                    by_cases he : te = 0
                    · subst he
                      have HBD := Lib.hid (any_take S (fun p => decide ((tellOne X p).2 ≠ 0)) j hlt hbad (by rw [HTO.out]; rfl))
                      have HTK : Hid ((S.take (j + 1)).map (fun p => (tellOne X p).1) = (S.take j).map (fun p => (tellOne X p).1) ++ [tt]) := by
                        apply Lib.hid; rw [List.take_succ_eq_append_getElem hlt, List.map_append, List.map_cons, HTO.out]; rfl
                      have hll : ((S.take j).map (fun p => (tellOne X p).1)).length = j := by rw [List.length_map, List.length_take]; omega
                      go_wp2_with (first | (at_builtin; refine Kd.R_append Kd.string (w0 := w) w.heap.size rfl (.tmp 109) (.tmp 111) 30 25 (.string ⟨#[]⟩) 16 rfl Tryd.underlying30 info25 rfl (by decide) (by omega) _ _ tt [.string tt] (fun _ => True) (fun _ => False) rfl rfl rfl (fun _ hk => hk.elim) (fun _ _ => trivial) HL3.out HST3.out.bel HST3.out.bel.size (by rw [hll]; omega) ?_; intro v1 w7 hL hB hG hAt; have HST4 := Lib.hid (HST3.out.grown hG hB (row_type HL3.out)); have HO4 := Lib.hid (HO3.out.grown hG (row_type HL3.out) (by decide)); have HL4 := Lib.hid hL; clear hL hB hG hAt))
                      go_roundw
                      case rel => exact ⟨j + 1, by omega, by simp, HBD.out, HST4.out, HO4.out, by rw [HTK.out]; exact HL4.out⟩
                      case measure => simp [intOf]; omega
                    · have hno := Lib.hid (any_at S (fun p => decide ((tellOne X p).2 ≠ 0)) j hlt (by rw [HTO.out]; simpa using he))
                      go_wp2_with (first | refine wpList_store_row rfl 27 (.tmp 8) (.tmp 108) rfl _ _ rfl rfl _ _ HST3.out.r.1 zsize (by rw [KA.rowSize HST3.out.r.2, zrow]) zone ?_)
                      have hfin := HST3.out.r.row _ noKeys_len
                      refine bodyPost_ret (results_cell_row2 rfl _ _ _ _ _ _ _ rfl hfin.1 Tryd.underlying27 rfl (size_info _ _ hfin.2 s30)) rfl ?_
                      rw [hans.out, if_neg (by rw [hany]; decide), if_neg (by omega), if_pos hno.out]
                      exact ⟨_, rfl, Kd.R_nil _ _ _ _ _, below_setRow HST3.out.bel (by omega) _⟩
                  · obtain rfl : j = S.length := by omega
                    rw [List.take_length] at hbad hlr
                    have HST := Lib.hid hst; have HO := Lib.hid ho'; have HL := Lib.hid hlr
                    clear hst ho' hlr
                    go_wp2_with (first | refine wpList_load_row rfl 27 (.tmp 15) rfl _ rfl _ _ _ _ HO.out.1 Tryd.underlying27 rfl (size_info _ _ HO.out.2 s30) ?_ | refine wpList_store_row rfl 27 (.tmp 8) (.tmp 114) rfl _ _ rfl rfl _ _ HST.out.r.1 (size_info _ _ HO.out.2 s30) (by rw [KA.rowSize HST.out.r.2, KA.rowSize HO.out.2]) (one_string _) ?_)
                    have hfin := HST.out.r.row _ HO.out.2
                    refine bodyPost_ret (results_cell_row2 rfl _ _ _ _ _ _ _ rfl hfin.1 Tryd.underlying27 rfl (size_info _ _ hfin.2 s30)) rfl ?_
                    rw [hans.out, if_neg (by rw [hany]; decide), if_neg (by omega), if_neg (by rw [hbad]; decide)]
                    exact ⟨_, rfl, rowR_setRow HL.out HST.out.r.1 _, below_setRow HST.out.bel (by omega) _⟩
end Go.Proofs.YtkmpfmhbkflgpaaDoor.Pr

/- grown: its contract. -/
set_option linter.unusedVariables false
set_option linter.unusedSimpArgs false
namespace Go.Proofs.YtkmpfmhbkflgpaaDoor.Pr
open Go.RowKit Go.Proofs.YtkmpfmhbkflgpaaDoorW.PrintWords Go.Proofs.YtkmpfmhbkflgpaaDoorW.PrintLast Go.Proofs.YtkmpfmhbkflgpaaDoorW.PrintMore Go.Proofs.YtkmpfmhbkflgpaaDoor.TT

theorem rekeyF_len (was is : Int) (ks : List ByteArray) (first : Int) : (rekeyF was is ks first).1.length = 32 := by
  unfold rekeyF
  split
  · exact noKeys_len
  · split
    · exact noKeys_len
    · split
      · exact noKeys_len
      · exact newKeys_len _ _ _ _
theorem KA.setRow_other {T : TypeId} {w : World} {b : Nat} {ks : List ByteArray} (h : KA T w b ks) {g : Nat} (hne : b ≠ g) (cs : Array Value) : KA T (w.setRow g cs) b ks :=
  h.same (by simp only [World.setRow, Array.getElem?_modify]; rw [if_neg (fun e => hne e.symm)])
end Go.Proofs.YtkmpfmhbkflgpaaDoor.Pr

/- PathOwn: its walk. -/
set_option linter.unusedVariables false
set_option linter.unusedSimpArgs false
namespace Go.Proofs.YtkmpfmhbkflgpaaDoor.Pr
open Go.RowKit Go.Proofs.YtkmpfmhbkflgpaaDoorW.PrintWords Go.Proofs.YtkmpfmhbkflgpaaDoorW.PrintLast Go.Proofs.YtkmpfmhbkflgpaaDoorW.PrintMore Go.Proofs.YtkmpfmhbkflgpaaDoor.TT

theorem key_none (j : Nat) : key noKeys j = ByteArray.empty := by
  unfold key noKeys
  rw [List.getD_eq_getElem?_getD, List.getElem?_replicate]
  split <;> rfl
attribute [local go_sem] beq_self_eq_true   -- for this text's walk alone
end Go.Proofs.YtkmpfmhbkflgpaaDoor.Pr

/- The new keys, told and learned: plain maths. -/
set_option linter.unusedVariables false
set_option linter.unusedSimpArgs false
namespace Go.Proofs.YtkmpfmhbkflgpaaDoor.Pr
open Go.RowKit Go.Proofs.YtkmpfmhbkflgpaaDoorW.PrintWords Go.Proofs.YtkmpfmhbkflgpaaDoorW.PrintLast Go.Proofs.YtkmpfmhbkflgpaaDoorW.PrintMore Go.Proofs.YtkmpfmhbkflgpaaDoor.TT

/-! ### Terms -/
def nTm (a : Int) : Tm := .nonce (UInt8.ofNat (a / 256).toNat) (UInt8.ofNat (a % 256).toNat)
def lTm (n : Int) : Tm := .const [107, UInt8.ofNat (n % 256).toNat]
theorem nonce_str (a : Int) (h0 : 0 ≤ a) (h1 : a < 65536) : nonceN a = (nTm a).str := Option.some.inj (Ev03.nonce_spec a h0 h1)
theorem label_str (n : Int) : Ev03.labelOf n = (lTm n).str := by
  unfold Ev03.labelOf Ev03.constOf strOfNums
  rw [if_neg (by simp [ByteArray.size])]
  rfl
theorem nTm_ok (a : Int) : (nTm a).ok ∧ (nTm a).depth = 1 ∧ (nTm a).enc.length = 3 := by unfold nTm; exact ⟨by simp [Tm.ok], by simp [Tm.depth], by simp [Tm.enc]⟩
theorem lTm_ok (n : Int) : (lTm n).ok ∧ (lTm n).depth = 1 ∧ (lTm n).enc.length = 4 := by unfold lTm; exact ⟨by simp [Tm.ok], by simp [Tm.depth], by simp [Tm.enc]⟩
theorem ar_two {k : UInt8} (h : isTwo k = true) : ar k = 2 := by
  have := isTwo_ne h
  unfold ar
  rw [if_neg (by simp [this.1, this.2.1]), if_neg this.2.2, if_pos h]
theorem make_two {k : UInt8} (hk : isTwo k = true) {s t : Tm} (hs : s.ok) (ht : t.ok) (ds : s.depth ≤ 50) (dt : t.depth ≤ 50) (ls : s.enc.length ≤ 900) (lt : t.enc.length ≤ 900) :
    makeOf k [s.str, t.str] = ((Tm.two k s t).str, 0) := by
  have c1 := check_str hs (by omega) (by omega)
  have c2 := check_str ht (by omega) (by omega)
  have c3 : check (Tm.two k s t).str = 0 := check_str (by simp only [Tm.ok]; exact ⟨hk, hs, ht⟩) (by simp only [Tm.depth]; omega) (by simp only [Tm.enc, List.length_cons, List.length_append]; omega)
  have e : strOf (k :: (([s.str, t.str].map fun s => s.data.toList).flatten)) = (Tm.two k s t).str := by
    rw [← Ev03.two_str]; simp
  unfold makeOf
  rw [if_neg (by rw [ar_two hk]; simp)]
  have hf : [s.str, t.str].find? (fun s => decide (check s ≠ 0)) = none := by simp [c1, c2]
  rw [hf]
  simp only
  rw [e, if_pos c3]
/-- What is told. -/
def tTm (C : Int) (n : Int) (X : Int) : Tm := .two 115 (nTm C) (.two 112 (lTm n) (nTm X))
theorem tell_str (C n X : Int) (hC : 0 ≤ C ∧ C < 65536) (hX : 0 ≤ X ∧ X < 65536) : Ev03.tellOf (nonceN C) n (nonceN X) = ((tTm C n X).str, 0) := by
  obtain ⟨o1, d1, l1⟩ := nTm_ok C
  obtain ⟨o2, d2, l2⟩ := nTm_ok X
  obtain ⟨o3, d3, l3⟩ := lTm_ok n
  unfold Ev03.tellOf
  rw [nonce_str C hC.1 hC.2, nonce_str X hX.1 hX.2, label_str]
  rw [make_two (by decide) o3 o2 (by omega) (by omega) (by omega) (by omega)]
  rw [if_pos rfl]
  exact make_two (by decide) o1 (by simp only [Tm.ok]; exact ⟨by decide, o3, o2⟩) (by omega) (by simp only [Tm.depth]; omega) (by omega) (by simp only [Tm.enc, List.length_cons, List.length_append]; omega)
theorem tTm_ok (C n X : Int) : (tTm C n X).ok ∧ check (tTm C n X).str = 0 := by
  obtain ⟨o1, d1, l1⟩ := nTm_ok C
  obtain ⟨o2, d2, l2⟩ := nTm_ok X
  obtain ⟨o3, d3, l3⟩ := lTm_ok n
  have ho : (tTm C n X).ok := by unfold tTm; simp only [Tm.ok]; exact ⟨by decide, o1, by decide, o3, o2⟩
  exact ⟨ho, check_str ho (by unfold tTm; simp only [Tm.depth]; omega) (by unfold tTm; simp only [Tm.enc, List.length_cons, List.length_append]; omega)⟩
theorem nonce_check (a : Int) (h0 : 0 ≤ a) (h1 : a < 65536) : check (nonceN a) = 0 := by
  rw [nonce_str a h0 h1]
  obtain ⟨o, d, l⟩ := nTm_ok a
  exact check_str o (by omega) (by omega)
theorem str_inj {s t : Tm} (hs : s.ok) (ht : t.ok) (h : s.str = t.str) : s = t := enc_inj hs ht (strOf_inj h)
end Go.Proofs.YtkmpfmhbkflgpaaDoor.Pr

/- The new keys' numbers; who has which. -/
set_option linter.unusedVariables false
set_option linter.unusedSimpArgs false
namespace Go.Proofs.YtkmpfmhbkflgpaaDoor.Pr
open Go.RowKit Go.Proofs.YtkmpfmhbkflgpaaDoorW.PrintWords Go.Proofs.YtkmpfmhbkflgpaaDoorW.PrintLast Go.Proofs.YtkmpfmhbkflgpaaDoorW.PrintMore Go.Proofs.YtkmpfmhbkflgpaaDoor.TT

/-! ### Nodes -/
theorem mem_fresh {a b : Nat} {x : Int} : x ∈ freshI (a : Int) (b : Int) ↔ ∃ n : Nat, x = (n : Int) ∧ 1 ≤ n ∧ n ≤ 15 ∧ (a ^^^ b) &&& maskN n ≠ 0 ∧ b &&& maskN n ≠ 0 := by
  unfold freshI
  rw [List.mem_map]
  constructor
  · rintro ⟨n, hn, rfl⟩
    obtain ⟨q1, q2⟩ := List.mem_filter.1 hn
    obtain ⟨h1, h2⟩ := (mem_down n).1 q1
    unfold freshB at q2
    simp only [Int.toNat_natCast, Bool.and_eq_true, bne_iff_ne] at q2
    exact ⟨n, rfl, h1, h2, q2.1, q2.2⟩
  · rintro ⟨n, rfl, h1, h2, h3, h4⟩
    refine ⟨n, List.mem_filter.2 ⟨(mem_down n).2 ⟨h1, h2⟩, ?_⟩, rfl⟩
    unfold freshB
    simp only [Int.toNat_natCast, Bool.and_eq_true, bne_iff_ne]
    exact ⟨h3, h4⟩
theorem fresh_falls (a b : Int) : (freshI a b).Pairwise (· > ·) := by
  unfold freshI
  rw [List.pairwise_map]
  refine List.Pairwise.filter _ ?_
  show List.Pairwise (fun a b : Nat => (a : Int) > (b : Int)) downL
  decide
/-- Is anybody below a node? -/
def Any (s n : Nat) : Prop := belowI (s : Int) (n : Int) ≠ 0
theorem any_iff {s n : Nat} (h1 : 1 ≤ n) (hn : n ≤ 31) : Any s n ↔ s &&& maskN n ≠ 0 := by
  unfold Any
  rw [belowI_nat s n h1 hn]
  omega
theorem any_zero (n : Nat) : ¬ Any 0 n := by
  unfold Any belowI
  split
  · simp
  · simp
/-- A node that is not new, and has somebody below, had somebody below. -/
theorem any_old {a b n : Nat} (ha : a < 65536) (hb : b < 65536) (h1 : 1 ≤ n) (hn : n ≤ 15) (hA : Any b n) (hf : ¬ (n : Int) ∈ freshI (a : Int) (b : Int)) : Any a n := by
  rw [any_iff h1 (by omega)] at hA ⊢
  have hx : (a ^^^ b) &&& maskN n = 0 := by
    by_cases h : (a ^^^ b) &&& maskN n = 0
    · exact h
    · exact absurd (mem_fresh.2 ⟨n, rfl, h1, hn, h, hA⟩) hf
  have : a &&& maskN n = b &&& maskN n := by
    apply Nat.eq_of_testBit_eq
    intro i
    have h2 := congrArg (fun x => x.testBit i) hx
    simp only [Nat.testBit_and, Nat.testBit_xor, Nat.zero_testBit] at h2 ⊢
    revert h2
    cases a.testBit i <;> cases b.testBit i <;> cases (maskN n).testBit i <;> simp
  rw [this]; exact hA
/-! ### The new keys -/
theorem base_key (is : Int) (ks : List ByteArray) (n : Nat) (hn : n < 32) : ∀ j, j ≤ 31 → key (baseUp is ks j) n = if 1 ≤ n ∧ n ≤ j ∧ belowI is (n : Int) ≠ 0 then key ks n else ByteArray.empty := by
  intro j
  induction j with
  | zero => intro _; rw [if_neg (by omega)]; exact key_none n
  | succ j ih =>
    intro hj
    have ih := ih (by omega)
    rw [baseUp_succ]
    unfold baseOne
    by_cases hb : belowI is ((1 + j : Nat) : Int) = 0
    · rw [if_pos hb, ih]
      by_cases e : n = 1 + j
      · rw [if_neg (by omega), if_neg (by rw [e]; exact fun h => h.2.2 hb)]
      · by_cases hc : 1 ≤ n ∧ n ≤ j ∧ belowI is (n : Int) ≠ 0
        · rw [if_pos hc, if_pos ⟨hc.1, by omega, hc.2.2⟩]
        · rw [if_neg hc, if_neg (fun h => hc ⟨h.1, by omega, h.2.2⟩)]
    · rw [if_neg hb, key_set _ (baseUp_len _ _ _) _ (by omega)]
      by_cases e : n = 1 + j
      · rw [if_pos e, if_pos ⟨by omega, by omega, by rw [e]; exact hb⟩, e]
      · rw [if_neg e, ih]
        by_cases hc : 1 ≤ n ∧ n ≤ j ∧ belowI is (n : Int) ≠ 0
        · rw [if_pos hc, if_pos ⟨hc.1, by omega, hc.2.2⟩]
        · rw [if_neg hc, if_neg (fun h => hc ⟨h.1, by omega, h.2.2⟩)]
theorem freshUp_key (F : List Int) (hF : ∀ n ∈ F, 1 ≤ n ∧ n ≤ 15) (hnd : F.Nodup) (first : Int) (o : List ByteArray) (ho : o.length = 32) (n : Nat) (hn : n < 32) : ∀ j, j ≤ F.length → key (freshUp F first o j) n = if (n : Int) ∈ F.take j then nonceN (first + (F.idxOf (n : Int) : Int)) else key o n := by
  intro j
  induction j with
  | zero => intro _; rw [if_neg (by simp)]; rfl
  | succ j ih =>
    intro hj
    have hjl : j < F.length := by omega
    have hg : F.getD j 0 = F[j] := by simp [hjl]
    have hr := hF F[j] (List.getElem_mem hjl)
    rw [freshUp_succ, hg, key_set _ (freshUp_len _ _ _ ho _) _ (by omega), ih (by omega)]
    by_cases e : n = F[j].toNat
    · have e2 : (n : Int) = F[j] := by omega
      rw [if_pos e, if_pos (show (n : Int) ∈ F.take (j + 1) by rw [List.take_succ_eq_append_getElem hjl]; exact List.mem_append_right _ (List.mem_singleton.2 e2))]
      rw [e2, hnd.idxOf_getElem j hjl]
    · have e2 : ¬ (n : Int) = F[j] := by omega
      rw [if_neg e]
      have : (n : Int) ∈ F.take (j + 1) ↔ (n : Int) ∈ F.take j := by
        rw [List.take_succ_eq_append_getElem hjl, List.mem_append, List.mem_singleton]
        exact ⟨fun h => h.resolve_right e2, .inl⟩
      by_cases hm : (n : Int) ∈ F.take j
      · rw [if_pos hm, if_pos (this.2 hm)]
      · rw [if_neg hm, if_neg (fun h => hm (this.1 h))]
theorem fresh_nodup (a b : Int) : (freshI a b).Nodup := (fresh_falls a b).imp (fun h e => by omega)
theorem new_key (is : Int) (F : List Int) (hF : ∀ n ∈ F, 1 ≤ n ∧ n ≤ 15) (hnd : F.Nodup) (ks : List ByteArray) (first : Int) (n : Nat) (hn : n < 32) :
    key (newKeys is F ks first) n = if (n : Int) ∈ F then nonceN (first + (F.idxOf (n : Int) : Int)) else if 1 ≤ n ∧ belowI is (n : Int) ≠ 0 then key ks n else ByteArray.empty := by
  unfold newKeys
  rw [freshUp_key F hF hnd first _ (baseUp_len _ _ _) n hn F.length (Nat.le_refl _), List.take_length, base_key is ks n hn 31 (Nat.le_refl _)]
  split
  · rfl
  · by_cases hc : 1 ≤ n ∧ belowI is (n : Int) ≠ 0
    · rw [if_pos hc, if_pos ⟨hc.1, by omega, hc.2⟩]
    · rw [if_neg hc, if_neg (fun h => hc ⟨h.1, h.2.2⟩)]

/-- Keys that may be: each leaf's nonce, and a nonce at each node below which there is somebody. -/
structure Good (k : List ByteArray) (s : Nat) : Prop where
  len : k.length = 32
  leaf : ∀ n, 16 ≤ n → n < 32 → key k n = nonceN ((1000 + n : Nat) : Int)
  node : ∀ n, 1 ≤ n → n ≤ 15 → Any s n → ∃ a : Int, 0 ≤ a ∧ a < 65536 ∧ key k n = nonceN a
theorem leafUp_key (o : List ByteArray) (ho : o.length = 32) (n : Nat) (hn : n < 32) : ∀ j, j ≤ 16 → key (leafUp o j) n = if 16 ≤ n ∧ n < 16 + j then nonceN ((1000 + n : Nat) : Int) else key o n := by
  intro j
  induction j with
  | zero => intro _; rw [if_neg (by omega)]; rfl
  | succ j ih =>
    intro hj
    rw [leafUp_succ, key_set _ (leafUp_len _ ho _) _ (by omega), ih (by omega)]
    by_cases e : n = 16 + j
    · rw [if_pos e, if_pos (by omega), show 1000 + n = 1016 + j by omega]
    · rw [if_neg e]
      by_cases hc : 16 ≤ n ∧ n < 16 + j
      · rw [if_pos hc, if_pos (by omega)]
      · rw [if_neg hc, if_neg (by omega)]
theorem good_leaves : Good leavesL 0 :=
  ⟨leaves_len, fun n h1 h2 => by unfold leavesL; rw [leafUp_key _ noKeys_len n h2 16 (Nat.le_refl _), if_pos (by omega)], fun n _ _ h => absurd h (any_zero n)⟩
end Go.Proofs.YtkmpfmhbkflgpaaDoor.Pr

/- Who is a member learns the keys on its way. -/
set_option linter.unusedVariables false
set_option linter.unusedSimpArgs false
namespace Go.Proofs.YtkmpfmhbkflgpaaDoor.Pr
open Go.RowKit Go.Proofs.YtkmpfmhbkflgpaaDoorW.PrintWords Go.Proofs.YtkmpfmhbkflgpaaDoorW.PrintLast Go.Proofs.YtkmpfmhbkflgpaaDoorW.PrintMore Go.Proofs.YtkmpfmhbkflgpaaDoor.TT

section
variable {k : List ByteArray} {was is : Nat} {first : Int}
/-- All that is needed has a key. -/
theorem new_nonce (hg : Good k was) (hw : was < 65536) (hi : is < 65536) (h0 : 0 ≤ first) (hf : first + 15 ≤ 65535) (n : Nat) (h1 : 1 ≤ n) (hn : n < 32) (hA : Any is n) :
    ∃ a : Int, 0 ≤ a ∧ a < 65536 ∧ key (newKeys (is : Int) (freshI (was : Int) (is : Int)) k first) n = nonceN a := by
  rw [new_key _ _ (fresh_range _ _) (fresh_nodup _ _) k first n hn]
  by_cases hm : (n : Int) ∈ freshI (was : Int) (is : Int)
  · rw [if_pos hm]
    have h2 := List.idxOf_lt_length_of_mem hm
    have h3 := fresh_len (was : Int) (is : Int)
    exact ⟨_, by omega, by omega, rfl⟩
  · rw [if_neg hm, if_pos ⟨h1, hA⟩]
    by_cases h16 : 16 ≤ n
    · exact ⟨_, by omega, by omega, hg.leaf n h16 hn⟩
    · exact hg.node n h1 (by omega) (any_old hw hi h1 (by omega) hA hm)
/-- One step's parts. -/
structure Step15 (x : List ByteArray) (is : Nat) (F : List Int) (p : Int × Int) (n c : Nat) (C X : Int) : Prop where
  eq : p = ((n : Int), (c : Int))
  n1 : 1 ≤ n
  n2 : n ≤ 15
  kid : c = 2 * n ∨ c = 2 * n + 1
  mem : (n : Int) ∈ F
  any : Any is c
  C0 : 0 ≤ C ∧ C < 65536
  X0 : 0 ≤ X ∧ X < 65536
  kc : key x c = nonceN C
  kn : key x n = nonceN X
  told : tellOne x p = ((tTm C (n : Int) X).str, 0)
theorem step_ok (hg : Good k was) (hw : was < 65536) (hi : is < 65536) (h0 : 0 ≤ first) (hf : first + 15 ≤ 65535) (p : Int × Int) (hp : p ∈ pairsL (is : Int) (freshI (was : Int) (is : Int))) :
    ∃ n c C X, Step15 (newKeys (is : Int) (freshI (was : Int) (is : Int)) k first) is (freshI (was : Int) (is : Int)) p n c C X := by
  obtain ⟨q1, q2, q3, q4, q5, q6, q7⟩ := pair_range (is : Int) _ (fresh_range (was : Int) (is : Int)) p hp
  obtain ⟨pn, pc⟩ := p
  dsimp only at *
  obtain ⟨n, rfl⟩ : ∃ n : Nat, pn = (n : Int) := ⟨pn.toNat, by omega⟩
  obtain ⟨c, rfl⟩ : ∃ c : Nat, pc = (c : Int) := ⟨pc.toNat, by omega⟩
  obtain ⟨C, C0, C1, kc⟩ := new_nonce hg hw hi h0 hf c (by omega) (by omega) q7
  have hAn : Any is n := by
    obtain ⟨m, e, _, _, _, h4⟩ := mem_fresh.1 q6
    obtain rfl : n = m := by omega
    exact (any_iff (by omega) (by omega)).2 h4
  obtain ⟨X, X0, X1, kn⟩ := new_nonce hg hw hi h0 hf n (by omega) (by omega) hAn
  refine ⟨n, c, C, X, rfl, by omega, by omega, by omega, q6, q7, ⟨C0, C1⟩, ⟨X0, X1⟩, kc, kn, ?_⟩
  unfold tellOne
  simp only [Int.toNat_natCast]
  rw [kc, kn]
  exact tell_str C n X ⟨C0, C1⟩ ⟨X0, X1⟩
/-- With keys that may be nothing is refused. -/
theorem rekey_good (hg : Good k was) (hw : was < 65536) (hi : is < 65536) (h0 : 0 ≤ first) (hf : first + 15 ≤ 65535) :
    rekeyF (was : Int) (is : Int) k first = (newKeys (is : Int) (freshI (was : Int) (is : Int)) k first, (pairsL (is : Int) (freshI (was : Int) (is : Int))).map (fun p => (tellOne (newKeys (is : Int) (freshI (was : Int) (is : Int)) k first) p).1), 0) := by
  unfold rekeyF
  have hfl := fresh_len (was : Int) (is : Int)
  rw [if_neg, if_neg (by omega), if_neg]
  · rw [List.any_eq_true]
    rintro ⟨p, hp, hb⟩
    obtain ⟨n, c, C, X, st⟩ := step_ok hg hw hi h0 hf p hp
    rw [st.told] at hb
    simp at hb
  · rw [List.any_eq_true]
    rintro ⟨p, hp, hb⟩
    obtain ⟨n, c, C, X, st⟩ := step_ok hg hw hi h0 hf p hp
    have hc := st.kc
    have hk := st.kid
    have h2 := st.n2
    have h1 := st.n1
    rw [st.eq] at hb
    unfold lackOne at hb
    simp only [Int.toNat_natCast, Bool.and_eq_true, Bool.not_eq_true', decide_eq_true_eq] at hb
    have hm : ¬ (c : Int) ∈ freshI (was : Int) (is : Int) := by
      intro h
      rw [← List.contains_iff_mem] at h
      rw [h] at hb
      exact absurd hb.1 (by decide)
    rw [new_key _ _ (fresh_range _ _) (fresh_nodup _ _) k first c (by omega), if_neg hm, if_pos ⟨by omega, st.any⟩] at hc
    rw [hc] at hb
    exact hb.2 (nonce_check C st.C0.1 st.C0.2)
theorem good_next (hg : Good k was) (hw : was < 65536) (hi : is < 65536) (h0 : 0 ≤ first) (hf : first + 15 ≤ 65535) : Good (leafUp (newKeys (is : Int) (freshI (was : Int) (is : Int)) k first) 16) is :=
  ⟨leafUp_len _ (newKeys_len _ _ _ _) 16, fun n h1 h2 => by rw [leafUp_key _ (newKeys_len _ _ _ _) n h2 16 (Nat.le_refl _), if_pos (by omega)],
    fun n h1 h2 hA => by rw [leafUp_key _ (newKeys_len _ _ _ _) n (by omega) 16 (Nat.le_refl _), if_neg (by omega)]; exact new_nonce hg hw hi h0 hf n h1 (by omega) hA⟩

/-! ### Learning -/
end
end Go.Proofs.YtkmpfmhbkflgpaaDoor.Pr

/- chantrytop's grown: its contract. -/
set_option linter.unusedVariables false
set_option linter.unusedSimpArgs false
namespace Go.Proofs.YtkmpfmhbkflgpaaDoor.Pr
open Go.RowKit Go.Proofs.YtkmpfmhbkflgpaaDoorW.PrintWords Go.Proofs.YtkmpfmhbkflgpaaDoorW.PrintLast Go.Proofs.YtkmpfmhbkflgpaaDoorW.PrintMore Go.Proofs.YtkmpfmhbkflgpaaDoor.TT

def grownF (m : Int) : List ByteArray × Bool := (leafUp (rekeyF 0 m leavesL 2000).1 16, decide ((rekeyF 0 m leavesL 2000).2.2 = 0))
theorem results_cell_row1 {P : Program} {fn : Func} {p u : Tmp} {ty : TypeId} (h : fn.results = #[.cell p ty, .tmp u]) (tmps : Array Value) (w : World) (g : Nat) (t : TypeId) (cs : Array Value) (fr : Nat × Nat) (d : TypeDesc)
    (hp : tmps.getD p undef = .pointer (some ⟨g, 0, none⟩)) (hg : w.heap[g]? = some (.cells cs t fr))
    (hu : P.underlying ty = some d) (hd : (match d with | .struct _ | .array _ _ => true | _ => false) = true) (hi : (P.info? ty).map (·.size) = some cs.size) :
    (results fn tmps).run P w = .ok (.tuple #[.agg cs, tmps.getD u undef]) w := by
  rw [results_cell_tmp h, hp]
  simp [asAddr, run_loadVar_row w g t ty cs fr d hg hu hd hi, Result.andThen]
set_option maxHeartbeats 4000000 in
set_option maxRecDepth 100000 in
theorem grown_any (m : Nat) (hm : m < 65536) (w : World) (HT0 : TabAt w) :
    Calls Tryd.prog 5 #[.int .u16 (m : Int)] w fun e w' => e = .returned (.tuple #[KV (grownF m).1, .bool (grownF m).2]) ∧ RowKit.Below w.heap.size w w' := by
  have hz := zero30
  have hcz := cellsZ
  have hrk := fun w => rekey_any leavesL leaves_len 0 m (by decide) hm 2000 (by decide) w
  have hlen := rekeyF_len 0 m leavesL 2000
  have hg : grownF (m : Int) = (leafUp (rekeyF 0 m leavesL 2000).1 16, decide ((rekeyF 0 m leavesL 2000).2.2 = 0)) := rfl
  obtain ⟨X, hX⟩ : ∃ X, X = rekeyF 0 (m : Int) leavesL 2000 := ⟨_, rfl⟩
  simp only [show ((0 : Nat) : Int) = 0 from rfl, show ((2000 : Nat) : Int) = 2000 from rfl, ← hX] at hrk hlen hg
  rw [hg]
  clear hg hX
  obtain ⟨x, l, er⟩ := X
  simp only at hrk hlen
  go_enter Tryd.func5, Tryd.ntmps5
  have HR := Lib.hid (KA.new 27 w noKeys noKeys_len Z32 rfl)
  have HB := Lib.hid ((RowKit.Below.refl w.heap.size w).alloc (Nat.le_refl _) (.cells Z32 27))
  go_wp2_with fail
  generalize w.alloc (.cells Z32 27) = W at HR HB ⊢
  refine (leaves_any W).mono ?_
  rintro e w2 ⟨rfl, hb⟩
  have HR2 := Lib.hid (HR.out.after hb)
  have HB2 := Lib.hid (HB.out.trans (hb.mono HB.out.size))
  clear hb HR HB
  go_wp2_with fail
  refine (hrk w2 (TabAt.below HT0 (Nat.le_refl _) HB2.out)).mono ?_
  rintro e w3 ⟨v, rfl, hr, hb⟩
  have HR3 := Lib.hid (HR2.out.after hb)
  have HB3 := Lib.hid (HB2.out.trans (hb.mono HB2.out.size))
  clear hb HR2 HB2 hr hrk
  have HR4 := Lib.hid (HR3.out.alloc (.cells Z32 27))
  have HB4 := Lib.hid (HB3.out.alloc HB3.out.size (.cells Z32 27))
  have HO4 := Lib.hid (KA.new 27 w3 noKeys noKeys_len Z32 rfl)
  have hlo : w.heap.size < w3.heap.size := HR3.out.lt
  go_wp2_with (first | (refine wpList_store_row rfl 27 (.tmp 4) (.tmp 13) rfl _ _ rfl rfl _ _ HO4.out.1 (size_info _ x hlen s30) (by rw [KA.rowSize HO4.out.2, KA.rowSize hlen]) (one_string _) ?_; have HR := Lib.hid (HR4.out.setRow_other (show w.heap.size ≠ w3.heap.size by omega) (x.map Value.string).toArray); have HO := Lib.hid (HO4.out.row x hlen); have HB := Lib.hid (below_setRow HB4.out (show w.heap.size ≤ w3.heap.size by omega) (x.map Value.string).toArray); clear HR3 HB3 HR4 HB4 HO4; generalize (w3.alloc (.cells Z32 27)).setRow w3.heap.size (x.map Value.string).toArray = W4 at HR HO HB ⊢; generalize w3.heap.size = o at hlo HO ⊢))
  refine (leaves_any W4).mono ?_
  rintro e w5 ⟨rfl, hb⟩
  have HR5 := Lib.hid (HR.out.after hb); have HO5 := Lib.hid (HO.out.after hb)
  have HB5 := Lib.hid (HB.out.trans (hb.mono HB.out.size))
  clear hb HR HO HB
  have hol : o < w5.heap.size := HO5.out.lt
  have HR6 := Lib.hid (HR5.out.alloc (.cells Z32 27)); have HO6 := Lib.hid (HO5.out.alloc (.cells Z32 27))
  have HB6 := Lib.hid (HB5.out.alloc HB5.out.size (.cells Z32 27))
  have HL6 := Lib.hid (KA.new 27 w5 noKeys noKeys_len Z32 rfl)
  go_wp2_with (first | (refine wpList_store_row rfl 27 (.tmp 7) (.tmp 16) rfl _ _ rfl rfl _ _ HL6.out.1 (size_info _ leavesL leaves_len s30) (by rw [KA.rowSize HL6.out.2, KA.rowSize leaves_len]) (one_string _) ?_; have HR := Lib.hid (HR6.out.setRow_other (show w.heap.size ≠ w5.heap.size by omega) (leavesL.map Value.string).toArray); have HO := Lib.hid (HO6.out.setRow_other (show o ≠ w5.heap.size by omega) (leavesL.map Value.string).toArray); have HL := Lib.hid (HL6.out.row leavesL leaves_len); have HB := Lib.hid (below_setRow HB6.out (show w.heap.size ≤ w5.heap.size by omega) (leavesL.map Value.string).toArray); clear HR5 HO5 HB5 HR6 HO6 HB6 HL6; generalize (w5.alloc (.cells Z32 27)).setRow w5.heap.size (leavesL.map Value.string).toArray = W6 at HR HO HB HL ⊢; generalize w5.heap.size = lb at hol HL ⊢))
  clear hz hcz
  go_loopw [8] (fun i wr => ∃ j : Nat, j ≤ 16 ∧ i = .int .i64 ((16 + j : Nat) : Int) ∧ RowKit.Below w.heap.size w wr ∧ KA 27 wr w.heap.size noKeys ∧ KA 27 wr lb leavesL ∧ KA 27 wr o (leafUp x j)) (fun i _ => 32 - (intOf i).toNat)
  case atStart => exact ⟨0, Nat.zero_le _, rfl, HB.out, HR.out, HL.out, HO.out⟩
  case round =>
    clear HB HR HL HO
    obtain ⟨j, hj, rfl, hbel, hr, hl, ho⟩ := hrel
    have HB := Lib.hid hbel; have HR := Lib.hid hr; have HO := Lib.hid ho; have HL := Lib.hid hl
    clear hbel hr ho hl
    by_cases hlt : j < 16
    · have htk := Lib.hid (leafUp_succ x j)
      have hfo := HO.out.frozen (16 + j)
      have hco := HO.out.cell (j := 16 + j) (by omega)
      have hcl := HL.out.cell (j := 16 + j) (by omega)
      rw [good_leaves.leaf (16 + j) (by omega) (by omega), show 1000 + (16 + j) = 1016 + j by omega] at hcl
      go_wp2_with fail
      go_roundw
      case rel =>
        refine ⟨j + 1, by omega, by simp; omega, HB.out.setCell (p := ⟨o, 16 + j, none⟩) (show w.heap.size ≤ o by omega) _, HR.out.other _ _ (show w.heap.size ≠ o by omega), HL.out.other _ _ (show lb ≠ o by omega), ?_⟩
        rw [htk.out]; exact HO.out.set (16 + j) _
      case measure => simp [intOf]; omega
    · obtain rfl : j = 16 := by omega
      go_wp2_with (first | refine wpList_load_row rfl 27 (.tmp 4) rfl _ rfl _ _ _ _ HO.out.1 Tryd.underlying27 rfl (size_info _ _ HO.out.2 s30) ?_ | refine wpList_store_row rfl 27 (.tmp 2) (.tmp 26) rfl _ _ rfl rfl _ _ HR.out.1 (size_info _ _ HO.out.2 s30) (by rw [KA.rowSize HR.out.2, KA.rowSize HO.out.2]) (one_string _) ?_)
      have hfin := HR.out.row _ HO.out.2
      refine bodyPost_ret (results_cell_row1 rfl _ _ _ _ _ _ _ rfl hfin.1 Tryd.underlying27 rfl (size_info _ _ hfin.2 s30)) rfl ?_
      exact ⟨rfl, below_setRow HB.out (by omega) _⟩
theorem grown_good (m : Nat) (hm : m < 65536) : (grownF (m : Int)).2 = true ∧ Good (grownF (m : Int)).1 m := by
  have h := rekey_good (first := 2000) good_leaves (by decide) hm (by decide) (by decide)
  have h2 := good_next (first := 2000) good_leaves (by decide) hm (by decide) (by decide)
  rw [show ((0 : Nat) : Int) = 0 from rfl] at h h2
  unfold grownF
  rw [h]
  dsimp only
  exact ⟨decide_eq_true rfl, h2⟩
end Go.Proofs.YtkmpfmhbkflgpaaDoor.Pr
