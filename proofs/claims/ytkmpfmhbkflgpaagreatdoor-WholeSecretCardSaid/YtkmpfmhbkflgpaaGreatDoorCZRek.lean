import Derived.Test.YtkmpfmhbkflgpaaGreatDoorCZIdx
import Derived.Deep.RegionHeld3
import Derived.Test.YtkmpfmhbkflgpaaGreatDoorCPrxK
import Derived.ChangeKeysEq
import Derived.Laws.StructEq
/- path.Rekey: its contract. -/
set_option linter.unusedVariables false
set_option linter.unusedSimpArgs false
namespace Go.Proofs.YtkmpfmhbkflgpaaGreatDoor.Pr
open Go.RowKit Go.Proofs.YtkmpfmhbkflgpaaGreatDoorW.PrintWords Go.Proofs.YtkmpfmhbkflgpaaGreatDoorW.PrintLast Go.Proofs.YtkmpfmhbkflgpaaGreatDoorW.PrintMore Go.Proofs.YtkmpfmhbkflgpaaGreatDoor.TT

/-- The way of Rekey's answers. -/
def RekeyPost (x : List ByteArray) (l : List ByteArray) (err : Int) (w : World) (e : Ending) (w' : World) : Prop :=
  ∃ v, e = .returned (.tuple #[KV x, v, .int .i64 err]) ∧ Kd.R Kd.string 26 w' w.heap.size (fun _ => True) v l ∧ RowKit.Below w.heap.size w w'
theorem results_cell_row1 {P : Program} {fn : Func} {p u : Tmp} {ty : TypeId} (h : fn.results = #[.cell p ty, .tmp u]) (tmps : Array Value) (w : World) (g : Nat) (t : TypeId) (cs : Array Value) (fr : Nat × Nat) (d : TypeDesc)
    (hp : tmps.getD p undef = .pointer (some ⟨g, 0, none⟩)) (hg : w.heap[g]? = some (.cells cs t fr))
    (hu : P.underlying ty = some d) (hd : (match d with | .struct _ | .array _ _ => true | _ => false) = true) (hi : (P.info? ty).map (·.size) = some cs.size) :
    (results fn tmps).run P w = .ok (.tuple #[.agg cs, tmps.getD u undef]) w := by
  rw [results_cell_tmp h, hp]
  simp [asAddr, run_loadVar_row w g t ty cs fr d hg hu hd hi, Result.andThen]
theorem results_cell_row2 {P : Program} {fn : Func} {p u u2 : Tmp} {ty : TypeId} (h : fn.results = #[.cell p ty, .tmp u, .tmp u2]) (tmps : Array Value) (w : World) (g : Nat) (t : TypeId) (cs : Array Value) (fr : Nat × Nat) (d : TypeDesc)
    (hp : tmps.getD p undef = .pointer (some ⟨g, 0, none⟩)) (hg : w.heap[g]? = some (.cells cs t fr))
    (hu : P.underlying ty = some d) (hd : (match d with | .struct _ | .array _ _ => true | _ => false) = true) (hi : (P.info? ty).map (·.size) = some cs.size) :
    (results fn tmps).run P w = .ok (.tuple #[.agg cs, tmps.getD u undef, tmps.getD u2 undef]) w := by
  have hp' : tmps[p]?.getD undef = .pointer (some ⟨g, 0, none⟩) := by simpa using hp
  simp [results, h, hp', asAddr, run_loadVar_row w g t ty cs fr d hg hu hd hi]
/-- What is read of the steps. -/
theorem read_step {w : World} {base : Nat} {ok : Nat → Prop} {A : Option Addr} {c : Nat} {S : List (Int × Int)} (h : Kd.R k69 69 w base ok (.slice A (S.map m38).length c) (S.map m38)) (j : Nat) (hj : j < S.length) :
    ∃ ad : Addr, A = some ad ∧ w.cell? (ad.add (j * 2)) = some (.int .i64 S[j].1) ∧ w.cell? ⟨(ad.add (j * 2)).block, (ad.add (j * 2)).off + 1, none⟩ = some (.int .i64 S[j].2) := by
  obtain ⟨ad, e, h0, h1⟩ := at_T69 (Kd.R_reads' h).2.2 (j : Int) (by omega) (by rw [List.length_map]; omega)
  have hr : rd_T69 (S.map m38) (j : Int) = m38 S[j] := by unfold rd_T69; simp [hj]
  rw [hr, Int.toNat_natCast] at h0 h1
  exact ⟨ad, e, h0, h1⟩
theorem any_take {α : Type} (S : List α) (f : α → Bool) (j : Nat) (hj : j < S.length) (h : (S.take j).any f = false) (hf : f S[j] = false) : (S.take (j + 1)).any f = false := by
  rw [List.take_succ_eq_append_getElem hj, List.any_append, h, List.any_cons, hf]; rfl
theorem any_at {α : Type} (S : List α) (f : α → Bool) (j : Nat) (hj : j < S.length) (hf : f S[j] = true) : S.any f = true := List.any_eq_true.2 ⟨S[j], List.getElem_mem hj, hf⟩
/-- What stays in Rekey's world: the box of the keys, the result's cell, the new keys' numbers and the steps. -/
structure RK (w0 : World) (ks : List ByteArray) (F : List Int) (S : List (Int × Int)) (Af : Option Addr) (cf : Nat) (As : Option Addr) (cs : Nat) (w : World) : Prop where
  bel : RowKit.Below w0.heap.size w0 w
  k : KA 28 w w0.heap.size ks
  r : KA 28 w (w0.heap.size + 1) noKeys
  f : Kd.R (Kd.int .i64) 3 w w0.heap.size (fun _ => True) (.slice Af F.length cf) F
  s : Kd.R k69 69 w w0.heap.size (fun _ => True) (.slice As (S.map m38).length cs) (S.map m38)
theorem RK.after {w0 : World} {ks : List ByteArray} {F : List Int} {S : List (Int × Int)} {Af : Option Addr} {cf : Nat} {As : Option Addr} {cs : Nat} {w w' : World} (h : RK w0 ks F S Af cf As cs w) (hb : RowKit.Below w.heap.size w w') : RK w0 ks F S Af cf As cs w' :=
  ⟨h.bel.trans (hb.mono h.bel.size), h.k.after hb, h.r.after hb, Kd.R_below h.f hb, Kd.R_below h.s hb⟩
theorem RK.alloc {w0 : World} {ks : List ByteArray} {F : List Int} {S : List (Int × Int)} {Af : Option Addr} {cf : Nat} {As : Option Addr} {cs : Nat} {w : World} (h : RK w0 ks F S Af cf As cs w) (o : Obj) : RK w0 ks F S Af cf As cs (w.alloc o) := h.after ((RowKit.Below.refl _ _).alloc (Nat.le_refl _) o)
theorem RK.drew {w0 : World} {ks : List ByteArray} {F : List Int} {S : List (Int × Int)} {Af : Option Addr} {cf : Nat} {As : Option Addr} {cs : Nat} {w : World} (h : RK w0 ks F S Af cf As cs w) : RK w0 ks F S Af cf As cs w.drew := h.after ((RowKit.Below.refl _ _).drew)
/-- A new key is stored. -/
theorem RK.set {w0 : World} {ks : List ByteArray} {F : List Int} {S : List (Int × Int)} {Af : Option Addr} {cf : Nat} {As : Option Addr} {cs : Nat} {w : World} (h : RK w0 ks F S Af cf As cs w) {o : Nat} {x : List ByteArray} (hx : KA 28 w o x) (ho : w0.heap.size + 1 < o) (j : Nat) (v : Value) : RK w0 ks F S Af cf As cs (w.setCell ⟨o, j, none⟩ v) :=
  ⟨h.bel.setCell (p := ⟨o, j, none⟩) (show w0.heap.size ≤ o by omega) v, h.k.other _ _ (show w0.heap.size ≠ o by omega), h.r.other _ _ (show w0.heap.size + 1 ≠ o by omega),
    Kd.R_mono (Kd.R_set h.f hx.1 (by decide) j v) (fun _ _ => trivial), Kd.R_mono (Kd.R_set h.s hx.1 (by decide) j v) (fun _ _ => trivial)⟩
theorem zsize : (Tryz.prog.info? 28).map (·.size) = some Z32.size := size_info _ _ noKeys_len s30
theorem zone : Z32.all (·.oneCell') = true := one_string noKeys
theorem zrow : Z32.size = 32 := KA.rowSize noKeys_len
/-- A row of texts grows. -/
theorem KA.grown {T : TypeId} {w w1 : World} {b : Nat} {ks : List ByteArray} {row : Option Nat} (h : KA T w b ks) (hg : w.grownBy w1 row) (hrow : ∀ k, row = some k → ∃ cells, w.heap[k]? = some (.cells cells 26 (0, 0))) (hT : T ≠ 26) : KA T w1 b ks :=
  h.same (hg.block b h.lt (fun e => by
    obtain ⟨c, hc⟩ := hrow b e.symm
    rw [h.1] at hc
    injection hc with hc
    injection hc with _ hc
    exact hT hc))
theorem RK.grown {w0 : World} {ks : List ByteArray} {F : List Int} {S : List (Int × Int)} {Af : Option Addr} {cf : Nat} {As : Option Addr} {cs : Nat} {w w1 : World} {row : Option Nat} (h : RK w0 ks F S Af cf As cs w) (hg : w.grownBy w1 row) (hb : RowKit.Below w0.heap.size w0 w1) (hrow : ∀ k, row = some k → ∃ cells, w.heap[k]? = some (.cells cells 26 (0, 0))) : RK w0 ks F S Af cf As cs w1 :=
  ⟨hb, h.k.grown hg hrow (by decide), h.r.grown hg hrow (by decide),
    Kd.R_grown2 h.f rfl hg (fun k hk => by obtain ⟨c, hc⟩ := hrow k hk; exact Kd.R_ne h.f hc (by decide)),
    Kd.R_grown2 h.s rfl hg (fun k hk => by obtain ⟨c, hc⟩ := hrow k hk; exact Kd.R_ne h.s hc (by decide))⟩
theorem row_type {w : World} {base : Nat} {ok : Nat → Prop} {v : Value} {xs : List ByteArray} (h : Kd.R Kd.string 26 w base ok v xs) : ∀ k, v.ownBlock = some k → ∃ cells, w.heap[k]? = some (.cells cells 26 (0, 0)) := by
  intro k hk
  obtain ⟨_, _, _, q, hq, c, hc⟩ := (Kd.R_bound h).1 k hk
  have : q = 26 := by simpa [Kd.string, Kd.scalar] using hq
  exact ⟨c, this ▸ hc⟩
theorem rowR_setRow {w : World} {base g : Nat} {ok : Nat → Prop} {v : Value} {xs : List ByteArray} {c : Array Value} (h : Kd.R Kd.string 26 w base ok v xs) (hg : w.heap[g]? = some (.cells c 28 (0, 0))) (cs : Array Value) : Kd.R Kd.string 26 (w.setRow g cs) base (fun _ => True) v xs :=
  Kd.R_mono (Kd.R_step (Kd.R_types h hg (by decide)) (fun k hk _ => by simp only [World.setRow, Array.getElem?_modify]; rw [if_neg (fun e => hk.2 e.symm)])) (fun _ _ => trivial)
/-- A block that was there is there. -/
theorem cell_kept {w w' : World} {b : Nat} {cs : Array Value} {T : TypeId} (h : w.heap[b]? = some (.cells cs T (0, 0))) (hb : RowKit.Below w.heap.size w w') : w'.heap[b]? = some (.cells cs T (0, 0)) := (hb.block b (Array.getElem?_eq_some_iff.1 h).1).trans h
set_option maxHeartbeats 4000000 in
set_option maxRecDepth 100000 in
theorem rekey_any (ks : List ByteArray) (hl : ks.length = 32) (was is : Nat) (hwas : was < 65536) (his : is < 65536) (first : Nat) (hfi : first < 65536) (w : World) (HT0 : TabAt w) :
    Calls Tryz.prog 6 #[.int .u16 (was : Int), .int .u16 (is : Int), KV ks, .int .u16 (first : Int)] w (RekeyPost (rekeyF was is ks first).1 (rekeyF was is ks first).2.1 (rekeyF was is ks first).2.2 w) := by
  have hca := cells_agg ks
  have hz := zero30
  have hcz := cellsZ
  have hfc := fresh_calls was is hwas his
  have hsc := steps_calls was is hwas his
  have hpr := Lib.hid (pair_range (is : Int) (freshI (was : Int) (is : Int)) (fresh_range _ _))
  have hfr := Lib.hid (fresh_range (was : Int) (is : Int))
  have hfl := fresh_len (was : Int) (is : Int)
  have hpl := pairs_len (is : Int) (freshI (was : Int) (is : Int))
  obtain ⟨F, hF⟩ : ∃ F, F = freshI (was : Int) (is : Int) := ⟨_, rfl⟩
  obtain ⟨S, hS⟩ : ∃ S, S = pairsL (is : Int) F := ⟨_, rfl⟩
  have hans := Lib.hid (show rekeyF was is ks first = if S.any (lackOne F ks) then (noKeys, [], 12) else if 65535 < (first : Int) + F.length then (noKeys, [], 7) else if S.any (fun p => decide ((tellOne (newKeys is F ks first) p).2 ≠ 0)) then (noKeys, [], 3) else (newKeys is F ks first, S.map (fun p => (tellOne (newKeys is F ks first) p).1), 0) by rw [hS, hF]; rfl)
  rw [← hF, ← hS] at hpr
  rw [← hF] at hfr hfl
  rw [← hF, ← hS] at hpl
  simp only [← hF] at hfc hsc
  simp only [← hS] at hsc
  clear hF hS
  unfold KV
  go_enter Tryz.func6, Tryz.ntmps6
  have HK := Lib.hid (show KA 28 ((w.alloc (.cells (ks.map Value.string).toArray 28)).alloc (.cells Z32 28)) w.heap.size ks from (KA.new _ w ks hl _ rfl).alloc _)
  have HR := Lib.hid (show KA 28 ((w.alloc (.cells (ks.map Value.string).toArray 28)).alloc (.cells Z32 28)) (w.heap.size + 1) noKeys from by
    have := KA.new 28 (w.alloc (.cells (ks.map Value.string).toArray 28)) noKeys noKeys_len Z32 rfl
    simpa using this)
  have HB := Lib.hid (((RowKit.Below.refl w.heap.size w).alloc (Nat.le_refl _) (.cells (ks.map Value.string).toArray 28)).alloc (by simp) (.cells Z32 28))
  go_wp2_with fail
  generalize (w.alloc (.cells (ks.map Value.string).toArray 28)).alloc (.cells Z32 28) = W at HK HR HB ⊢
  refine (hfc W (TabAt.below HT0 (Nat.le_refl _) HB.out)).mono ?_
  rintro e w2 ⟨v1, rfl, hr1, hb1⟩
  have HK2 := Lib.hid (HK.out.after hb1); have HR2 := Lib.hid (HR.out.after hb1)
  have HB2 := Lib.hid (HB.out.trans (hb1.mono HB.out.size))
  have HF2 := Lib.hid (Kd.R_lower hr1 HB.out.size)
  have hge : w.heap.size + 2 ≤ W.heap.size := by have := HR.out.lt; omega
  have HG1 := Lib.hid hr1
  clear hb1 hr1 hfc HK HR
  go_wp2_with fail
  refine (hsc w2 (TabAt.below HT0 (Nat.le_refl _) HB2.out)).mono ?_
  rintro e w3 ⟨v2, rfl, hr2, hb2⟩
  have HK3 := Lib.hid (HK2.out.after hb2); have HR3 := Lib.hid (HR2.out.after hb2)
  have HB3 := Lib.hid (HB2.out.trans (hb2.mono HB2.out.size))
  have HF3 := Lib.hid (Kd.R_below HF2.out hb2)
  have HS3 := Lib.hid (Kd.R_lower hr2 HB2.out.size)
  clear hb2 hr2 hsc HK2 HR2 HF2 HB2 HB HG1
  obtain ⟨Af, cf, ef⟩ := Kd.R_slice HF3.out
  obtain ⟨As, cs, es⟩ := Kd.R_slice HS3.out
  subst ef; subst es
  go_wp2_with fail
  have HST := Lib.hid (show RK w ks F S Af cf As cs w3 from ⟨HB3.out, HK3.out, HR3.out, HF3.out, HS3.out⟩)
  clear HB3 HK3 HR3 HF3 HS3
  have hlm : (S.map m38).length = S.length := List.length_map _
  go_loopw [32] (fun i wr => ∃ j : Nat, j ≤ S.length ∧ i = .int .i64 j ∧ (S.take j).any (lackOne F ks) = false ∧ RK w ks F S Af cf As cs wr) (fun i _ => S.length - (intOf i).toNat)
  case atStart => exact ⟨0, Nat.zero_le _, rfl, rfl, HST.out⟩
  case round =>
    clear HST
    obtain ⟨j, hj, rfl, hany, hst⟩ := hrel
    by_cases hlt : j < S.length
    · obtain ⟨ad, e1, e2, e3⟩ := read_step hst.s j hlt
      have hp := hpr.out S[j] (List.getElem_mem hlt)
      subst e1
      have HST := Lib.hid hst
      have hlo : lackOne F ks S[j] = (!F.contains S[j].2 && decide (check (key ks S[j].2.toNat) ≠ 0)) := rfl
      obtain ⟨cd, hcd⟩ : ∃ cd : Nat, S[j].2 = (cd : Int) := ⟨S[j].2.toNat, by omega⟩
      rw [hcd] at e3 hlo hp
      rw [Int.toNat_natCast] at hlo
      have hc2 : 2 ≤ cd ∧ cd ≤ 31 := by omega
      have HLO := Lib.hid hlo
      have hlt' : (j : Int) < ((S.map m38).length : Int) := by omega
      clear hst hlo hp hcd
      go_wp2_with fail
      have HST2 := Lib.hid (HST.out.alloc (.cells #[.int .i64 S[j].1, .int .i64 (cd : Int)] 69))
      have hnew := heap_alloc_new wr (.cells #[.int .i64 S[j].1, .int .i64 (cd : Int)] 69)
      generalize wr.alloc (.cells #[.int .i64 S[j].1, .int .i64 (cd : Int)] 69) = wa at HST2 hnew ⊢
      refine (contains_calls Af cf F (by omega) cd wa (Kd.R_reads' HST2.out.f).2.2 (Kd.R_reads' HST2.out.f).2.1).mono ?_
      rintro e w4 ⟨rfl, hd⟩
      have HST3 := Lib.hid (HST2.out.after hd.below)
      have hnew3 := cell_kept hnew hd.below
      have hcl := cell_of_row w4 wr.heap.size 1 _ 69 (0, 0) hnew3
      simp only [List.getElem?_toArray, List.getElem?_cons_succ, List.getElem?_cons_zero] at hcl
      clear HST HST2 hnew hd hnew3
      by_cases hc : F.contains (cd : Int) = true
      · rw [hc]
        go_wp2_with fail
        go_roundw
        case rel => exact ⟨j + 1, by omega, by simp, any_take S _ j hlt hany (by rw [HLO.out, hc]; rfl), HST3.out⟩
        case measure => simp [intOf]; omega
      · rw [Bool.eq_false_iff.mpr hc]
        have hck := HST3.out.k.cell (j := cd) (by omega)
        go_wp2_with fail
        refine (check_calls _ w4).mono ?_
        rintro e w5 ⟨rfl, hb⟩
        have HST4 := Lib.hid (HST3.out.after hb)
        clear hb hck hcl
        by_cases h0 : check (key ks cd) = 0
        · rw [h0]
          go_wp2_with fail
          go_roundw
          case rel => exact ⟨j + 1, by omega, by simp, any_take S _ j hlt hany (by rw [HLO.out, h0]; simp), HST4.out⟩
          case measure => simp [intOf]; omega
        · have hno := Lib.hid (any_at S (lackOne F ks) j hlt (by rw [HLO.out, Bool.eq_false_iff.mpr hc]; simpa using h0))
          go_wp2_with (first | refine wpList_store_row rfl 28 (.tmp 8) (.tmp 49) rfl _ _ rfl rfl _ _ HST4.out.r.1 zsize (by rw [KA.rowSize HST4.out.r.2, zrow]) zone ?_)
          have hfin := HST4.out.r.row _ noKeys_len
          refine bodyPost_ret (results_cell_row2 rfl _ _ _ _ _ _ _ rfl hfin.1 Tryz.underlying28 rfl (size_info _ _ hfin.2 s30)) rfl ?_
          rw [hans.out, if_pos hno.out]
          exact ⟨_, rfl, Kd.R_nil _ _ _ _ _, below_setRow HST4.out.bel (by omega) _⟩
    · obtain rfl : j = S.length := by omega
      have HST := Lib.hid hst
      rw [List.take_length] at hany
      clear hst hj
      by_cases hfull : 65535 < (first : Int) + F.length
      · go_wp2_with (first | refine wpList_store_row rfl 28 (.tmp 8) (.tmp 57) rfl _ _ rfl rfl _ _ HST.out.r.1 zsize (by rw [KA.rowSize HST.out.r.2, zrow]) zone ?_)
        have hfin := HST.out.r.row _ noKeys_len
        refine bodyPost_ret (results_cell_row2 rfl _ _ _ _ _ _ _ rfl hfin.1 Tryz.underlying28 rfl (size_info _ _ hfin.2 s30)) rfl ?_
        rw [hans.out, if_neg (by rw [hany]; decide), if_pos hfull]
        exact ⟨_, rfl, Kd.R_nil _ _ _ _ _, below_setRow HST.out.bel (by omega) _⟩
      · go_wp2_with fail
        have HST1 := Lib.hid (HST.out.alloc (.cells Z32 28))
        have HO := Lib.hid (KA.new 28 wr noKeys noKeys_len Z32 rfl)
        have ho : w.heap.size + 1 < wr.heap.size := by
          have := HST.out.r.lt; exact this
        generalize wr.alloc (.cells Z32 28) = wo at HST1 HO ⊢
        generalize wr.heap.size = o at HO ho ⊢
        clear HST
        go_loopw [16] (fun i wl => ∃ j : Nat, j ≤ 31 ∧ i = .int .i64 ((1 + j : Nat) : Int) ∧ RK w ks F S Af cf As cs wl ∧ KA 28 wl o (baseUp is ks j)) (fun i _ => 32 - (intOf i).toNat)
        case atStart => exact ⟨0, Nat.zero_le _, rfl, HST1.out, HO.out⟩
        case round =>
          clear HST1 HO
          obtain ⟨j, hj, rfl, hst, ho'⟩ := hrel
          have HST := Lib.hid hst; have HO := Lib.hid ho'
          clear hst ho'
          by_cases hlt : j < 31
          · have hsu := baseUp_succ (is : Int) ks j
            go_wp2_with fail
            rw [show (1 : Int) + (j : Int) = ((1 + j : Nat) : Int) by omega]
            refine (below_calls is his _ wr).mono ?_
            rintro e w4 ⟨rfl, hb⟩
            have HST2 := Lib.hid (HST.out.after hb)
            have HO2 := Lib.hid (HO.out.after hb)
            clear hb HST HO
            unfold baseOne at hsu
            by_cases hz : belowI (is : Int) ((1 + j : Nat) : Int) = 0
            · rw [hz]
              rw [if_pos hz] at hsu
              have HSU := Lib.hid hsu
              clear hsu hz
              go_wp2_with fail
              go_roundw
              case rel => exact ⟨j + 1, by omega, by simp; omega, HST2.out, HSU.out ▸ HO2.out⟩
              case measure => simp [intOf]; omega
            · rw [if_neg hz] at hsu
              have HSU := Lib.hid hsu
              have hck := HST2.out.k.cell (j := 1 + j) (by omega)
              have hco := HO2.out.cell (j := 1 + j) (by omega)
              have hfo := HO2.out.frozen (1 + j)
              clear hsu
              generalize belowI (is : Int) ((1 + j : Nat) : Int) = z at hz ⊢
              go_wp2_with fail
              go_roundw
              case rel => exact ⟨j + 1, by omega, by simp; omega, HST2.out.set HO2.out ho _ _, by rw [HSU.out]; exact HO2.out.set (1 + j) _⟩
              case measure => simp [intOf]; omega
          · obtain rfl : j = 31 := by omega
            clear hj hlt
            have hb31 := baseUp_len (is : Int) ks 31
            rw [show ((1 + 31 : Nat) : Int) = 32 from rfl]
            go_wp2_with fail
            go_loopw [73] (fun i wl => ∃ j : Nat, j ≤ F.length ∧ i = .int .i64 j ∧ RK w ks F S Af cf As cs wl ∧ KA 28 wl o (freshUp F first (baseUp is ks 31) j)) (fun i _ => F.length - (intOf i).toNat)
            case atStart => exact ⟨0, Nat.zero_le _, rfl, HST.out, HO.out⟩
            case round =>
              clear HST HO
              obtain ⟨j, hj, rfl, hst, ho'⟩ := hrel
              by_cases hlt : j < F.length
              · have hn := hfr.out F[j] (List.getElem_mem hlt)
                obtain ⟨ad, e1, e2⟩ := Kd.at_int (Kd.R_reads' hst.f).2.2 (j : Int) (by omega) (by omega)
                subst e1
                have hrd : rd F (j : Int) = F[j] := by unfold rd; simp [hlt]
                rw [hrd, Int.toNat_natCast] at e2
                have hsu := freshUp_succ F first (baseUp is ks 31) j
                have hgd : F.getD j 0 = F[j] := by simp [hlt]
                rw [hgd] at hsu
                obtain ⟨nd, hnd⟩ : ∃ nd : Nat, F[j] = (nd : Int) := ⟨F[j].toNat, by omega⟩
                rw [hnd] at e2 hn hsu
                rw [Int.toNat_natCast] at hsu
                have hn2 : 1 ≤ nd ∧ nd ≤ 15 := by omega
                have HST := Lib.hid hst; have HO := Lib.hid ho'; have HSU := Lib.hid hsu
                clear hst ho' hsu hnd hrd hgd hn
                go_wp2_with fail
                refine (nonce_calls _ wr).mono ?_
                rintro e w4 ⟨rfl, hb⟩
                have HST2 := Lib.hid (HST.out.after hb)
                have HO2 := Lib.hid (HO.out.after hb)
                clear hb HST HO
                have hco := HO2.out.cell (j := nd) (by omega)
                have hfo := HO2.out.frozen nd
                go_wp2_with fail
                go_roundw
                case rel => exact ⟨j + 1, by omega, by simp, HST2.out.set HO2.out ho _ _, by rw [HSU.out]; exact HO2.out.set nd _⟩
                case measure => simp [intOf]; omega
              · obtain rfl : j = F.length := by omega
                obtain ⟨X, hX⟩ : ∃ X, X = newKeys (is : Int) F ks first := ⟨_, rfl⟩
                have HST := Lib.hid hst
                have HO := Lib.hid (show KA 28 wr o X by rw [hX]; exact ho')
                rw [← hX] at hans
                clear hst ho' hX hj hlt hb31
                go_wp2_with fail
                go_loopw [19, 88] (fun l i wl => ∃ j : Nat, j ≤ S.length ∧ i = .int .i64 j ∧ (S.take j).any (fun p => decide ((tellOne X p).2 ≠ 0)) = false ∧ RK w ks F S Af cf As cs wl ∧ KA 28 wl o X ∧ Kd.R Kd.string 26 wl w.heap.size (fun _ => True) l ((S.take j).map (fun p => (tellOne X p).1))) (fun _ i _ => S.length - (intOf i).toNat)
                case atStart => exact ⟨0, Nat.zero_le _, rfl, rfl, HST.out, HO.out, Kd.R_nil _ _ _ _ _⟩
                case round =>
                  clear HST HO
                  obtain ⟨j, hj, rfl, hbad, hst, ho', hlr⟩ := hrel
                  by_cases hlt : j < S.length
                  · obtain ⟨ad, e1, e2, e3⟩ := read_step hst.s j hlt
                    have hp := hpr.out S[j] (List.getElem_mem hlt)
                    subst e1
                    have HST := Lib.hid hst; have HO := Lib.hid ho'; have HL := Lib.hid hlr
                    have hto : tellOne X S[j] = Ev03.tellOf (key X S[j].2.toNat) S[j].1 (key X S[j].1.toNat) := rfl
                    obtain ⟨cd, hcd⟩ : ∃ cd : Nat, S[j].2 = (cd : Int) := ⟨S[j].2.toNat, by omega⟩
                    obtain ⟨nd, hnd⟩ : ∃ nd : Nat, S[j].1 = (nd : Int) := ⟨S[j].1.toNat, by omega⟩
                    rw [hcd, hnd] at hto hp
                    rw [hcd] at e3
                    rw [hnd] at e2
                    simp only [Int.toNat_natCast] at hto
                    have hc2 : 2 ≤ cd ∧ cd ≤ 31 ∧ 1 ≤ nd ∧ nd ≤ 15 := by omega
                    have HTO := Lib.hid hto
                    have hlt' : (j : Int) < ((S.map m38).length : Int) := by omega
                    clear hst ho' hlr hp hcd hnd hto
                    go_wp2_with fail
                    have HST2 := Lib.hid (HST.out.alloc (.cells #[.int .i64 (nd : Int), .int .i64 (cd : Int)] 69))
                    have HO2 := Lib.hid (HO.out.alloc (.cells #[.int .i64 (nd : Int), .int .i64 (cd : Int)] 69))
                    have HL2 := Lib.hid (Kd.R_alloc HL.out (.cells #[.int .i64 (nd : Int), .int .i64 (cd : Int)] 69))
                    have hnew := heap_alloc_new wr (.cells #[.int .i64 (nd : Int), .int .i64 (cd : Int)] 69)
                    generalize wr.alloc (.cells #[.int .i64 (nd : Int), .int .i64 (cd : Int)] 69) = wa at HST2 HO2 HL2 hnew ⊢
                    have hc0 := cell_of_row wa wr.heap.size 0 _ 69 (0, 0) hnew
                    have hc1 := cell_of_row wa wr.heap.size 1 _ 69 (0, 0) hnew
                    simp only [List.getElem?_toArray, List.getElem?_cons_succ, List.getElem?_cons_zero] at hc0 hc1
                    have hk1 := HO2.out.cell (j := cd) (by omega)
                    have hsz : wr.heap.size < wa.heap.size := (Array.getElem?_eq_some_iff.1 hnew).1
                    have hk2 := HO2.out.cell (j := nd) (by omega)
                    clear HST HO HL hnew
                    have HSt : ∀ w1 w2 : World, (RowKit.Below wa.heap.size wa w1 ∧ w1.cell? ⟨wr.heap.size, 0, none⟩ = some (.int .i64 (nd : Int)) ∧ w1.cell? ⟨wr.heap.size, 1, none⟩ = some (.int .i64 (cd : Int)) ∧ w1.cell? ⟨o, cd, none⟩ = some (.string (key X cd)) ∧ w1.cell? ⟨o, nd, none⟩ = some (.string (key X nd))) → RowKit.Below w1.heap.size w1 w2 →
                        (RowKit.Below wa.heap.size wa w2 ∧ w2.cell? ⟨wr.heap.size, 0, none⟩ = some (.int .i64 (nd : Int)) ∧ w2.cell? ⟨wr.heap.size, 1, none⟩ = some (.int .i64 (cd : Int)) ∧ w2.cell? ⟨o, cd, none⟩ = some (.string (key X cd)) ∧ w2.cell? ⟨o, nd, none⟩ = some (.string (key X nd))) := by
                      rintro w1 w2 ⟨h1, h2, h3, h4, h5⟩ hb
                      have h6 := h1.trans (hb.mono h1.size)
                      exact ⟨h6, (h6.cell (p := ⟨wr.heap.size, 0, none⟩) hsz).trans hc0, (h6.cell (p := ⟨wr.heap.size, 1, none⟩) hsz).trans hc1, (h6.cell (p := ⟨o, cd, none⟩) HO2.out.lt).trans hk1, (h6.cell (p := ⟨o, nd, none⟩) HO2.out.lt).trans hk2⟩
                    have hB0 := RowKit.Below.refl wa.heap.size wa
                    have hci : (cd : Int) < 32 := by omega
                    have hni : (nd : Int) < 32 := by omega
                    go_region_held3 (fun w' => RowKit.Below wa.heap.size wa w' ∧ w'.cell? ⟨wr.heap.size, 0, none⟩ = some (.int .i64 (nd : Int)) ∧ w'.cell? ⟨wr.heap.size, 1, none⟩ = some (.int .i64 (cd : Int)) ∧ w'.cell? ⟨o, cd, none⟩ = some (.string (key X cd)) ∧ w'.cell? ⟨o, nd, none⟩ = some (.string (key X nd))) ((first | exact HSt wa _ ⟨hB0, hc0, hc1, hk1, hk2⟩ ((RowKit.Below.refl _ _).drew) | exact HSt _ _ (by first | assumption | exact ⟨by assumption, by assumption, by assumption, by assumption, by assumption⟩) (by assumption) | go_keep)) ((go_at_call 25; refine (told_calls _ _ _ _).mono ?_; rintro e w' ⟨rfl, hb⟩))
                    rename_i hheld
                    have hb' := hheld.1
                    have HST3 := Lib.hid (HST2.out.after hb'); have HO3 := Lib.hid (HO2.out.after hb'); have HL3 := Lib.hid (Kd.R_below HL2.out hb')
                    clear hheld hb hb' HSt hB0 hc0 hc1 hk1 hk2 hsz HST2 HO2 HL2
                    generalize Ev03.tellOf (key X cd) (nd : Int) (key X nd) = T at HTO ⊢
                    obtain ⟨tt, te⟩ := T
                    by_cases he : te = 0
                    · subst he
                      have HBD := Lib.hid (any_take S (fun p => decide ((tellOne X p).2 ≠ 0)) j hlt hbad (by rw [HTO.out]; rfl))
                      have HTK : Hid ((S.take (j + 1)).map (fun p => (tellOne X p).1) = (S.take j).map (fun p => (tellOne X p).1) ++ [tt]) := by
                        apply Lib.hid; rw [List.take_succ_eq_append_getElem hlt, List.map_append, List.map_cons, HTO.out]; rfl
                      have hll : ((S.take j).map (fun p => (tellOne X p).1)).length = j := by rw [List.length_map, List.length_take]; omega
                      go_wp2_with (first | (at_builtin; refine Kd.R_append Kd.string (w0 := w) w.heap.size rfl (.tmp 109) (.tmp 111) 31 26 (.string ⟨#[]⟩) 16 rfl Tryz.underlying31 info26 rfl (by decide) (by omega) _ _ tt [.string tt] (fun _ => True) (fun _ => False) rfl rfl rfl (fun _ hk => hk.elim) (fun _ _ => trivial) HL3.out HST3.out.bel HST3.out.bel.size (by rw [hll]; omega) ?_; intro v1 w7 hL hB hG hAt; have HST4 := Lib.hid (HST3.out.grown hG hB (row_type HL3.out)); have HO4 := Lib.hid (HO3.out.grown hG (row_type HL3.out) (by decide)); have HL4 := Lib.hid hL; clear hL hB hG hAt))
                      go_roundw
                      case rel => exact ⟨j + 1, by omega, by simp, HBD.out, HST4.out, HO4.out, by rw [HTK.out]; exact HL4.out⟩
                      case measure => simp [intOf]; omega
                    · have hno := Lib.hid (any_at S (fun p => decide ((tellOne X p).2 ≠ 0)) j hlt (by rw [HTO.out]; simpa using he))
                      go_wp2_with (first | refine wpList_store_row rfl 28 (.tmp 8) (.tmp 108) rfl _ _ rfl rfl _ _ HST3.out.r.1 zsize (by rw [KA.rowSize HST3.out.r.2, zrow]) zone ?_)
                      have hfin := HST3.out.r.row _ noKeys_len
                      refine bodyPost_ret (results_cell_row2 rfl _ _ _ _ _ _ _ rfl hfin.1 Tryz.underlying28 rfl (size_info _ _ hfin.2 s30)) rfl ?_
                      rw [hans.out, if_neg (by rw [hany]; decide), if_neg (by omega), if_pos hno.out]
                      exact ⟨_, rfl, Kd.R_nil _ _ _ _ _, below_setRow HST3.out.bel (by omega) _⟩
                  · obtain rfl : j = S.length := by omega
                    rw [List.take_length] at hbad hlr
                    have HST := Lib.hid hst; have HO := Lib.hid ho'; have HL := Lib.hid hlr
                    clear hst ho' hlr
                    go_wp2_with (first | refine wpList_load_row rfl 28 (.tmp 15) rfl _ rfl _ _ _ _ HO.out.1 Tryz.underlying28 rfl (size_info _ _ HO.out.2 s30) ?_ | refine wpList_store_row rfl 28 (.tmp 8) (.tmp 114) rfl _ _ rfl rfl _ _ HST.out.r.1 (size_info _ _ HO.out.2 s30) (by rw [KA.rowSize HST.out.r.2, KA.rowSize HO.out.2]) (one_string _) ?_)
                    have hfin := HST.out.r.row _ HO.out.2
                    refine bodyPost_ret (results_cell_row2 rfl _ _ _ _ _ _ _ rfl hfin.1 Tryz.underlying28 rfl (size_info _ _ hfin.2 s30)) rfl ?_
                    rw [hans.out, if_neg (by rw [hany]; decide), if_neg (by omega), if_neg (by rw [hbad]; decide)]
                    exact ⟨_, rfl, rowR_setRow HL.out HST.out.r.1 _, below_setRow HST.out.bel (by omega) _⟩
end Go.Proofs.YtkmpfmhbkflgpaaGreatDoor.Pr

/- grown: its contract. -/
set_option linter.unusedVariables false
set_option linter.unusedSimpArgs false
namespace Go.Proofs.YtkmpfmhbkflgpaaGreatDoor.Pr
open Go.RowKit Go.Proofs.YtkmpfmhbkflgpaaGreatDoorW.PrintWords Go.Proofs.YtkmpfmhbkflgpaaGreatDoorW.PrintLast Go.Proofs.YtkmpfmhbkflgpaaGreatDoorW.PrintMore Go.Proofs.YtkmpfmhbkflgpaaGreatDoor.TT

theorem rekeyF_len (was is : Int) (ks : List ByteArray) (first : Int) : (rekeyF was is ks first).1.length = 32 := by
  unfold rekeyF
  split
  · exact noKeys_len
  · split
    · exact noKeys_len
    · split
      · exact noKeys_len
      · exact newKeys_len _ _ _ _
theorem KA.setRow_other {T : TypeId} {w : World} {b : Nat} {ks : List ByteArray} (h : KA T w b ks) {g : Nat} (hne : b ≠ g) (cs : Array Value) : KA T (w.setRow g cs) b ks :=
  h.same (by simp only [World.setRow, Array.getElem?_modify]; rw [if_neg (fun e => hne e.symm)])
end Go.Proofs.YtkmpfmhbkflgpaaGreatDoor.Pr

/- (Keys).open: its contract. -/
set_option linter.unusedVariables false
set_option linter.unusedSimpArgs false
namespace Go.Proofs.YtkmpfmhbkflgpaaGreatDoor.Pr
open Go.RowKit Go.Proofs.YtkmpfmhbkflgpaaGreatDoorW.PrintWords Go.Proofs.YtkmpfmhbkflgpaaGreatDoorW.PrintLast Go.Proofs.YtkmpfmhbkflgpaaGreatDoorW.PrintMore Go.Proofs.YtkmpfmhbkflgpaaGreatDoor.TT

/-- What a pair's text has behind its label. -/
def pairOf (p : ByteArray) (n : Int) : ByteArray × Bool :=
  if (partsOf p).1 = 112 then (match (partsOf p).2.1 with
    | [a, b] => if a = Ev03.labelOf n then (b, true) else (⟨#[]⟩, false)
    | _ => (⟨#[]⟩, false)) else (⟨#[]⟩, false)
def openK (ks : List ByteArray) (t : ByteArray) (c : Nat) : ByteArray × Bool :=
  if (Ev03.openOf (key ks c) t).2 = 0 then pairOf (Ev03.openOf (key ks c) t).1 ((c / 2 : Nat) : Int) else (⟨#[]⟩, false)
theorem parts_pair {p : ByteArray} (h : (partsOf p).1 = 112) : ∃ a b, (partsOf p).2.1 = [a, b] := by
  by_cases hc : check p = 0
  · obtain ⟨t, hr, ho, _⟩ := check_ok hc
    rw [partsOf_ok hc hr] at h ⊢
    cases t with
    | nonce a b => exact absurd (show ((110 : UInt8).toNat : Int) = 112 from h) (by decide)
    | const l => exact absurd (show ((99 : UInt8).toNat : Int) = 112 from h) (by decide)
    | hash t => exact absurd (show ((104 : UInt8).toNat : Int) = 112 from h) (by decide)
    | two k a b => exact ⟨a.str, b.str, rfl⟩
  · rw [partsOf_bad hc] at h
    exact absurd (show (0 : Int) = 112 from h) (by decide)
theorem open_calls (key s : ByteArray) (w : World) :
    Calls Tryz.prog 36 #[.string key, .string s] w fun e w' => e = .returned (.tuple #[.string (Ev03.openOf key s).1, .int .i64 (Ev03.openOf key s).2]) ∧ RowKit.Below w.heap.size w w' :=
  term_Open.calls key s _ _ w (Ev03.open_spec key s)
theorem parts_calls (s : ByteArray) (w : World) :
    Calls Tryz.prog 37 #[.string s] w fun e w' => ∃ v1_ : Value, e = .returned (.tuple #[.int .u8 (partsOf s).1, v1_, .int .i64 (partsOf s).2.2]) ∧ Kd.R Kd.string 26 w' w.heap.size (fun _ => True) v1_ (partsOf s).2.1 ∧ RowKit.Below w.heap.size w w' :=
  term_Parts.calls s _ _ _ w rfl
theorem label_calls (n : Int) (w : World) :
    Calls Tryz.prog 63 #[.int .i64 n] w fun e w' => e = .returned (.string (Ev03.labelOf n)) ∧ RowKit.Below w.heap.size w w' :=
  path_label.calls n _ w (Ev03.label_spec n)
set_option maxHeartbeats 4000000 in
set_option maxRecDepth 100000 in
theorem openK_any (ks : List ByteArray) (hl : ks.length = 32) (t : ByteArray) (c : Nat) (hc : 1 ≤ c ∧ c < 32) (w : World) :
    Calls Tryz.prog 35 #[KV ks, .string t, .int .i64 (c : Int)] w fun e w' => e = .returned (.tuple #[.string (openK ks t c).1, .bool (openK ks t c).2]) ∧ RowKit.Below w.heap.size w w' := by
  have hca := cells_agg ks
  have hci : (c : Int) < 32 := by omega
  obtain ⟨R, hR⟩ : ∃ R, R = openK ks t c := ⟨_, rfl⟩
  rw [← hR]
  have HR := Lib.hid (show R = if (Ev03.openOf (key ks c) t).2 = 0 then pairOf (Ev03.openOf (key ks c) t).1 ((c / 2 : Nat) : Int) else (⟨#[]⟩, false) from hR)
  clear hR
  unfold KV
  go_enter Tryz.func35, Tryz.ntmps35
  have HK := Lib.hid (KA.new 28 w ks hl (ks.map Value.string).toArray rfl)
  have HB := Lib.hid ((RowKit.Below.refl w.heap.size w).alloc (Nat.le_refl _) (.cells (ks.map Value.string).toArray 28))
  have hck := HK.out.cell (j := c) (by omega)
  go_wp2_with fail
  generalize w.alloc (.cells (ks.map Value.string).toArray 28) = W at HK HB hck ⊢
  refine (open_calls _ _ W).mono ?_
  rintro e w2 ⟨rfl, hb⟩
  have HB2 := Lib.hid (HB.out.trans (hb.mono HB.out.size))
  clear hb HB HK hck hca
  generalize Ev03.openOf (key ks c) t = O at HR ⊢
  obtain ⟨p, er⟩ := O
  by_cases he : er = 0
  · subst he
    have HR1 := Lib.hid (HR.out.trans (if_pos rfl))
    clear HR
    go_wp2_with fail
    refine (parts_calls p w2).mono ?_
    rintro e w3 ⟨v, rfl, hr, hb⟩
    have HB3 := Lib.hid (HB2.out.trans (hb.mono HB2.out.size))
    clear hb HB2
    by_cases hk : (partsOf p).1 = 112
    · obtain ⟨a, b, hab⟩ := parts_pair hk
      have hpo : pairOf p ((c / 2 : Nat) : Int) = if a = Ev03.labelOf ((c / 2 : Nat) : Int) then (b, true) else (⟨#[]⟩, false) := by unfold pairOf; rw [if_pos hk, hab]
      have HR2 := Lib.hid (HR1.out.trans hpo)
      rw [hk]
      rw [hab] at hr
      clear hpo hk hab HR1
      obtain ⟨A, cp, ev⟩ := Kd.R_slice hr
      subst ev
      obtain ⟨ad, e1, ha⟩ := Kd.at_string (Kd.R_reads' hr).2.2 0 (by omega) (by simp)
      subst e1
      obtain ⟨ad2, e1, hb2⟩ := Kd.at_string (Kd.R_reads' hr).2.2 1 (by omega) (by simp)
      injection e1 with e1
      subst e1
      obtain ⟨g, eg⟩ := Kd.R_head hr
      subst eg
      have ha0 : w3.cell? ⟨g, 0, none⟩ = some (.string a) := ha
      have hb0 : w3.cell? ⟨g, 1, none⟩ = some (.string b) := hb2
      clear ha hb2
      go_wp2_with fail
      have HB3' := HB3
      have hq : Int.tdiv (c : Int) 2 = ((c / 2 : Nat) : Int) := by rw [Int.tdiv_eq_ediv_of_nonneg (by omega)]; omega
      have HSt : ∀ w1 w2 : World, (RowKit.Below w3.heap.size w3 w1 ∧ w1.cell? ⟨g, 0, none⟩ = some (.string a)) → RowKit.Below w1.heap.size w1 w2 → (RowKit.Below w3.heap.size w3 w2 ∧ w2.cell? ⟨g, 0, none⟩ = some (.string a)) := by
        rintro w1 w2 ⟨h1, h2⟩ hb
        have h6 := h1.trans (hb.mono h1.size)
        obtain ⟨ad', e1, ha2⟩ := Kd.at_string (Kd.R_reads' (Kd.R_below hr h6)).2.2 0 (by omega) (by simp)
        injection e1 with e1
        subst e1
        exact ⟨h6, ha2⟩
      have hB0 := RowKit.Below.refl w3.heap.size w3
      go_region_held3 (fun w' => RowKit.Below w3.heap.size w3 w' ∧ w'.cell? ⟨g, 0, none⟩ = some (.string a)) ((first | exact HSt w3 _ ⟨hB0, ha0⟩ ((RowKit.Below.refl _ _).drew) | exact HSt _ _ (by first | assumption | exact ⟨by assumption, by assumption⟩) (by assumption) | go_keep)) ((go_at_call 63; refine (label_calls _ _).mono ?_; rintro e w' ⟨rfl, hb⟩))
      rename_i hheld
      have hw2 : IntKind.i64.wrap ((c : Int) / 2) = ((c / 2 : Nat) : Int) := by simp only [IntKind.wrap, IntKind.bits, IntKind.signed]; simp; omega
      rw [hw2]
      have HB4 := Lib.hid (HB3.out.trans (hheld.1.mono HB3.out.size))
      have hb1 : w'.cell? ⟨g, 1, none⟩ = some (.string b) := by
        obtain ⟨ad', e1, ha2⟩ := Kd.at_string (Kd.R_reads' (Kd.R_below hr hheld.1)).2.2 1 (by omega) (by simp)
        injection e1 with e1
        subst e1
        exact ha2
      clear hheld hb HSt hB0 hq hw2 ha0 hb0 hr HB3 HB3'
      generalize Ev03.labelOf ((c / 2 : Nat) : Int) = L at HR2 ⊢
      by_cases hal : a = L
      · have HR3 := Lib.hid (HR2.out.trans (if_pos hal))
        subst hal
        rw [show (!(a.toList == a.toList)) = false by simp]
        go_wp2_with fail
        go_ret2
        rw [HR3.out]
        exact ⟨rfl, HB4.out⟩
      · have HR3 := Lib.hid (HR2.out.trans (if_neg hal))
        rw [show (!(a.toList == L.toList)) = true by simpa [Ev03.toList_iff] using hal]
        go_wp2_with fail
        go_ret2
        rw [HR3.out]
        exact ⟨rfl, HB4.out⟩
    · have HR2 := Lib.hid (HR1.out.trans (show pairOf p ((c / 2 : Nat) : Int) = (⟨#[]⟩, false) by unfold pairOf; rw [if_neg hk]))
      obtain ⟨A, cp, ev⟩ := Kd.R_slice hr
      subst ev
      generalize (partsOf p).1 = kd at hk ⊢
      go_wp2_with fail
      go_quiet (fail)
      go_wp2_with fail
      go_ret2
      rw [HR2.out]
      exact ⟨rfl, pw_below_drewN HB3.out _⟩
  · have HR1 := Lib.hid (HR.out.trans (if_neg he))
    clear HR
    go_wp2_with fail
    go_ret2
    rw [HR1.out]
    exact ⟨rfl, HB2.out⟩
end Go.Proofs.YtkmpfmhbkflgpaaGreatDoor.Pr

/- path.Learn: its contract. -/
set_option linter.unusedVariables false
set_option linter.unusedSimpArgs false
namespace Go.Proofs.YtkmpfmhbkflgpaaGreatDoor.Pr
open Go.RowKit Go.Proofs.YtkmpfmhbkflgpaaGreatDoorW.PrintWords Go.Proofs.YtkmpfmhbkflgpaaGreatDoorW.PrintLast Go.Proofs.YtkmpfmhbkflgpaaGreatDoorW.PrintMore Go.Proofs.YtkmpfmhbkflgpaaGreatDoor.TT

/-- The first node by whose key a term is opened. -/
def findOpen (ks : List ByteArray) (t : ByteArray) : Option Nat := (List.range' 2 30).find? (fun c => (openK ks t c).2)
def learnStep (s : List ByteArray × Nat) (t : ByteArray) : List ByteArray × Nat :=
  match findOpen s.1 t with
  | some c => (s.1.set (c / 2) (openK s.1 t c).1, s.2 + 1)
  | none => s
def learnF (ks : List ByteArray) (l : List ByteArray) : List ByteArray × Nat := l.foldl learnStep (ks, 0)
theorem learnStep_len {s : List ByteArray × Nat} (h : s.1.length = 32) (t : ByteArray) : (learnStep s t).1.length = 32 := by
  unfold learnStep
  split
  · rw [List.length_set]; exact h
  · exact h
theorem learnF_len {ks : List ByteArray} (h : ks.length = 32) (l : List ByteArray) : (learnF ks l).1.length = 32 := by
  unfold learnF
  have H : ∀ (l : List ByteArray) (s : List ByteArray × Nat), s.1.length = 32 → (l.foldl learnStep s).1.length = 32 := by
    intro l
    induction l with
    | nil => intro s h; exact h
    | cons t l ih => intro s h; exact ih _ (learnStep_len h t)
  exact H l _ h
theorem learnStep_n (s : List ByteArray × Nat) (t : ByteArray) : (learnStep s t).2 ≤ s.2 + 1 := by
  unfold learnStep; split <;> simp
theorem learnF_n (ks : List ByteArray) (l : List ByteArray) : (learnF ks l).2 ≤ l.length := by
  unfold learnF
  have H : ∀ (l : List ByteArray) (s : List ByteArray × Nat), (l.foldl learnStep s).2 ≤ s.2 + l.length := by
    intro l
    induction l with
    | nil => intro s; simp
    | cons t l ih => intro s; have := ih (learnStep s t); have := learnStep_n s t; simp only [List.foldl_cons, List.length_cons]; omega
  have := H l (ks, 0)
  simpa using this
theorem learnF_take (ks : List ByteArray) (l : List ByteArray) (j : Nat) (hj : j < l.length) : learnF ks (l.take (j + 1)) = learnStep (learnF ks (l.take j)) l[j] := by
  unfold learnF; rw [List.take_succ_eq_append_getElem hj, List.foldl_append]; rfl
theorem find_at {ks : List ByteArray} {t : ByteArray} {c : Nat} (h2 : 2 ≤ c) (hc : c < 32) (hno : ∀ d, 2 ≤ d → d < c → (openK ks t d).2 = false) (ho : (openK ks t c).2 = true) : findOpen ks t = some c := by
  unfold findOpen
  rw [show List.range' 2 30 = List.range' 2 (c - 2) ++ List.range' c (32 - c) by
    have := @List.range'_append_1 2 (c - 2) (32 - c)
    rw [show 2 + (c - 2) = c by omega, show c - 2 + (32 - c) = 30 by omega] at this
    exact this.symm, List.find?_append]
  have h1 : (List.range' 2 (c - 2)).find? (fun c => (openK ks t c).2) = none := by
    rw [List.find?_eq_none]
    intro d hd
    rw [List.mem_range'_1] at hd
    rw [hno d hd.1 (by omega)]
    decide
  rw [h1, Option.none_or, show 32 - c = (31 - c) + 1 by omega, List.range'_succ, List.find?_cons, ho]
theorem find_none {ks : List ByteArray} {t : ByteArray} (hno : ∀ d, 2 ≤ d → d < 32 → (openK ks t d).2 = false) : findOpen ks t = none := by
  unfold findOpen
  rw [List.find?_eq_none]
  intro d hd
  rw [List.mem_range'_1] at hd
  rw [hno d hd.1 (by omega)]
  decide
set_option maxHeartbeats 4000000 in
set_option maxRecDepth 100000 in
theorem learn_any (ks : List ByteArray) (hl : ks.length = 32) (A : Option Addr) (cp : Nat) (l : List ByteArray) (hll : l.length ≤ 1000000) (w : World) (hr : Kd.C Kd.string w A l.length l) (hcp : l.length ≤ cp) :
    Calls Tryz.prog 13 #[KV ks, .slice A l.length cp] w fun e w' => e = .returned (.tuple #[KV (learnF ks l).1, .int .i64 ((learnF ks l).2 : Int)]) ∧ RowKit.Below w.heap.size w w' := by
  have hca := cells_agg ks
  have hz := zero30
  have hcz := cellsZ
  have HC := Lib.hid hr
  clear hr
  unfold KV
  go_enter Tryz.func13, Tryz.ntmps13
  have HK := Lib.hid (show KA 28 ((w.alloc (.cells (ks.map Value.string).toArray 28)).alloc (.cells Z32 28)) w.heap.size ks from (KA.new _ w ks hl _ rfl).alloc _)
  have HR := Lib.hid (show KA 28 ((w.alloc (.cells (ks.map Value.string).toArray 28)).alloc (.cells Z32 28)) (w.heap.size + 1) noKeys from by
    have := KA.new 28 (w.alloc (.cells (ks.map Value.string).toArray 28)) noKeys noKeys_len Z32 rfl
    simpa using this)
  have HB := Lib.hid (((RowKit.Below.refl w.heap.size w).alloc (Nat.le_refl _) (.cells (ks.map Value.string).toArray 28)).alloc (by simp) (.cells Z32 28))
  go_wp2_with fail
  generalize (w.alloc (.cells (ks.map Value.string).toArray 28)).alloc (.cells Z32 28) = W at HK HR HB ⊢
  go_step3
  go_wp2_with fail
  go_step3
  go_wp2_with fail
  clear hca hz hcz
  go_loopw [6, 14] (fun n i wr => ∃ j : Nat, j ≤ l.length ∧ i = .int .i64 j ∧ n = .int .i64 ((learnF ks (l.take j)).2 : Int) ∧ RowKit.Below w.heap.size w wr ∧ KA 28 wr w.heap.size (learnF ks (l.take j)).1 ∧ KA 28 wr (w.heap.size + 1) noKeys) (fun _ i _ => l.length - (intOf i).toNat)
  case atStart => exact ⟨0, Nat.zero_le _, rfl, rfl, HB.out, HK.out, HR.out⟩
  case round =>
    clear HB HK HR
    obtain ⟨j, hj, rfl, rfl, hbel, hk, hr⟩ := hrel
    by_cases hlt : j < l.length
    · obtain ⟨ad, e1, e2⟩ := Kd.at_string (Kd.C_below HC.out hbel) (j : Int) (by omega) (by omega)
      subst e1
      have hrd : rdOf ByteArray.empty l (j : Int) = l[j] := by simp [rdOf, hlt]
      rw [hrd, Int.toNat_natCast] at e2
      have htk := Lib.hid (learnF_take ks l j hlt)
      have hnb := learnF_n ks (l.take j)
      rw [List.length_take] at hnb
      generalize l[j] = t at e2 htk
      generalize learnF ks (l.take j) = s at hk htk hnb ⊢
      obtain ⟨K, n⟩ := s
      dsimp only at hk hnb ⊢
      have HBEL := Lib.hid hbel; have HKr := Lib.hid hk; have HRr := Lib.hid hr
      clear hbel hk hr hrd
      go_wp2_with fail
      go_loopw [6, 9] (fun nn i wl => ∃ c : Nat, 2 ≤ c ∧ c ≤ 32 ∧ i = .int .i64 (c : Int) ∧ nn = .int .i64 (n : Int) ∧ (∀ d, 2 ≤ d → d < c → (openK K t d).2 = false) ∧ RowKit.Below w.heap.size w wl ∧ KA 28 wl w.heap.size K ∧ KA 28 wl (w.heap.size + 1) noKeys) (fun _ i _ => 32 - (intOf i).toNat)
      case atStart => exact ⟨2, by omega, by omega, rfl, rfl, fun d h1 h2 => absurd h2 (by omega), HBEL.out, HKr.out, HRr.out⟩
      case round =>
        clear HBEL HKr HRr
        obtain ⟨c, hc2, hc3, rfl, rfl, hno, hbel, hk, hr⟩ := hrel
        have HBEL := Lib.hid hbel; have HKr := Lib.hid hk; have HRr := Lib.hid hr; have HNO := Lib.hid hno
        clear hbel hk hr hno
        by_cases hlc : c < 32
        · have hop := openK_any K HKr.out.2 t c ⟨by omega, hlc⟩
          unfold KV at hop
          go_wp2_with (first | refine wpList_load_row rfl 28 (.tmp 2) rfl _ rfl _ _ _ _ HKr.out.1 Tryz.underlying28 rfl (size_info _ _ HKr.out.2 s30) ?_)
          refine (hop _).mono ?_
          rintro e w4 ⟨rfl, hb⟩
          have HB2 := Lib.hid (HBEL.out.trans (hb.mono HBEL.out.size))
          have HK2 := Lib.hid (HKr.out.after hb); have HR2 := Lib.hid (HRr.out.after hb)
          clear hb hop HBEL HKr HRr
          cases hoc : (openK K t c).2 with
          | true =>
            have HST := Lib.hid (show learnStep (K, n) t = (K.set (c / 2) (openK K t c).1, n + 1) by unfold learnStep; rw [find_at hc2 hlc HNO.out hoc])
            have hfo := HK2.out.frozen (c / 2)
            have hco := HK2.out.cell (j := c / 2) (by omega)
            have hq : Int.tdiv (c : Int) 2 = ((c / 2 : Nat) : Int) := by rw [Int.tdiv_eq_ediv_of_nonneg (by omega)]; omega
            go_wp2_with fail
            go_roundw
            case rel =>
              refine ⟨j + 1, by omega, by simp, by rw [htk.out, HST.out]; simp, HB2.out.setCell (p := ⟨w.heap.size, c / 2, none⟩) (Nat.le_refl _) _, ?_, HR2.out.other _ _ (show w.heap.size + 1 ≠ w.heap.size by omega)⟩
              rw [htk.out, HST.out]
              exact HK2.out.set (c / 2) _
            case measure => simp [intOf]; omega
          | false =>
            have HNO2 := Lib.hid (show ∀ d, 2 ≤ d → d < c + 1 → (openK K t d).2 = false from fun d h1 h2 => by
              by_cases hd : d < c
              · exact HNO.out d h1 hd
              · obtain rfl : d = c := by omega
                exact hoc)
            go_wp2_with fail
            go_roundw
            case rel => exact ⟨c + 1, by omega, by omega, by simp, rfl, HNO2.out, HB2.out, HK2.out, HR2.out⟩
            case measure => simp [intOf]; omega
        · obtain rfl : c = 32 := by omega
          have HST := Lib.hid (show learnStep (K, n) t = (K, n) by unfold learnStep; rw [find_none HNO.out])
          go_wp2_with fail
          go_roundw
          case rel => exact ⟨j + 1, by omega, by simp, by rw [htk.out, HST.out], HBEL.out, by rw [htk.out, HST.out]; exact HKr.out, HRr.out⟩
          case measure => simp [intOf]; omega
    · obtain rfl : j = l.length := by omega
      rw [List.take_length] at hk ⊢
      have hfl := learnF_len hl l
      obtain ⟨s, hs⟩ : ∃ s, s = learnF ks l := ⟨_, rfl⟩
      rw [← hs] at hk hfl ⊢
      have HS := Lib.hid hs
      clear hs
      have HBEL := Lib.hid hbel; have HKr := Lib.hid hk; have HRr := Lib.hid hr
      clear hbel hk hr
      go_wp2_with (first | refine wpList_load_row rfl 28 (.tmp 2) rfl _ rfl _ _ _ _ HKr.out.1 Tryz.underlying28 rfl (size_info _ _ HKr.out.2 s30) ?_ | refine wpList_store_row rfl 28 (.tmp 4) (.tmp 37) rfl _ _ rfl rfl _ _ HRr.out.1 (size_info _ _ HKr.out.2 s30) (by rw [KA.rowSize HRr.out.2, KA.rowSize HKr.out.2]) (one_string _) ?_)
      rw [Exit.noGoto_ret]
      have hfin := HRr.out.row _ HKr.out.2
      refine bodyPost_ret (results_cell_row1 rfl _ _ _ _ _ _ _ rfl hfin.1 Tryz.underlying28 rfl (size_info _ _ hfin.2 s30)) rfl ?_
      rw [← HS.out]
      exact ⟨rfl, below_setRow HBEL.out (by omega) _⟩
end Go.Proofs.YtkmpfmhbkflgpaaGreatDoor.Pr

/- PathOwn: its walk. -/
set_option linter.unusedVariables false
set_option linter.unusedSimpArgs false
namespace Go.Proofs.YtkmpfmhbkflgpaaGreatDoor.Pr
open Go.RowKit Go.Proofs.YtkmpfmhbkflgpaaGreatDoorW.PrintWords Go.Proofs.YtkmpfmhbkflgpaaGreatDoorW.PrintLast Go.Proofs.YtkmpfmhbkflgpaaGreatDoorW.PrintMore Go.Proofs.YtkmpfmhbkflgpaaGreatDoor.TT

theorem key_ext {a b : List ByteArray} (ha : a.length = 32) (hb : b.length = 32) (h : ∀ j, j < 32 → key a j = key b j) : a = b := by
  apply List.ext_getElem (by omega)
  intro j h1 h2
  have := h j (by omega)
  unfold key at this
  simpa [h1, h2] using this
theorem key_none (j : Nat) : key noKeys j = ByteArray.empty := by
  unfold key noKeys
  rw [List.getD_eq_getElem?_getD, List.getElem?_replicate]
  split <;> rfl
theorem own_key (ks : List ByteArray) (j : Nat) (hj : j < 32) : ∀ (P : List Int) (o : List ByteArray), o.length = 32 → (∀ n ∈ P, 0 ≤ n ∧ n ≤ 31) → key (P.foldl (fun o n => o.set n.toNat (key ks n.toNat)) o) j = if P.contains (j : Int) then key ks j else key o j := by
  intro P
  induction P with
  | nil => intro o _ _; rfl
  | cons n P ih =>
    intro o ho hP
    have hn := hP n (List.mem_cons_self ..)
    rw [List.foldl_cons, ih _ (by rw [List.length_set]; exact ho) (fun m hm => hP m (List.mem_cons_of_mem _ hm))]
    rw [key_set o ho n.toNat (by omega)]
    by_cases hc : P.contains (j : Int) = true
    · rw [if_pos hc, if_pos (by rw [List.contains_cons, hc, Bool.or_true])]
    · rw [if_neg hc]
      by_cases e : (j : Int) = n
      · rw [if_pos (by omega), if_pos (by rw [List.contains_cons, beq_iff_eq.mpr e, Bool.true_or]), show n.toNat = j by omega]
      · rw [if_neg (by omega), if_neg (by rw [List.contains_cons, beq_eq_false_iff_ne.mpr e, Bool.false_or]; exact hc)]
theorem ownF_key (ks : List ByteArray) (P : List Int) (hP : ∀ n ∈ P, 0 ≤ n ∧ n ≤ 31) (j : Nat) (hj : j < 32) : key (ownF ks P) j = if P.contains (j : Int) then key ks j else ByteArray.empty := by
  unfold ownF
  rw [own_key ks j hj P noKeys noKeys_len hP, key_none]
attribute [local go_sem] beq_self_eq_true   -- for this text's walk alone
end Go.Proofs.YtkmpfmhbkflgpaaGreatDoor.Pr

/- The new keys, told and learned: plain maths. -/
set_option linter.unusedVariables false
set_option linter.unusedSimpArgs false
namespace Go.Proofs.YtkmpfmhbkflgpaaGreatDoor.Pr
open Go.RowKit Go.Proofs.YtkmpfmhbkflgpaaGreatDoorW.PrintWords Go.Proofs.YtkmpfmhbkflgpaaGreatDoorW.PrintLast Go.Proofs.YtkmpfmhbkflgpaaGreatDoorW.PrintMore Go.Proofs.YtkmpfmhbkflgpaaGreatDoor.TT

/-! ### Terms -/
def nTm (a : Int) : Tm := .nonce (UInt8.ofNat (a / 256).toNat) (UInt8.ofNat (a % 256).toNat)
def lTm (n : Int) : Tm := .const [107, UInt8.ofNat (n % 256).toNat]
theorem nonce_str (a : Int) (h0 : 0 ≤ a) (h1 : a < 65536) : nonceN a = (nTm a).str := Option.some.inj (Ev03.nonce_spec a h0 h1)
theorem label_str (n : Int) : Ev03.labelOf n = (lTm n).str := by
  unfold Ev03.labelOf Ev03.constOf strOfNums
  rw [if_neg (by simp [ByteArray.size])]
  rfl
theorem nTm_ok (a : Int) : (nTm a).ok ∧ (nTm a).depth = 1 ∧ (nTm a).enc.length = 3 := by unfold nTm; exact ⟨by simp [Tm.ok], by simp [Tm.depth], by simp [Tm.enc]⟩
theorem lTm_ok (n : Int) : (lTm n).ok ∧ (lTm n).depth = 1 ∧ (lTm n).enc.length = 4 := by unfold lTm; exact ⟨by simp [Tm.ok], by simp [Tm.depth], by simp [Tm.enc]⟩
theorem ar_two {k : UInt8} (h : isTwo k = true) : ar k = 2 := by
  have := isTwo_ne h
  unfold ar
  rw [if_neg (by simp [this.1, this.2.1]), if_neg this.2.2, if_pos h]
theorem make_two {k : UInt8} (hk : isTwo k = true) {s t : Tm} (hs : s.ok) (ht : t.ok) (ds : s.depth ≤ 50) (dt : t.depth ≤ 50) (ls : s.enc.length ≤ 900) (lt : t.enc.length ≤ 900) :
    makeOf k [s.str, t.str] = ((Tm.two k s t).str, 0) := by
  have c1 := check_str hs (by omega) (by omega)
  have c2 := check_str ht (by omega) (by omega)
  have c3 : check (Tm.two k s t).str = 0 := check_str (by simp only [Tm.ok]; exact ⟨hk, hs, ht⟩) (by simp only [Tm.depth]; omega) (by simp only [Tm.enc, List.length_cons, List.length_append]; omega)
  have e : strOf (k :: (([s.str, t.str].map fun s => s.data.toList).flatten)) = (Tm.two k s t).str := by
    rw [← Ev03.two_str]; simp
  unfold makeOf
  rw [if_neg (by rw [ar_two hk]; simp)]
  have hf : [s.str, t.str].find? (fun s => decide (check s ≠ 0)) = none := by simp [c1, c2]
  rw [hf]
  simp only
  rw [e, if_pos c3]
/-- What is told. -/
def tTm (C : Int) (n : Int) (X : Int) : Tm := .two 115 (nTm C) (.two 112 (lTm n) (nTm X))
theorem tell_str (C n X : Int) (hC : 0 ≤ C ∧ C < 65536) (hX : 0 ≤ X ∧ X < 65536) : Ev03.tellOf (nonceN C) n (nonceN X) = ((tTm C n X).str, 0) := by
  obtain ⟨o1, d1, l1⟩ := nTm_ok C
  obtain ⟨o2, d2, l2⟩ := nTm_ok X
  obtain ⟨o3, d3, l3⟩ := lTm_ok n
  unfold Ev03.tellOf
  rw [nonce_str C hC.1 hC.2, nonce_str X hX.1 hX.2, label_str]
  rw [make_two (by decide) o3 o2 (by omega) (by omega) (by omega) (by omega)]
  rw [if_pos rfl]
  exact make_two (by decide) o1 (by simp only [Tm.ok]; exact ⟨by decide, o3, o2⟩) (by omega) (by simp only [Tm.depth]; omega) (by omega) (by simp only [Tm.enc, List.length_cons, List.length_append]; omega)
theorem tTm_ok (C n X : Int) : (tTm C n X).ok ∧ check (tTm C n X).str = 0 := by
  obtain ⟨o1, d1, l1⟩ := nTm_ok C
  obtain ⟨o2, d2, l2⟩ := nTm_ok X
  obtain ⟨o3, d3, l3⟩ := lTm_ok n
  have ho : (tTm C n X).ok := by unfold tTm; simp only [Tm.ok]; exact ⟨by decide, o1, by decide, o3, o2⟩
  exact ⟨ho, check_str ho (by unfold tTm; simp only [Tm.depth]; omega) (by unfold tTm; simp only [Tm.enc, List.length_cons, List.length_append]; omega)⟩
theorem nonce_check (a : Int) (h0 : 0 ≤ a) (h1 : a < 65536) : check (nonceN a) = 0 := by
  rw [nonce_str a h0 h1]
  obtain ⟨o, d, l⟩ := nTm_ok a
  exact check_str o (by omega) (by omega)
theorem str_inj {s t : Tm} (hs : s.ok) (ht : t.ok) (h : s.str = t.str) : s = t := enc_inj hs ht (strOf_inj h)
theorem label_inj {m n : Int} (hm : 0 ≤ m ∧ m < 256) (hn : 0 ≤ n ∧ n < 256) (h : (lTm m).str = (lTm n).str) : m = n := by
  have := str_inj (lTm_ok m).1 (lTm_ok n).1 h
  unfold lTm at this
  injection this with this
  have h2 : UInt8.ofNat (m % 256).toNat = UInt8.ofNat (n % 256).toNat := by
    injection this with _ this
    injection this
  have h3 := congrArg UInt8.toNat h2
  simp only [UInt8.toNat_ofNat'] at h3
  omega
/-- A key of a node opens what is told just where it is the child's, and the label is the node's. -/
theorem open_told (ks : List ByteArray) (C n X : Int) (hC : 0 ≤ C ∧ C < 65536) (hX : 0 ≤ X ∧ X < 65536) (hn : 0 ≤ n ∧ n < 256) (c : Nat) (hc : c < 32) :
    openK ks (tTm C n X).str c = if key ks c = nonceN C ∧ ((c / 2 : Nat) : Int) = n then (nonceN X, true) else (⟨#[]⟩, false) := by
  obtain ⟨ot, ct⟩ := tTm_ok C n X
  obtain ⟨o1, d1, l1⟩ := nTm_ok C
  obtain ⟨o2, d2, l2⟩ := nTm_ok X
  obtain ⟨o3, d3, l3⟩ := lTm_ok n
  have op : (Tm.two 112 (lTm n) (nTm X)).ok := by simp only [Tm.ok]; exact ⟨by decide, o3, o2⟩
  have cp : check (Tm.two 112 (lTm n) (nTm X)).str = 0 := check_str op (by simp only [Tm.depth]; omega) (by simp only [Tm.enc, List.length_cons, List.length_append]; omega)
  have hC2 : (nTm C).str = nonceN C := (nonce_str C hC.1 hC.2).symm
  by_cases hk : key ks c = nonceN C
  · have hkc : check (key ks c) = 0 := by rw [hk]; exact nonce_check C hC.1 hC.2
    have hop : Ev03.openOf (key ks c) (tTm C n X).str = ((Tm.two 112 (lTm n) (nTm X)).str, 0) := by
      unfold Ev03.openOf
      rw [if_pos hkc, if_pos ct, read_str _ ot]
      unfold tTm
      simp only
      rw [if_pos trivial, if_pos (by rw [hC2, hk])]
    unfold openK
    rw [hop, if_pos rfl]
    unfold pairOf
    rw [partsOf_ok cp (read_str _ op)]
    simp only [Tm.kind, Tm.parts, List.map_cons, List.map_nil]
    rw [if_pos (show ((112 : UInt8).toNat : Int) = 112 by decide), label_str]
    by_cases hl : ((c / 2 : Nat) : Int) = n
    · rw [if_pos (by rw [hl]), if_pos ⟨hk, hl⟩, ← nonce_str X hX.1 hX.2]
    · rw [if_neg (fun e => hl (label_inj hn (by omega) e).symm), if_neg (fun e => hl e.2)]
  · rw [if_neg (fun e : key ks c = nonceN C ∧ _ => hk e.1)]
    have hop : (Ev03.openOf (key ks c) (tTm C n X).str).2 ≠ 0 := by
      unfold Ev03.openOf
      by_cases hkc : check (key ks c) = 0
      · rw [if_pos hkc, if_pos ct, read_str _ ot]
        unfold tTm
        simp only
        rw [if_pos trivial, if_neg (by rw [hC2]; exact fun e => hk e.symm)]
        decide
      · rw [if_neg hkc]; exact hkc
    unfold openK
    rw [if_neg hop]
/-- Who has a child's key? -/
def Opens (K : List ByteArray) (C : Int) (n : Nat) : Prop := key K (2 * n) = nonceN C ∨ key K (2 * n + 1) = nonceN C
theorem learn_told (K : List ByteArray) (m : Nat) (C X : Int) (hC : 0 ≤ C ∧ C < 65536) (hX : 0 ≤ X ∧ X < 65536) (n : Nat) (h1 : 1 ≤ n) (h2 : n ≤ 15) :
    (Opens K C n ∧ (learnStep (K, m) (tTm C n X).str).1 = K.set n (nonceN X)) ∨ (¬ Opens K C n ∧ (learnStep (K, m) (tTm C n X).str).1 = K) := by
  have ho := fun c hc => open_told K C (n : Int) X hC hX (by omega) c hc
  cases hf : findOpen K (tTm C n X).str with
  | none =>
    right
    refine ⟨?_, by unfold learnStep; simp only; rw [hf]⟩
    intro hop
    unfold findOpen at hf
    rw [List.find?_eq_none] at hf
    rcases hop with h | h
    · have := hf (2 * n) (List.mem_range'_1.2 (by omega))
      rw [ho (2 * n) (by omega), if_pos ⟨h, by omega⟩] at this
      exact this rfl
    · have := hf (2 * n + 1) (List.mem_range'_1.2 (by omega))
      rw [ho (2 * n + 1) (by omega), if_pos ⟨h, by omega⟩] at this
      exact this rfl
  | some c =>
    left
    have hm := List.mem_of_find?_eq_some hf
    have hp := List.find?_some hf
    rw [List.mem_range'_1] at hm
    rw [ho c (by omega)] at hp
    split at hp
    · rename_i hcc
      have hcn : c / 2 = n := by have := hcc.2; omega
      refine ⟨?_, ?_⟩
      · rcases (show c = 2 * n ∨ c = 2 * n + 1 by omega) with e | e
        · exact .inl (e ▸ hcc.1)
        · exact .inr (e ▸ hcc.1)
      · unfold learnStep
        simp only
        rw [hf]
        simp only
        rw [hcn, ho c (by omega), if_pos hcc]
    · cases hp
end Go.Proofs.YtkmpfmhbkflgpaaGreatDoor.Pr

/- The new keys' numbers; who has which. -/
set_option linter.unusedVariables false
set_option linter.unusedSimpArgs false
namespace Go.Proofs.YtkmpfmhbkflgpaaGreatDoor.Pr
open Go.RowKit Go.Proofs.YtkmpfmhbkflgpaaGreatDoorW.PrintWords Go.Proofs.YtkmpfmhbkflgpaaGreatDoorW.PrintLast Go.Proofs.YtkmpfmhbkflgpaaGreatDoorW.PrintMore Go.Proofs.YtkmpfmhbkflgpaaGreatDoor.TT

/-! ### Nodes -/
theorem mem_fresh {a b : Nat} {x : Int} : x ∈ freshI (a : Int) (b : Int) ↔ ∃ n : Nat, x = (n : Int) ∧ 1 ≤ n ∧ n ≤ 15 ∧ (a ^^^ b) &&& maskN n ≠ 0 ∧ b &&& maskN n ≠ 0 := by
  unfold freshI
  rw [List.mem_map]
  constructor
  · rintro ⟨n, hn, rfl⟩
    obtain ⟨q1, q2⟩ := List.mem_filter.1 hn
    obtain ⟨h1, h2⟩ := (mem_down n).1 q1
    unfold freshB at q2
    simp only [Int.toNat_natCast, Bool.and_eq_true, bne_iff_ne] at q2
    exact ⟨n, rfl, h1, h2, q2.1, q2.2⟩
  · rintro ⟨n, rfl, h1, h2, h3, h4⟩
    refine ⟨n, List.mem_filter.2 ⟨(mem_down n).2 ⟨h1, h2⟩, ?_⟩, rfl⟩
    unfold freshB
    simp only [Int.toNat_natCast, Bool.and_eq_true, bne_iff_ne]
    exact ⟨h3, h4⟩
theorem fresh_falls (a b : Int) : (freshI a b).Pairwise (· > ·) := by
  unfold freshI
  rw [List.pairwise_map]
  refine List.Pairwise.filter _ ?_
  show List.Pairwise (fun a b : Nat => (a : Int) > (b : Int)) downL
  decide
/-- Is anybody below a node? -/
def Any (s n : Nat) : Prop := belowI (s : Int) (n : Int) ≠ 0
theorem any_iff {s n : Nat} (h1 : 1 ≤ n) (hn : n ≤ 31) : Any s n ↔ s &&& maskN n ≠ 0 := by
  unfold Any
  rw [belowI_nat s n h1 hn]
  omega
theorem any_zero (n : Nat) : ¬ Any 0 n := by
  unfold Any belowI
  split
  · simp
  · simp
/-- A node that is not new, and has somebody below, had somebody below. -/
theorem any_old {a b n : Nat} (ha : a < 65536) (hb : b < 65536) (h1 : 1 ≤ n) (hn : n ≤ 15) (hA : Any b n) (hf : ¬ (n : Int) ∈ freshI (a : Int) (b : Int)) : Any a n := by
  rw [any_iff h1 (by omega)] at hA ⊢
  have hx : (a ^^^ b) &&& maskN n = 0 := by
    by_cases h : (a ^^^ b) &&& maskN n = 0
    · exact h
    · exact absurd (mem_fresh.2 ⟨n, rfl, h1, hn, h, hA⟩) hf
  have : a &&& maskN n = b &&& maskN n := by
    apply Nat.eq_of_testBit_eq
    intro i
    have h2 := congrArg (fun x => x.testBit i) hx
    simp only [Nat.testBit_and, Nat.testBit_xor, Nat.zero_testBit] at h2 ⊢
    revert h2
    cases a.testBit i <;> cases b.testBit i <;> cases (maskN n).testBit i <;> simp
  rw [this]; exact hA
/-- Is a node on a way? -/
def onP (id n : Nat) : Bool := (pathI (id : Int)).contains (n : Int)
theorem way_all : ((List.range 16).all fun id => (!onP id 0) && onP id (16 + id) && (List.range 32).all fun c => (!(onP id c && decide (2 ≤ c)) || onP id (c / 2)) && (!(onP id c && decide (1 ≤ c) && decide (c ≤ 15)) || onP id (2 * c) || onP id (2 * c + 1)) && (!(onP id c && decide (16 ≤ c)) || c == 16 + id)) = true := by decide +kernel
theorem way_at {id : Nat} (hid : id < 16) : onP id 0 = false ∧ onP id (16 + id) = true ∧ ∀ c, c < 32 → (onP id c = true → 2 ≤ c → onP id (c / 2) = true) ∧ (onP id c = true → 1 ≤ c → c ≤ 15 → onP id (2 * c) = true ∨ onP id (2 * c + 1) = true) ∧ (onP id c = true → 16 ≤ c → c = 16 + id) := by
  have h := List.all_eq_true.1 way_all id (List.mem_range.2 hid)
  simp only [Bool.and_eq_true, Bool.not_eq_true'] at h
  refine ⟨h.1.1, h.1.2, fun c hc => ?_⟩
  have h2 := List.all_eq_true.1 h.2 c (List.mem_range.2 hc)
  simp only [Bool.and_eq_true, Bool.or_eq_true, Bool.not_eq_true', Bool.and_eq_false_iff, decide_eq_false_iff_not, beq_iff_eq] at h2
  obtain ⟨⟨q1, q2⟩, q3⟩ := h2
  refine ⟨fun e e2 => ?_, fun e e1 e2 => ?_, fun e e1 => ?_⟩
  · rcases q1 with (q | q) | q
    · rw [q] at e; cases e
    · exact absurd e2 q
    · exact q
  · rcases q2 with (((q | q) | q) | q) | q
    · rw [q] at e; cases e
    · exact absurd e1 q
    · exact absurd e2 q
    · exact .inl q
    · exact .inr q
  · rcases q3 with (q | q) | q
    · rw [q] at e; cases e
    · exact absurd e1 q
    · exact q
theorem any_path {s id n : Nat} (hs : s < 65536) (hid : id < 16) (hb : bit s id = true) (h1 : 1 ≤ n) (hn : n < 32) (ho : onP id n = true) : Any s n := by
  rw [any_iff h1 (by omega), below_ne hs hn]
  exact ⟨id, hid, hb, by rw [mask_bit n id hn hid]; exact ho⟩
theorem fresh_path {a b id n : Nat} (ha : a < 65536) (hb : b < 65536) (hid : id < 16) (h2 : bit b id = true) (hx : bit a id = false) (h1 : 1 ≤ n) (hn : n ≤ 15) (ho : onP id n = true) : (n : Int) ∈ freshI (a : Int) (b : Int) := by
  have hm : bit (maskN n) id = true := by rw [mask_bit n id (by omega) hid]; exact ho
  refine mem_fresh.2 ⟨n, rfl, h1, hn, ?_, ?_⟩
  · exact (below_ne (Nat.xor_lt_two_pow (n := 16) ha hb) (by omega)).2 ⟨id, hid, by rw [bit_xor, hx, h2]; rfl, hm⟩
  · exact (below_ne hb (by omega)).2 ⟨id, hid, h2, hm⟩

/-! ### The new keys -/
theorem base_key (is : Int) (ks : List ByteArray) (n : Nat) (hn : n < 32) : ∀ j, j ≤ 31 → key (baseUp is ks j) n = if 1 ≤ n ∧ n ≤ j ∧ belowI is (n : Int) ≠ 0 then key ks n else ByteArray.empty := by
  intro j
  induction j with
  | zero => intro _; rw [if_neg (by omega)]; exact key_none n
  | succ j ih =>
    intro hj
    have ih := ih (by omega)
    rw [baseUp_succ]
    unfold baseOne
    by_cases hb : belowI is ((1 + j : Nat) : Int) = 0
    · rw [if_pos hb, ih]
      by_cases e : n = 1 + j
      · rw [if_neg (by omega), if_neg (by rw [e]; exact fun h => h.2.2 hb)]
      · by_cases hc : 1 ≤ n ∧ n ≤ j ∧ belowI is (n : Int) ≠ 0
        · rw [if_pos hc, if_pos ⟨hc.1, by omega, hc.2.2⟩]
        · rw [if_neg hc, if_neg (fun h => hc ⟨h.1, by omega, h.2.2⟩)]
    · rw [if_neg hb, key_set _ (baseUp_len _ _ _) _ (by omega)]
      by_cases e : n = 1 + j
      · rw [if_pos e, if_pos ⟨by omega, by omega, by rw [e]; exact hb⟩, e]
      · rw [if_neg e, ih]
        by_cases hc : 1 ≤ n ∧ n ≤ j ∧ belowI is (n : Int) ≠ 0
        · rw [if_pos hc, if_pos ⟨hc.1, by omega, hc.2.2⟩]
        · rw [if_neg hc, if_neg (fun h => hc ⟨h.1, by omega, h.2.2⟩)]
theorem freshUp_key (F : List Int) (hF : ∀ n ∈ F, 1 ≤ n ∧ n ≤ 15) (hnd : F.Nodup) (first : Int) (o : List ByteArray) (ho : o.length = 32) (n : Nat) (hn : n < 32) : ∀ j, j ≤ F.length → key (freshUp F first o j) n = if (n : Int) ∈ F.take j then nonceN (first + (F.idxOf (n : Int) : Int)) else key o n := by
  intro j
  induction j with
  | zero => intro _; rw [if_neg (by simp)]; rfl
  | succ j ih =>
    intro hj
    have hjl : j < F.length := by omega
    have hg : F.getD j 0 = F[j] := by simp [hjl]
    have hr := hF F[j] (List.getElem_mem hjl)
    rw [freshUp_succ, hg, key_set _ (freshUp_len _ _ _ ho _) _ (by omega), ih (by omega)]
    by_cases e : n = F[j].toNat
    · have e2 : (n : Int) = F[j] := by omega
      rw [if_pos e, if_pos (show (n : Int) ∈ F.take (j + 1) by rw [List.take_succ_eq_append_getElem hjl]; exact List.mem_append_right _ (List.mem_singleton.2 e2))]
      rw [e2, hnd.idxOf_getElem j hjl]
    · have e2 : ¬ (n : Int) = F[j] := by omega
      rw [if_neg e]
      have : (n : Int) ∈ F.take (j + 1) ↔ (n : Int) ∈ F.take j := by
        rw [List.take_succ_eq_append_getElem hjl, List.mem_append, List.mem_singleton]
        exact ⟨fun h => h.resolve_right e2, .inl⟩
      by_cases hm : (n : Int) ∈ F.take j
      · rw [if_pos hm, if_pos (this.2 hm)]
      · rw [if_neg hm, if_neg (fun h => hm (this.1 h))]
theorem fresh_nodup (a b : Int) : (freshI a b).Nodup := (fresh_falls a b).imp (fun h e => by omega)
theorem new_key (is : Int) (F : List Int) (hF : ∀ n ∈ F, 1 ≤ n ∧ n ≤ 15) (hnd : F.Nodup) (ks : List ByteArray) (first : Int) (n : Nat) (hn : n < 32) :
    key (newKeys is F ks first) n = if (n : Int) ∈ F then nonceN (first + (F.idxOf (n : Int) : Int)) else if 1 ≤ n ∧ belowI is (n : Int) ≠ 0 then key ks n else ByteArray.empty := by
  unfold newKeys
  rw [freshUp_key F hF hnd first _ (baseUp_len _ _ _) n hn F.length (Nat.le_refl _), List.take_length, base_key is ks n hn 31 (Nat.le_refl _)]
  split
  · rfl
  · by_cases hc : 1 ≤ n ∧ belowI is (n : Int) ≠ 0
    · rw [if_pos hc, if_pos ⟨hc.1, by omega, hc.2⟩]
    · rw [if_neg hc, if_neg (fun h => hc ⟨h.1, h.2.2⟩)]

/-- Keys that may be: each leaf's nonce, and a nonce at each node below which there is somebody. -/
structure Good (k : List ByteArray) (s : Nat) : Prop where
  len : k.length = 32
  leaf : ∀ n, 16 ≤ n → n < 32 → key k n = nonceN ((1000 + n : Nat) : Int)
  node : ∀ n, 1 ≤ n → n ≤ 15 → Any s n → ∃ a : Int, 0 ≤ a ∧ a < 65536 ∧ key k n = nonceN a
theorem leafUp_key (o : List ByteArray) (ho : o.length = 32) (n : Nat) (hn : n < 32) : ∀ j, j ≤ 16 → key (leafUp o j) n = if 16 ≤ n ∧ n < 16 + j then nonceN ((1000 + n : Nat) : Int) else key o n := by
  intro j
  induction j with
  | zero => intro _; rw [if_neg (by omega)]; rfl
  | succ j ih =>
    intro hj
    rw [leafUp_succ, key_set _ (leafUp_len _ ho _) _ (by omega), ih (by omega)]
    by_cases e : n = 16 + j
    · rw [if_pos e, if_pos (by omega), show 1000 + n = 1016 + j by omega]
    · rw [if_neg e]
      by_cases hc : 16 ≤ n ∧ n < 16 + j
      · rw [if_pos hc, if_pos (by omega)]
      · rw [if_neg hc, if_neg (by omega)]
theorem good_leaves : Good leavesL 0 :=
  ⟨leaves_len, fun n h1 h2 => by unfold leavesL; rw [leafUp_key _ noKeys_len n h2 16 (Nat.le_refl _), if_pos (by omega)], fun n _ _ h => absurd h (any_zero n)⟩
end Go.Proofs.YtkmpfmhbkflgpaaGreatDoor.Pr

/- Who is a member learns the keys on its way. -/
set_option linter.unusedVariables false
set_option linter.unusedSimpArgs false
namespace Go.Proofs.YtkmpfmhbkflgpaaGreatDoor.Pr
open Go.RowKit Go.Proofs.YtkmpfmhbkflgpaaGreatDoorW.PrintWords Go.Proofs.YtkmpfmhbkflgpaaGreatDoorW.PrintLast Go.Proofs.YtkmpfmhbkflgpaaGreatDoorW.PrintMore Go.Proofs.YtkmpfmhbkflgpaaGreatDoor.TT

theorem nonce_ne (a : Int) (h0 : 0 ≤ a) (h1 : a < 65536) : nonceN a ≠ ByteArray.empty := by
  intro e
  have := nonce_check a h0 h1
  rw [e] at this
  exact absurd this (by decide)
section
variable {k : List ByteArray} {was is : Nat} {first : Int}
/-- All that is needed has a key. -/
theorem new_nonce (hg : Good k was) (hw : was < 65536) (hi : is < 65536) (h0 : 0 ≤ first) (hf : first + 15 ≤ 65535) (n : Nat) (h1 : 1 ≤ n) (hn : n < 32) (hA : Any is n) :
    ∃ a : Int, 0 ≤ a ∧ a < 65536 ∧ key (newKeys (is : Int) (freshI (was : Int) (is : Int)) k first) n = nonceN a := by
  rw [new_key _ _ (fresh_range _ _) (fresh_nodup _ _) k first n hn]
  by_cases hm : (n : Int) ∈ freshI (was : Int) (is : Int)
  · rw [if_pos hm]
    have h2 := List.idxOf_lt_length_of_mem hm
    have h3 := fresh_len (was : Int) (is : Int)
    exact ⟨_, by omega, by omega, rfl⟩
  · rw [if_neg hm, if_pos ⟨h1, hA⟩]
    by_cases h16 : 16 ≤ n
    · exact ⟨_, by omega, by omega, hg.leaf n h16 hn⟩
    · exact hg.node n h1 (by omega) (any_old hw hi h1 (by omega) hA hm)
/-- One step's parts. -/
structure Step15 (x : List ByteArray) (is : Nat) (F : List Int) (p : Int × Int) (n c : Nat) (C X : Int) : Prop where
  eq : p = ((n : Int), (c : Int))
  n1 : 1 ≤ n
  n2 : n ≤ 15
  kid : c = 2 * n ∨ c = 2 * n + 1
  mem : (n : Int) ∈ F
  any : Any is c
  C0 : 0 ≤ C ∧ C < 65536
  X0 : 0 ≤ X ∧ X < 65536
  kc : key x c = nonceN C
  kn : key x n = nonceN X
  told : tellOne x p = ((tTm C (n : Int) X).str, 0)
theorem step_ok (hg : Good k was) (hw : was < 65536) (hi : is < 65536) (h0 : 0 ≤ first) (hf : first + 15 ≤ 65535) (p : Int × Int) (hp : p ∈ pairsL (is : Int) (freshI (was : Int) (is : Int))) :
    ∃ n c C X, Step15 (newKeys (is : Int) (freshI (was : Int) (is : Int)) k first) is (freshI (was : Int) (is : Int)) p n c C X := by
  obtain ⟨q1, q2, q3, q4, q5, q6, q7⟩ := pair_range (is : Int) _ (fresh_range (was : Int) (is : Int)) p hp
  obtain ⟨pn, pc⟩ := p
  dsimp only at *
  obtain ⟨n, rfl⟩ : ∃ n : Nat, pn = (n : Int) := ⟨pn.toNat, by omega⟩
  obtain ⟨c, rfl⟩ : ∃ c : Nat, pc = (c : Int) := ⟨pc.toNat, by omega⟩
  obtain ⟨C, C0, C1, kc⟩ := new_nonce hg hw hi h0 hf c (by omega) (by omega) q7
  have hAn : Any is n := by
    obtain ⟨m, e, _, _, _, h4⟩ := mem_fresh.1 q6
    obtain rfl : n = m := by omega
    exact (any_iff (by omega) (by omega)).2 h4
  obtain ⟨X, X0, X1, kn⟩ := new_nonce hg hw hi h0 hf n (by omega) (by omega) hAn
  refine ⟨n, c, C, X, rfl, by omega, by omega, by omega, q6, q7, ⟨C0, C1⟩, ⟨X0, X1⟩, kc, kn, ?_⟩
  unfold tellOne
  simp only [Int.toNat_natCast]
  rw [kc, kn]
  exact tell_str C n X ⟨C0, C1⟩ ⟨X0, X1⟩
/-- With keys that may be nothing is refused. -/
theorem rekey_good (hg : Good k was) (hw : was < 65536) (hi : is < 65536) (h0 : 0 ≤ first) (hf : first + 15 ≤ 65535) :
    rekeyF (was : Int) (is : Int) k first = (newKeys (is : Int) (freshI (was : Int) (is : Int)) k first, (pairsL (is : Int) (freshI (was : Int) (is : Int))).map (fun p => (tellOne (newKeys (is : Int) (freshI (was : Int) (is : Int)) k first) p).1), 0) := by
  unfold rekeyF
  have hfl := fresh_len (was : Int) (is : Int)
  rw [if_neg, if_neg (by omega), if_neg]
  · rw [List.any_eq_true]
    rintro ⟨p, hp, hb⟩
    obtain ⟨n, c, C, X, st⟩ := step_ok hg hw hi h0 hf p hp
    rw [st.told] at hb
    simp at hb
  · rw [List.any_eq_true]
    rintro ⟨p, hp, hb⟩
    obtain ⟨n, c, C, X, st⟩ := step_ok hg hw hi h0 hf p hp
    have hc := st.kc
    have hk := st.kid
    have h2 := st.n2
    have h1 := st.n1
    rw [st.eq] at hb
    unfold lackOne at hb
    simp only [Int.toNat_natCast, Bool.and_eq_true, Bool.not_eq_true', decide_eq_true_eq] at hb
    have hm : ¬ (c : Int) ∈ freshI (was : Int) (is : Int) := by
      intro h
      rw [← List.contains_iff_mem] at h
      rw [h] at hb
      exact absurd hb.1 (by decide)
    rw [new_key _ _ (fresh_range _ _) (fresh_nodup _ _) k first c (by omega), if_neg hm, if_pos ⟨by omega, st.any⟩] at hc
    rw [hc] at hb
    exact hb.2 (nonce_check C st.C0.1 st.C0.2)
theorem good_next (hg : Good k was) (hw : was < 65536) (hi : is < 65536) (h0 : 0 ≤ first) (hf : first + 15 ≤ 65535) : Good (leafUp (newKeys (is : Int) (freshI (was : Int) (is : Int)) k first) 16) is :=
  ⟨leafUp_len _ (newKeys_len _ _ _ _) 16, fun n h1 h2 => by rw [leafUp_key _ (newKeys_len _ _ _ _) n h2 16 (Nat.le_refl _), if_pos (by omega)],
    fun n h1 h2 hA => by rw [leafUp_key _ (newKeys_len _ _ _ _) n (by omega) 16 (Nat.le_refl _), if_neg (by omega)]; exact new_nonce hg hw hi h0 hf n h1 (by omega) hA⟩

/-! ### Learning -/
def Off (id : Nat) (K : List ByteArray) : Prop := ∀ j, j < 32 → onP id j = false → key K j = ByteArray.empty
theorem learn_block (x : List ByteArray) {id : Nat} (hid : id < 16) (F : List Int) (n : Nat) (hn : n < 32) : ∀ q : List (Int × Int), (∀ p ∈ q, ∃ c C X, Step15 x is F p n c C X) → ∀ (K : List ByteArray) (m : Nat), K.length = 32 → Off id K →
    ∃ K' m', (q.map (fun p => (tellOne x p).1)).foldl learnStep (K, m) = (K', m') ∧ K'.length = 32 ∧ (∀ j, j < 32 → j ≠ n → key K' j = key K j) ∧ (key K' n = key K n ∨ (onP id n = true ∧ key K' n = key x n)) ∧ ((∃ c : Nat, ((n : Int), (c : Int)) ∈ q ∧ key K c = key x c) → key K' n = key x n) := by
  intro q
  induction q with
  | nil => intro _ K m hl ho; exact ⟨K, m, rfl, hl, fun _ _ _ => rfl, .inl rfl, fun ⟨c, h, _⟩ => by cases h⟩
  | cons p q ih =>
    intro hq K m hl ho
    obtain ⟨c, C, X, st⟩ := hq p (List.mem_cons_self ..)
    have hq2 : ∀ p ∈ q, ∃ c C X, Step15 x is F p n c C X := fun p hp => hq p (List.mem_cons_of_mem _ hp)
    have n1 := st.n1
    have n2 := st.n2
    have hw := way_at hid
    rcases learn_told K m C X st.C0 st.X0 n n1 n2 with ⟨hop, hst⟩ | ⟨hop, hst⟩
    · have hon : onP id n = true := by
        rcases hop with h | h
        · have hc : onP id (2 * n) = true := by
            cases hh : onP id (2 * n) with
            | true => rfl
            | false => rw [ho _ (by omega) hh] at h; exact absurd h.symm (nonce_ne C st.C0.1 st.C0.2)
          have := (hw.2.2 (2 * n) (by omega)).1 hc (by omega)
          rwa [show 2 * n / 2 = n by omega] at this
        · have hc : onP id (2 * n + 1) = true := by
            cases hh : onP id (2 * n + 1) with
            | true => rfl
            | false => rw [ho _ (by omega) hh] at h; exact absurd h.symm (nonce_ne C st.C0.1 st.C0.2)
          have := (hw.2.2 (2 * n + 1) (by omega)).1 hc (by omega)
          rwa [show (2 * n + 1) / 2 = n by omega] at this
      have hks := fun j => key_set K hl n hn (nonceN X) j
      have ho2 : Off id (K.set n (nonceN X)) := by
        intro j hj hf
        rw [hks, if_neg (by intro e; rw [e, hon] at hf; cases hf)]
        exact ho j hj hf
      obtain ⟨K', m', e1, e2, e3, e4, e5⟩ := ih hq2 (K.set n (nonceN X)) (learnStep (K, m) (tTm C (n : Int) X).str).2 (by rw [List.length_set]; exact hl) ho2
      have hkn : key K' n = key x n := by
        rcases e4 with h | h
        · rw [h, hks, if_pos rfl, st.kn]
        · exact h.2
      refine ⟨K', m', ?_, e2, fun j hj hne => by rw [e3 j hj hne, hks, if_neg hne], .inr ⟨hon, hkn⟩, fun _ => hkn⟩
      rw [List.map_cons, List.foldl_cons, st.told]
      have : learnStep (K, m) (tTm C (n : Int) X).str = (K.set n (nonceN X), (learnStep (K, m) (tTm C (n : Int) X).str).2) := Prod.ext hst rfl
      rw [this]
      exact e1
    · obtain ⟨K', m', e1, e2, e3, e4, e5⟩ := ih hq2 K (learnStep (K, m) (tTm C (n : Int) X).str).2 hl ho
      refine ⟨K', m', ?_, e2, e3, e4, ?_⟩
      · rw [List.map_cons, List.foldl_cons, st.told]
        have : learnStep (K, m) (tTm C (n : Int) X).str = (K, (learnStep (K, m) (tTm C (n : Int) X).str).2) := Prod.ext hst rfl
        rw [this]
        exact e1
      · rintro ⟨c2, hm, hk⟩
        rcases List.mem_cons.1 hm with e | hm
        · exfalso
          have e2 := st.eq.symm.trans e.symm
          have e3 : c = c2 := by injection e2 with _ e2; omega
          subst e3
          apply hop
          rw [st.kc] at hk
          rcases st.kid with e | e
          · exact .inl (e ▸ hk)
          · exact .inr (e ▸ hk)
        · exact e5 ⟨c2, hm, hk⟩
theorem learn_members {x : List ByteArray} {id : Nat} (hid : id < 16) (hi : is < 65536) (hb : bit is id = true) (F : List Int) (hF : F.Pairwise (· > ·)) (hst : ∀ p ∈ pairsL (is : Int) F, ∃ n c C X, Step15 x is F p n c C X) (hr : ∀ n ∈ F, 1 ≤ n ∧ n ≤ 15) : ∀ (F2 F1 : List Int), F = F1 ++ F2 → ∀ (K : List ByteArray) (m : Nat), K.length = 32 → Off id K → (∀ j, j < 32 → onP id j = true → (¬ (j : Int) ∈ F ∨ (j : Int) ∈ F1) → key K j = key x j) →
    ∃ K' m', ((pairsL (is : Int) F2).map (fun p => (tellOne x p).1)).foldl learnStep (K, m) = (K', m') ∧ K'.length = 32 ∧ Off id K' ∧ (∀ j, j < 32 → onP id j = true → key K' j = key x j) := by
  intro F2
  induction F2 with
  | nil =>
    intro F1 he K m hl ho hk
    rw [List.append_nil] at he
    refine ⟨K, m, rfl, hl, ho, fun j hj hon => hk j hj hon ?_⟩
    rw [he]
    exact (Classical.em _).symm
  | cons nI F2 ih =>
    intro F1 he K m hl ho hk
    have hnr := hr nI (by rw [he]; simp)
    obtain ⟨n, rfl⟩ : ∃ n : Nat, nI = (n : Int) := ⟨nI.toNat, by omega⟩
    have hsub : ∀ p ∈ kidsL (is : Int) (n : Int), p ∈ pairsL (is : Int) F := by
      intro p hp
      unfold pairsL
      rw [List.mem_flatMap]
      exact ⟨(n : Int), by rw [he]; simp, hp⟩
    have hq : ∀ p ∈ kidsL (is : Int) (n : Int), ∃ c C X, Step15 x is F p n c C X := by
      intro p hp
      obtain ⟨n2, c, C, X, st⟩ := hst p (hsub p hp)
      have hp1 : p.1 = (n : Int) := by
        unfold kidsL kid at hp
        rw [List.mem_append] at hp
        rcases hp with hp | hp
        · split at hp
          · cases hp
          · rw [List.mem_singleton.1 hp]
        · split at hp
          · cases hp
          · rw [List.mem_singleton.1 hp]
      have e : n2 = n := by rw [st.eq] at hp1; exact Int.ofNat.inj hp1
      subst e
      exact ⟨c, C, X, st⟩
    obtain ⟨K1, m1, e1, e2, e3, e4, e5⟩ := learn_block x hid F n (by omega) (kidsL (is : Int) (n : Int)) hq K m hl ho
    have hw := way_at hid
    have ho1 : Off id K1 := by
      intro j hj hf
      by_cases hjn : j = n
      · subst hjn
        rcases e4 with h | h
        · rw [h]; exact ho j hj hf
        · rw [h.1] at hf; cases hf
      · rw [e3 j hj hjn]; exact ho j hj hf
    have hpw := hF
    rw [he, List.pairwise_append, List.pairwise_cons] at hpw
    have hk1 : ∀ j, j < 32 → onP id j = true → (¬ (j : Int) ∈ F ∨ (j : Int) ∈ F1 ++ [(n : Int)]) → key K1 j = key x j := by
      intro j hj hon hor
      by_cases hjn : j = n
      · subst hjn
        apply e5
        have hkid : ∃ c, c < 32 ∧ (c = 2 * j ∨ c = 2 * j + 1) ∧ onP id c = true := by
          rcases (hw.2.2 j hj).2.1 hon (by omega) (by omega) with h | h
          · exact ⟨2 * j, by omega, .inl rfl, h⟩
          · exact ⟨2 * j + 1, by omega, .inr rfl, h⟩
        obtain ⟨c, hc, hcc, hco⟩ := hkid
        have hA : belowI (is : Int) (c : Int) ≠ 0 := any_path hi hid hb (by omega) hc hco
        refine ⟨c, ?_, hk c hc hco ?_⟩
        · unfold kidsL kid
          rw [List.mem_append]
          rcases hcc with e | e
          · left
            rw [show 2 * (j : Int) = (c : Int) by omega, if_neg hA]
            exact List.mem_singleton.2 rfl
          · right
            rw [show 2 * (j : Int) + 1 = (c : Int) by omega, if_neg hA]
            exact List.mem_singleton.2 rfl
        · by_cases hm : (c : Int) ∈ F
          · right
            rw [he, List.mem_append, List.mem_cons] at hm
            rcases hm with h | h | h
            · exact h
            · omega
            · have := hpw.2.1.1 _ h
              omega
          · exact .inl hm
      · rw [e3 j hj hjn]
        refine hk j hj hon ?_
        rcases hor with h | h
        · exact .inl h
        · rw [List.mem_append, List.mem_singleton] at h
          exact .inr (h.resolve_right (fun e => hjn (by omega)))
    obtain ⟨K', m', g1, g2, g3, g4⟩ := ih (F1 ++ [(n : Int)]) (by rw [he]; simp) K1 m1 e2 ho1 hk1
    refine ⟨K', m', ?_, g2, g3, g4⟩
    have hfc : pairsL (is : Int) ((n : Int) :: F2) = kidsL (is : Int) (n : Int) ++ pairsL (is : Int) F2 := rfl
    rw [hfc, List.map_append, List.foldl_append, e1]
    exact g1
/-- WHO IS A MEMBER HAS ALL KEYS ON ITS WAY BEHIND WHAT IS TOLD. -/
theorem members_learn (hg : Good k was) (hw : was < 65536) (hi : is < 65536) (h0 : 0 ≤ first) (hf : first + 15 ≤ 65535) {id : Nat} (hid : id < 16) (hb : bit is id = true) (mine : List ByteArray)
    (hm : mine = ownF k (pathI (id : Int)) ∧ bit was id = true ∨ mine = ownF leavesL (pathI (id : Int)) ∧ bit was id = false) :
    (learnF mine (rekeyF (was : Int) (is : Int) k first).2.1).1 = ownF (rekeyF (was : Int) (is : Int) k first).1 (pathI (id : Int)) ∧
      ∀ n : Nat, n < 32 → onP id n = true → key (rekeyF (was : Int) (is : Int) k first).1 n ≠ ByteArray.empty := by
  rw [rekey_good hg hw hi h0 hf]
  have hP : ∀ n ∈ pathI (id : Int), 0 ≤ n ∧ n ≤ 31 := fun n hn => by have := path_small hn; omega
  have hst := step_ok (first := first) hg hw hi h0 hf
  have hnn := fun n h1 hn hA => new_nonce (first := first) hg hw hi h0 hf n h1 hn hA
  have hnk := fun n hn => new_key (is : Int) (freshI (was : Int) (is : Int)) (fresh_range _ _) (fresh_nodup _ _) k first n hn
  dsimp only
  generalize newKeys (is : Int) (freshI (was : Int) (is : Int)) k first = x at hst hnn hnk ⊢
  have hwy := way_at hid
  have hml : mine.length = 32 := by rcases hm with h | h <;> rw [h.1] <;> exact ownF_len _ _
  have hoff : Off id mine := by
    intro j hj ho
    have ho' : ¬ (pathI (id : Int)).contains (j : Int) = true := by intro h; unfold onP at ho; rw [h] at ho; cases ho
    rcases hm with h | h <;> rw [h.1, ownF_key _ _ hP j hj, if_neg ho']
  have hon : ∀ j, j < 32 → onP id j = true → (¬ (j : Int) ∈ freshI (was : Int) (is : Int) ∨ (j : Int) ∈ ([] : List Int)) → key mine j = key x j := by
    intro j hj ho hor
    have hnf : ¬ (j : Int) ∈ freshI (was : Int) (is : Int) := by rcases hor with h | h; exact h; cases h
    have j1 : 1 ≤ j := by
      by_cases e : j = 0
      · subst e; rw [hwy.1] at ho; cases ho
      · omega
    have hA := any_path hi hid hb j1 hj ho
    rw [hnk j hj, if_neg hnf, if_pos ⟨j1, hA⟩]
    rcases hm with h | h
    · rw [h.1, ownF_key _ _ hP j hj, if_pos (show (pathI (id : Int)).contains (j : Int) = true from ho)]
    · rw [h.1, ownF_key _ _ hP j hj, if_pos (show (pathI (id : Int)).contains (j : Int) = true from ho)]
      by_cases h16 : 16 ≤ j
      · rw [good_leaves.leaf j h16 hj, hg.leaf j h16 hj]
      · exact absurd (fresh_path hw hi hid hb h.2 j1 (by omega) ho) hnf
  obtain ⟨K', m', e1, e2, e3, e4⟩ := learn_members hid hi hb (freshI (was : Int) (is : Int)) (fresh_falls _ _) hst (fresh_range _ _) (freshI (was : Int) (is : Int)) [] rfl mine 0 hml hoff hon
  refine ⟨?_, ?_⟩
  · unfold learnF
    rw [e1]
    refine key_ext e2 (ownF_len _ _) (fun j hj => ?_)
    rw [ownF_key _ _ hP j hj]
    cases ho : onP id j with
    | true => rw [if_pos (show (pathI (id : Int)).contains (j : Int) = true from ho)]; exact e4 j hj ho
    | false => rw [if_neg (by intro h; unfold onP at ho; rw [h] at ho; cases ho)]; exact e3 j hj ho
  · intro n hn ho
    have j1 : 1 ≤ n := by
      by_cases e : n = 0
      · subst e; rw [hwy.1] at ho; cases ho
      · omega
    obtain ⟨a, a0, a1, e⟩ := hnn n j1 hn (any_path hi hid hb j1 hn ho)
    rw [e]
    exact nonce_ne a a0 a1
end
end Go.Proofs.YtkmpfmhbkflgpaaGreatDoor.Pr

/- chantrytop's grown: its contract. -/
set_option linter.unusedVariables false
set_option linter.unusedSimpArgs false
namespace Go.Proofs.YtkmpfmhbkflgpaaGreatDoor.Pr
open Go.RowKit Go.Proofs.YtkmpfmhbkflgpaaGreatDoorW.PrintWords Go.Proofs.YtkmpfmhbkflgpaaGreatDoorW.PrintLast Go.Proofs.YtkmpfmhbkflgpaaGreatDoorW.PrintMore Go.Proofs.YtkmpfmhbkflgpaaGreatDoor.TT

def grownF (m : Int) : List ByteArray × Bool := (leafUp (rekeyF 0 m leavesL 2000).1 16, decide ((rekeyF 0 m leavesL 2000).2.2 = 0))
set_option maxHeartbeats 4000000 in
set_option maxRecDepth 100000 in
theorem grown_any (m : Nat) (hm : m < 65536) (w : World) (HT0 : TabAt w) :
    Calls Tryz.prog 5 #[.int .u16 (m : Int)] w fun e w' => e = .returned (.tuple #[KV (grownF m).1, .bool (grownF m).2]) ∧ RowKit.Below w.heap.size w w' := by
  have hz := zero30
  have hcz := cellsZ
  have hrk := fun w => rekey_any leavesL leaves_len 0 m (by decide) hm 2000 (by decide) w
  have hlen := rekeyF_len 0 m leavesL 2000
  have hg : grownF (m : Int) = (leafUp (rekeyF 0 m leavesL 2000).1 16, decide ((rekeyF 0 m leavesL 2000).2.2 = 0)) := rfl
  obtain ⟨X, hX⟩ : ∃ X, X = rekeyF 0 (m : Int) leavesL 2000 := ⟨_, rfl⟩
  simp only [show ((0 : Nat) : Int) = 0 from rfl, show ((2000 : Nat) : Int) = 2000 from rfl, ← hX] at hrk hlen hg
  rw [hg]
  clear hg hX
  obtain ⟨x, l, er⟩ := X
  simp only at hrk hlen
  go_enter Tryz.func5, Tryz.ntmps5
  have HR := Lib.hid (KA.new 28 w noKeys noKeys_len Z32 rfl)
  have HB := Lib.hid ((RowKit.Below.refl w.heap.size w).alloc (Nat.le_refl _) (.cells Z32 28))
  go_wp2_with fail
  generalize w.alloc (.cells Z32 28) = W at HR HB ⊢
  refine (leaves_any W).mono ?_
  rintro e w2 ⟨rfl, hb⟩
  have HR2 := Lib.hid (HR.out.after hb)
  have HB2 := Lib.hid (HB.out.trans (hb.mono HB.out.size))
  clear hb HR HB
  go_wp2_with fail
  refine (hrk w2 (TabAt.below HT0 (Nat.le_refl _) HB2.out)).mono ?_
  rintro e w3 ⟨v, rfl, hr, hb⟩
  have HR3 := Lib.hid (HR2.out.after hb)
  have HB3 := Lib.hid (HB2.out.trans (hb.mono HB2.out.size))
  clear hb HR2 HB2 hr hrk
  have HR4 := Lib.hid (HR3.out.alloc (.cells Z32 28))
  have HB4 := Lib.hid (HB3.out.alloc HB3.out.size (.cells Z32 28))
  have HO4 := Lib.hid (KA.new 28 w3 noKeys noKeys_len Z32 rfl)
  have hlo : w.heap.size < w3.heap.size := HR3.out.lt
  go_wp2_with (first | (refine wpList_store_row rfl 28 (.tmp 4) (.tmp 13) rfl _ _ rfl rfl _ _ HO4.out.1 (size_info _ x hlen s30) (by rw [KA.rowSize HO4.out.2, KA.rowSize hlen]) (one_string _) ?_; have HR := Lib.hid (HR4.out.setRow_other (show w.heap.size ≠ w3.heap.size by omega) (x.map Value.string).toArray); have HO := Lib.hid (HO4.out.row x hlen); have HB := Lib.hid (below_setRow HB4.out (show w.heap.size ≤ w3.heap.size by omega) (x.map Value.string).toArray); clear HR3 HB3 HR4 HB4 HO4; generalize (w3.alloc (.cells Z32 28)).setRow w3.heap.size (x.map Value.string).toArray = W4 at HR HO HB ⊢; generalize w3.heap.size = o at hlo HO ⊢))
  refine (leaves_any W4).mono ?_
  rintro e w5 ⟨rfl, hb⟩
  have HR5 := Lib.hid (HR.out.after hb); have HO5 := Lib.hid (HO.out.after hb)
  have HB5 := Lib.hid (HB.out.trans (hb.mono HB.out.size))
  clear hb HR HO HB
  have hol : o < w5.heap.size := HO5.out.lt
  have HR6 := Lib.hid (HR5.out.alloc (.cells Z32 28)); have HO6 := Lib.hid (HO5.out.alloc (.cells Z32 28))
  have HB6 := Lib.hid (HB5.out.alloc HB5.out.size (.cells Z32 28))
  have HL6 := Lib.hid (KA.new 28 w5 noKeys noKeys_len Z32 rfl)
  go_wp2_with (first | (refine wpList_store_row rfl 28 (.tmp 7) (.tmp 16) rfl _ _ rfl rfl _ _ HL6.out.1 (size_info _ leavesL leaves_len s30) (by rw [KA.rowSize HL6.out.2, KA.rowSize leaves_len]) (one_string _) ?_; have HR := Lib.hid (HR6.out.setRow_other (show w.heap.size ≠ w5.heap.size by omega) (leavesL.map Value.string).toArray); have HO := Lib.hid (HO6.out.setRow_other (show o ≠ w5.heap.size by omega) (leavesL.map Value.string).toArray); have HL := Lib.hid (HL6.out.row leavesL leaves_len); have HB := Lib.hid (below_setRow HB6.out (show w.heap.size ≤ w5.heap.size by omega) (leavesL.map Value.string).toArray); clear HR5 HO5 HB5 HR6 HO6 HB6 HL6; generalize (w5.alloc (.cells Z32 28)).setRow w5.heap.size (leavesL.map Value.string).toArray = W6 at HR HO HB HL ⊢; generalize w5.heap.size = lb at hol HL ⊢))
  clear hz hcz
  go_loopw [8] (fun i wr => ∃ j : Nat, j ≤ 16 ∧ i = .int .i64 ((16 + j : Nat) : Int) ∧ RowKit.Below w.heap.size w wr ∧ KA 28 wr w.heap.size noKeys ∧ KA 28 wr lb leavesL ∧ KA 28 wr o (leafUp x j)) (fun i _ => 32 - (intOf i).toNat)
  case atStart => exact ⟨0, Nat.zero_le _, rfl, HB.out, HR.out, HL.out, HO.out⟩
  case round =>
    clear HB HR HL HO
    obtain ⟨j, hj, rfl, hbel, hr, hl, ho⟩ := hrel
    have HB := Lib.hid hbel; have HR := Lib.hid hr; have HO := Lib.hid ho; have HL := Lib.hid hl
    clear hbel hr ho hl
    by_cases hlt : j < 16
    · have htk := Lib.hid (leafUp_succ x j)
      have hfo := HO.out.frozen (16 + j)
      have hco := HO.out.cell (j := 16 + j) (by omega)
      have hcl := HL.out.cell (j := 16 + j) (by omega)
      rw [good_leaves.leaf (16 + j) (by omega) (by omega), show 1000 + (16 + j) = 1016 + j by omega] at hcl
      go_wp2_with fail
      go_roundw
      case rel =>
        refine ⟨j + 1, by omega, by simp; omega, HB.out.setCell (p := ⟨o, 16 + j, none⟩) (show w.heap.size ≤ o by omega) _, HR.out.other _ _ (show w.heap.size ≠ o by omega), HL.out.other _ _ (show lb ≠ o by omega), ?_⟩
        rw [htk.out]; exact HO.out.set (16 + j) _
      case measure => simp [intOf]; omega
    · obtain rfl : j = 16 := by omega
      go_wp2_with (first | refine wpList_load_row rfl 28 (.tmp 4) rfl _ rfl _ _ _ _ HO.out.1 Tryz.underlying28 rfl (size_info _ _ HO.out.2 s30) ?_ | refine wpList_store_row rfl 28 (.tmp 2) (.tmp 26) rfl _ _ rfl rfl _ _ HR.out.1 (size_info _ _ HO.out.2 s30) (by rw [KA.rowSize HR.out.2, KA.rowSize HO.out.2]) (one_string _) ?_)
      have hfin := HR.out.row _ HO.out.2
      refine bodyPost_ret (results_cell_row1 rfl _ _ _ _ _ _ _ rfl hfin.1 Tryz.underlying28 rfl (size_info _ _ hfin.2 s30)) rfl ?_
      exact ⟨rfl, below_setRow HB.out (by omega) _⟩
theorem grown_good (m : Nat) (hm : m < 65536) : (grownF (m : Int)).2 = true ∧ Good (grownF (m : Int)).1 m := by
  have h := rekey_good (first := 2000) good_leaves (by decide) hm (by decide) (by decide)
  have h2 := good_next (first := 2000) good_leaves (by decide) hm (by decide) (by decide)
  rw [show ((0 : Nat) : Int) = 0 from rfl] at h h2
  unfold grownF
  rw [h]
  dsimp only
  exact ⟨decide_eq_true rfl, h2⟩
end Go.Proofs.YtkmpfmhbkflgpaaGreatDoor.Pr
