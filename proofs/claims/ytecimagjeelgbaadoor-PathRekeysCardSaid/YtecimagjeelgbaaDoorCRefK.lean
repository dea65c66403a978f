import Derived.Test.YtecimagjeelgbaaDoorCLearn
import Derived.Test.YtecimagjeelgbaaDoorCGood
/- The reference's lacks: its contract. -/
set_option linter.unusedVariables false
set_option linter.unusedSimpArgs false
namespace Go.Proofs.YtecimagjeelgbaaDoor.Pr
open Go.RowKit Go.Proofs.YtecimagjeelgbaaDoorW.PrintWords Go.Proofs.YtecimagjeelgbaaDoorW.PrintLast Go.Proofs.YtecimagjeelgbaaDoorW.PrintMore Go.Proofs.YtecimagjeelgbaaDoor.TT

theorem rcheck_calls (s : ByteArray) (w : World) :
    Calls Tryd.prog 52 #[.string s] w fun e w' => e = .returned (.int .i64 (check s)) ∧ RowKit.Below w.heap.size w w' :=
  (chantryref03_Check.calls 3000 s _ w (Ev03.check_spec 3000 (Nat.le_refl _) s)).mono (fun e w' h => ⟨h.1, by first | exact h.2 | exact h.2.below⟩)
theorem read_rstep {w : World} {A : Option Addr} {S : List (Int × Int)} {n : Nat} (h : Kd.C k71 w A n (S.map m37)) (hn : n = S.length) (j : Nat) (hj : j < S.length) :
    ∃ ad : Addr, A = some ad ∧ w.cell? (ad.add (j * 2)) = some (.int .i64 S[j].1) ∧ w.cell? ⟨(ad.add (j * 2)).block, (ad.add (j * 2)).off + 1, none⟩ = some (.int .i64 S[j].2) := by
  obtain ⟨ad, e, h0, h1⟩ := at_T71 h (j : Int) (by omega) (by omega)
  have hr : rd_T71 (S.map m37) (j : Int) = m37 S[j] := by unfold rd_T71; simp [hj]
  rw [hr, Int.toNat_natCast] at h0 h1
  exact ⟨ad, e, h0, h1⟩
set_option maxHeartbeats 4000000 in
set_option maxRecDepth 100000 in
theorem lacks_any (ks : List ByteArray) (hl : ks.length = 32) (F : List Int) (hF : F.length ≤ 15) (S : List (Int × Int)) (hS : S.length ≤ 100) (hpr0 : ∀ p ∈ S, 0 ≤ p.2 ∧ p.2 ≤ 31) (Af : Option Addr) (cf : Nat) (As : Option Addr) (cs : Nat) (w : World) (hf : Kd.C (Kd.int .i64) w Af F.length F) (hcf : F.length ≤ cf) (hs : Kd.C k71 w As S.length (S.map m37)) :
    Calls Tryd.prog 30 #[.slice As S.length cs, .slice Af F.length cf, KV ks] w fun e w' => e = .returned (.bool (S.any (lackOne F ks))) ∧ RowKit.Below w.heap.size w w' := by
  have hca := cells_agg ks
  have hpr := Lib.hid hpr0
  have HF := Lib.hid hf; have HS := Lib.hid hs
  clear hpr0 hf hs
  unfold KV
  go_enter Tryd.func30, Tryd.ntmps30
  have HK := Lib.hid (KA.new 27 w ks hl (ks.map Value.string).toArray rfl)
  have HB := Lib.hid ((RowKit.Below.refl w.heap.size w).alloc (Nat.le_refl _) (.cells (ks.map Value.string).toArray 27))
  go_wp2_with fail
  generalize w.alloc (.cells (ks.map Value.string).toArray 27) = W at HK HB ⊢
  go_loopw [7] (fun i wr => ∃ j : Nat, j ≤ S.length ∧ i = .int .i64 j ∧ (S.take j).any (lackOne F ks) = false ∧ RowKit.Below w.heap.size w wr ∧ KA 27 wr w.heap.size ks) (fun i _ => S.length - (intOf i).toNat)
  case atStart => exact ⟨0, Nat.zero_le _, rfl, rfl, HB.out, HK.out⟩
  case round =>
    clear HB HK
    obtain ⟨j, hj, rfl, hany, hbel, hk⟩ := hrel
    have HB := Lib.hid hbel; have HK := Lib.hid hk
    clear hbel hk
    by_cases hlt : j < S.length
    · obtain ⟨ad, e1, e2, e3⟩ := read_rstep (Kd.C_below HS.out HB.out) rfl j hlt
      have hp := hpr.out S[j] (List.getElem_mem hlt)
      subst e1
      have hlo : lackOne F ks S[j] = (!F.contains S[j].2 && decide (check (key ks S[j].2.toNat) ≠ 0)) := rfl
      obtain ⟨cd, hcd⟩ : ∃ cd : Nat, S[j].2 = (cd : Int) := ⟨S[j].2.toNat, by omega⟩
      rw [hcd] at e3 hlo hp
      rw [Int.toNat_natCast] at hlo
      have hc2 : cd ≤ 31 := by omega
      have HLO := Lib.hid hlo
      clear hlo hp hcd
      go_wp2_with fail
      refine (place_calls Af cf F (by omega) cd wr (Kd.C_below HF.out HB.out) hcf).mono ?_
      rintro e w4 ⟨rfl, hd⟩
      have HB3 := Lib.hid (HB.out.trans (hd.below.mono HB.out.size)); have HK3 := Lib.hid (HK.out.after hd.below)
      clear HB HK hd
      by_cases hc : F.contains (cd : Int) = true
      · have hpl : ¬ placeI F (cd : Int) < 0 := by unfold placeI; rw [if_pos hc]; omega
        generalize placeI F (cd : Int) = pl at hpl ⊢
        go_wp2_with fail
        go_roundw
        case rel => exact ⟨j + 1, by omega, by simp, any_take S _ j hlt hany (by rw [HLO.out, hc]; rfl), HB3.out, HK3.out⟩
        case measure => simp [intOf]; omega
      · have hpl : placeI F (cd : Int) = -1 := by unfold placeI; rw [if_neg hc]
        rw [hpl]
        have hck := HK3.out.cell (j := cd) (by omega)
        go_wp2_with fail
        refine (rcheck_calls _ w4).mono ?_
        rintro e w5 ⟨rfl, hb⟩
        have HB4 := Lib.hid (HB3.out.trans (hb.mono HB3.out.size)); have HK4 := Lib.hid (HK3.out.after hb)
        clear hb hck HB3 HK3
        by_cases h0 : check (key ks cd) = 0
        · rw [h0]
          go_wp2_with fail
          go_roundw
          case rel => exact ⟨j + 1, by omega, by simp, any_take S _ j hlt hany (by rw [HLO.out, h0]; simp), HB4.out, HK4.out⟩
          case measure => simp [intOf]; omega
        · have hno := Lib.hid (any_at S (lackOne F ks) j hlt (by rw [HLO.out, Bool.eq_false_iff.mpr hc]; simpa using h0))
          go_wp2_with fail
          go_ret
          rw [hno.out]
          exact ⟨rfl, HB4.out⟩
    · obtain rfl : j = S.length := by omega
      rw [List.take_length] at hany
      go_wp2_with fail
      go_ret
      rw [hany]
      exact ⟨rfl, HB.out⟩
end Go.Proofs.YtecimagjeelgbaaDoor.Pr

/- The reference's Rekey: its contract. -/
set_option linter.unusedVariables false
set_option linter.unusedSimpArgs false
namespace Go.Proofs.YtecimagjeelgbaaDoor.Pr
open Go.RowKit Go.Proofs.YtecimagjeelgbaaDoorW.PrintWords Go.Proofs.YtecimagjeelgbaaDoorW.PrintLast Go.Proofs.YtecimagjeelgbaaDoorW.PrintMore Go.Proofs.YtecimagjeelgbaaDoor.TT

/-- What stays in Rekey's world: the box of the keys, the result's cell, the new keys' numbers and the steps. -/
structure RR (w0 : World) (ks : List ByteArray) (F : List Int) (S : List (Int × Int)) (Af : Option Addr) (cf : Nat) (As : Option Addr) (cs : Nat) (w : World) : Prop where
  bel : RowKit.Below w0.heap.size w0 w
  k : KA 27 w w0.heap.size ks
  r : KA 27 w (w0.heap.size + 1) noKeys
  f : Kd.R (Kd.int .i64) 3 w w0.heap.size (fun _ => True) (.slice Af F.length cf) F
  s : Kd.R k71 71 w w0.heap.size (fun _ => True) (.slice As (S.map m37).length cs) (S.map m37)
theorem RR.after {w0 : World} {ks : List ByteArray} {F : List Int} {S : List (Int × Int)} {Af : Option Addr} {cf : Nat} {As : Option Addr} {cs : Nat} {w w' : World} (h : RR w0 ks F S Af cf As cs w) (hb : RowKit.Below w.heap.size w w') : RR w0 ks F S Af cf As cs w' :=
  ⟨h.bel.trans (hb.mono h.bel.size), h.k.after hb, h.r.after hb, Kd.R_below h.f hb, Kd.R_below h.s hb⟩
theorem RR.alloc {w0 : World} {ks : List ByteArray} {F : List Int} {S : List (Int × Int)} {Af : Option Addr} {cf : Nat} {As : Option Addr} {cs : Nat} {w : World} (h : RR w0 ks F S Af cf As cs w) (o : Obj) : RR w0 ks F S Af cf As cs (w.alloc o) := h.after ((RowKit.Below.refl _ _).alloc (Nat.le_refl _) o)
theorem RR.drewN {w0 : World} {ks : List ByteArray} {F : List Int} {S : List (Int × Int)} {Af : Option Addr} {cf : Nat} {As : Option Addr} {cs : Nat} {w : World} (h : RR w0 ks F S Af cf As cs w) (m : Nat) : RR w0 ks F S Af cf As cs (w.drewN m) := h.after (pw_below_drewN (RowKit.Below.refl _ _) m)
theorem RR.drew {w0 : World} {ks : List ByteArray} {F : List Int} {S : List (Int × Int)} {Af : Option Addr} {cf : Nat} {As : Option Addr} {cs : Nat} {w : World} (h : RR w0 ks F S Af cf As cs w) : RR w0 ks F S Af cf As cs w.drew := h.after ((RowKit.Below.refl _ _).drew)
/-- A new key is stored. -/
theorem RR.set {w0 : World} {ks : List ByteArray} {F : List Int} {S : List (Int × Int)} {Af : Option Addr} {cf : Nat} {As : Option Addr} {cs : Nat} {w : World} (h : RR w0 ks F S Af cf As cs w) {o : Nat} {x : List ByteArray} (hx : KA 27 w o x) (ho : w0.heap.size + 1 < o) (j : Nat) (v : Value) : RR w0 ks F S Af cf As cs (w.setCell ⟨o, j, none⟩ v) :=
  ⟨h.bel.setCell (p := ⟨o, j, none⟩) (show w0.heap.size ≤ o by omega) v, h.k.other _ _ (show w0.heap.size ≠ o by omega), h.r.other _ _ (show w0.heap.size + 1 ≠ o by omega),
    Kd.R_mono (Kd.R_set h.f hx.1 (by decide) j v) (fun _ _ => trivial), Kd.R_mono (Kd.R_set h.s hx.1 (by decide) j v) (fun _ _ => trivial)⟩
theorem zsize27 : (Tryd.prog.info? 27).map (·.size) = some Z32.size := size_info _ _ noKeys_len s27
theorem RR.grown {w0 : World} {ks : List ByteArray} {F : List Int} {S : List (Int × Int)} {Af : Option Addr} {cf : Nat} {As : Option Addr} {cs : Nat} {w w1 : World} {row : Option Nat} (h : RR w0 ks F S Af cf As cs w) (hg : w.grownBy w1 row) (hb : RowKit.Below w0.heap.size w0 w1) (hrow : ∀ k, row = some k → ∃ cells, w.heap[k]? = some (.cells cells 25 (0, 0))) : RR w0 ks F S Af cf As cs w1 :=
  ⟨hb, h.k.grown hg hrow (by decide), h.r.grown hg hrow (by decide),
    Kd.R_grown2 h.f rfl hg (fun k hk => by obtain ⟨c, hc⟩ := hrow k hk; exact Kd.R_ne h.f hc (by decide)),
    Kd.R_grown2 h.s rfl hg (fun k hk => by obtain ⟨c, hc⟩ := hrow k hk; exact Kd.R_ne h.s hc (by decide))⟩
theorem rowR_setRow27 {w : World} {base g : Nat} {ok : Nat → Prop} {v : Value} {xs : List ByteArray} {c : Array Value} (h : Kd.R Kd.string 25 w base ok v xs) (hg : w.heap[g]? = some (.cells c 27 (0, 0))) (cs : Array Value) : Kd.R Kd.string 25 (w.setRow g cs) base (fun _ => True) v xs :=
  Kd.R_mono (Kd.R_step (Kd.R_types h hg (by decide)) (fun k hk _ => by simp only [World.setRow, Array.getElem?_modify]; rw [if_neg (fun e => hk.2 e.symm)])) (fun _ _ => trivial)

/-! ### The reference's way to the new keys -/
def refOne (is : Int) (F : List Int) (ks : List ByteArray) (first : Int) (o : List ByteArray) (n : Nat) : List ByteArray :=
  if 0 ≤ placeI F (n : Int) then (baseOne is ks o n).set n (nonceN (first + placeI F (n : Int))) else baseOne is ks o n
def refUp (is : Int) (F : List Int) (ks : List ByteArray) (first : Int) (j : Nat) : List ByteArray := (List.range j).foldl (fun o i => refOne is F ks first o (1 + i)) noKeys
theorem refUp_succ (is : Int) (F : List Int) (ks : List ByteArray) (first : Int) (j : Nat) : refUp is F ks first (j + 1) = refOne is F ks first (refUp is F ks first j) (1 + j) := by unfold refUp; rw [List.range_succ, List.foldl_append]; rfl
theorem refOne_len {is : Int} {F : List Int} {ks o : List ByteArray} {first : Int} (ho : o.length = 32) (n : Nat) : (refOne is F ks first o n).length = 32 := by
  unfold refOne
  split
  · rw [List.length_set]; exact baseOne_len ho n
  · exact baseOne_len ho n
theorem refUp_len (is : Int) (F : List Int) (ks : List ByteArray) (first : Int) (j : Nat) : (refUp is F ks first j).length = 32 := by
  induction j with
  | zero => exact noKeys_len
  | succ j ih => rw [refUp_succ]; exact refOne_len ih _
theorem place_mem (F : List Int) (n : Int) : 0 ≤ placeI F n ↔ n ∈ F := by
  unfold placeI
  split
  · rename_i h; exact ⟨fun _ => List.contains_iff_mem.1 h, fun _ => by omega⟩
  · rename_i h; exact ⟨fun h2 => absurd h2 (by omega), fun h2 => absurd (List.contains_iff_mem.2 h2) h⟩
theorem place_idx {F : List Int} {n : Int} (h : n ∈ F) : placeI F n = (F.idxOf n : Int) := by
  unfold placeI
  rw [if_pos (List.contains_iff_mem.2 h)]
theorem ref_key (is : Int) (F : List Int) (ks : List ByteArray) (first : Int) (n : Nat) (hn : n < 32) : ∀ j, j ≤ 31 → key (refUp is F ks first j) n = if 1 ≤ n ∧ n ≤ j then (if (n : Int) ∈ F then nonceN (first + (F.idxOf (n : Int) : Int)) else if belowI is (n : Int) ≠ 0 then key ks n else ByteArray.empty) else ByteArray.empty := by
  intro j
  induction j with
  | zero => intro _; rw [if_neg (by omega)]; exact key_none n
  | succ j ih =>
    intro hj
    have ih := ih (by omega)
    have hb : key (baseOne is ks (refUp is F ks first j) (1 + j)) n = if n = 1 + j then (if belowI is (n : Int) ≠ 0 then key ks n else ByteArray.empty) else key (refUp is F ks first j) n := by
      unfold baseOne
      by_cases e : n = 1 + j
      · rw [if_pos e, e]
        by_cases hz : belowI is ((1 + j : Nat) : Int) = 0
        · rw [if_pos hz, if_neg (fun h => h hz), ← e, ih, if_neg (by omega)]
        · rw [if_neg hz, if_pos hz, key_set _ (refUp_len _ _ _ _ _) _ (by omega), if_pos rfl]
      · rw [if_neg e]
        split
        · rfl
        · rw [key_set _ (refUp_len _ _ _ _ _) _ (by omega), if_neg e]
    rw [refUp_succ]
    unfold refOne
    by_cases e : n = 1 + j
    · rw [if_pos (show 1 ≤ n ∧ n ≤ j + 1 by omega)]
      by_cases hm : 0 ≤ placeI F ((1 + j : Nat) : Int)
      · have hm2 := (place_mem F _).1 hm
        rw [if_pos hm, key_set _ (baseOne_len (refUp_len _ _ _ _ _) _) _ (by omega), if_pos e, e, if_pos hm2, place_idx hm2]
      · have hm2 : ¬ ((1 + j : Nat) : Int) ∈ F := fun h => hm ((place_mem F _).2 h)
        rw [if_neg hm, hb, if_pos e, e, if_neg hm2]
    · have e2 : (1 ≤ n ∧ n ≤ j + 1) ↔ (1 ≤ n ∧ n ≤ j) := by omega
      have hr : key (refUp is F ks first j) n = if 1 ≤ n ∧ n ≤ j + 1 then (if (n : Int) ∈ F then nonceN (first + (F.idxOf (n : Int) : Int)) else if belowI is (n : Int) ≠ 0 then key ks n else ByteArray.empty) else ByteArray.empty := by
        rw [ih]
        by_cases hc : 1 ≤ n ∧ n ≤ j
        · rw [if_pos hc, if_pos (e2.2 hc)]
        · rw [if_neg hc, if_neg (fun h => hc (e2.1 h))]
      split
      · rw [key_set _ (baseOne_len (refUp_len _ _ _ _ _) _) _ (by omega), if_neg e, hb, if_neg e]; exact hr
      · rw [hb, if_neg e]; exact hr
theorem ref_new (is : Int) (F : List Int) (hF : ∀ n ∈ F, 1 ≤ n ∧ n ≤ 15) (hnd : F.Nodup) (ks : List ByteArray) (first : Int) : refUp is F ks first 31 = newKeys is F ks first := by
  refine key_ext (refUp_len _ _ _ _ _) (newKeys_len _ _ _ _) (fun n hn => ?_)
  rw [ref_key is F ks first n hn 31 (Nat.le_refl _), new_key is F hF hnd ks first n hn]
  by_cases h0 : n = 0
  · rw [if_neg (by omega), if_neg (fun h => by have := hF _ h; omega), if_neg (by omega)]
  · rw [if_pos (by omega)]
    by_cases hm : (n : Int) ∈ F
    · rw [if_pos hm, if_pos hm]
    · rw [if_neg hm, if_neg hm]
      by_cases hb : belowI is (n : Int) ≠ 0
      · rw [if_pos hb, if_pos ⟨by omega, hb⟩]
      · rw [if_neg hb, if_neg (fun h => hb h.2)]
theorem rtold_calls (c : ByteArray) (n : Int) (x : ByteArray) (w : World) :
    Calls Tryd.prog 33 #[.string c, .int .i64 n, .string x] w fun e w' => e = .returned (.string (Ev03.tellOf c n x).1) ∧ RowKit.Below w.heap.size w w' :=
  (chantryref15_Told.calls 4000 c n x _ w (Ev03.rtell_spec 4000 (Nat.le_refl _) c n x)).mono (fun e w' h => ⟨h.1, by first | exact h.2 | exact h.2.below⟩)
theorem rnonce_calls (n : Int) (h0 : 0 ≤ n) (h1 : n < 65536) (w : World) :
    Calls Tryd.prog 32 #[.int .u16 n] w fun e w' => e = .returned (.string (nonceN n)) ∧ RowKit.Below w.heap.size w w' := by
  have e1 : IntKind.u16.wrap (Int.tdiv n 256) % 256 = n / 256 % 256 := by
    rw [Int.tdiv_eq_ediv_of_nonneg h0]
    have : IntKind.u16.wrap (n / 256) = n / 256 := by simp [IntKind.wrap, IntKind.bits, IntKind.signed]; omega
    rw [this]
  have e2 : Int.tmod n 256 % 256 = n % 256 := by rw [Int.tmod_eq_emod_of_nonneg h0]; omega
  have e : chantryref03_Nonce.f n = some (nonceN n) := by unfold chantryref03_Nonce.f nonceN; rw [e1, e2]
  exact (chantryref03_Nonce.calls n _ w e).mono (fun e w' h => ⟨h.1, by first | exact h.2 | exact h.2.below⟩)
end Go.Proofs.YtecimagjeelgbaaDoor.Pr
