import Derived.Test.YtkmpfmhbkflgpaaGreatDoorCKnowA
/- know: run. -/
set_option linter.unusedVariables false
set_option linter.unusedSimpArgs false
namespace Go.Proofs.YtkmpfmhbkflgpaaGreatDoor.Kw
open Go.RowKit Go.Maps Go.WideMaps Go.Proofs.YtkmpfmhbkflgpaaGreatDoorW.PrintWords Go.Proofs.YtkmpfmhbkflgpaaGreatDoorW.PrintWords.Kd

/-- What a pass does with a term that has the popped one as a part. -/
def St.whole (σ : St) (s : ByteArray) : St := if σ.has s = true then σ.split (b0 s) (PFg s.data.toList) else if (PFg s.data.toList).all σ.has = true then σ.get s else σ
def St.pass (IL : List UInt8 → List ByteArray) (σ : St) (t : ByteArray) (r : List ByteArray) : St := (IL t.data.toList).foldl St.whole ((⟨σ.H, r, σ.N⟩ : St).split (b0 t) (PFg t.data.toList))
def St.Fit (σ : St) : Prop := σ.N + 10 < 100000000 ∧ σ.todo.length + 10 ≤ 100000000
structure PassOk (a : Lk) (σ : St) (t : ByteArray) (r : List ByteArray) : Prop where
  ct : TT.check t = 0
  tU : t ∈ a.U
  ws : ∀ s ∈ a.IL t.data.toList, TT.check s = 0 ∧ s ∈ a.U
  wl : (a.IL t.data.toList).length ≤ 100000000
  fit0 : St.Fit ⟨σ.H, r, σ.N⟩
  fit : ∀ j, St.Fit (((a.IL t.data.toList).take j).foldl St.whole ((⟨σ.H, r, σ.N⟩ : St).split (b0 t) (PFg t.data.toList)))
/-- The queue without its first. -/
theorem slice_one (g off n cap : Nat) (w : World) : (Instr.slice 31 (.slice (some ⟨g, off, none⟩) (n + 1) (cap + 1)) (some (.int .i64 1)) none none).run Tryz.prog w = .ok (.slice (some ⟨g, if cap = 0 then off else off + 1, none⟩) n cap) w := by
  have hu := Tryz.underlying31
  by_cases h : cap = 0
  · subst h
    unfold Instr.slice
    go_simp
    intro hh; omega
  · have h2 : ¬ cap + 1 = 1 := by omega
    rw [if_neg h]
    unfold Instr.slice
    go_simp
    intro hh; omega
theorem KX.pop {X : Xs} {base wb bh bm bi : Nat} {w : World} {M I : List UInt8 → Option Value} {PF IL : List UInt8 → List ByteArray} {σ : St} {t : ByteArray} {r : List ByteArray} (h : KX X base wb bh bm bi w M I PF IL σ) (ht : σ.todo = t :: r) :
    ∃ g off o1 cap, w.cell? ⟨wb, 3, none⟩ = some (.slice (some ⟨g, off, none⟩) (r.length + 1) (cap + 1)) ∧ w.cell? ⟨g, off, none⟩ = some (.string t) ∧ w.frozen? ⟨wb, 3, none⟩ = false ∧
      (∀ W, (Instr.slice 31 (.slice (some ⟨g, off, none⟩) (r.length + 1) (cap + 1)) (some (.int .i64 1)) none none).run Tryz.prog W = .ok (.slice (some ⟨g, o1, none⟩) r.length cap) W) ∧
      KX X base wb bh bm bi (w.setCell ⟨wb, 3, none⟩ (.slice (some ⟨g, o1, none⟩) r.length cap)) M I PF IL ⟨σ.H, r, σ.N⟩ ∧ RowKit.Below base w (w.setCell ⟨wb, 3, none⟩ (.slice (some ⟨g, o1, none⟩) r.length cap)) := by
  obtain ⟨h0, tv, own, s⟩ := h
  have hq := s.q
  rw [ht] at hq
  obtain ⟨g, off, cap, rfl, hc, hbg, hr⟩ := hq.rest
  have hwb := s.bs.1
  have hr' : QRow base w (.slice (some ⟨g, if cap = 0 then off else off + 1, none⟩) r.length cap) r := by
    by_cases hz : cap = 0
    · rw [if_pos hz]
      rcases hr with ⟨q, _⟩ | ⟨g', off', cap', cur, q, q1, q2, q3, q4, q5⟩
      · cases q
      · injection q with e1 e2 e3
        injection e1 with e1
        injection e1 with e1 e4
        subst e1; subst e3; subst hz
        have hrl : r = [] := List.eq_nil_of_length_eq_zero (by omega)
        subst hrl
        exact .inr ⟨g, off, 0, cur, rfl, q1, q2, Nat.le_refl _, by omega, fun j x hj => by simp at hj⟩
    · rw [if_neg hz]; exact hr
  obtain ⟨o1, ho1⟩ : ∃ o1, o1 = (if cap = 0 then off else off + 1) := ⟨_, rfl⟩
  have hsl := fun W => slice_one g off r.length cap W
  rw [← ho1] at hr' hsl
  refine ⟨g, off, o1, cap, s.st.cell.2.2.2, hc, blk_frozen s.st 3, hsl, ⟨by simpa using h0, .slice (some ⟨g, o1, none⟩) r.length cap, own, ?_⟩, (RowKit.Below.refl _ _).setCell (p := ⟨wb, 3, none⟩) hwb _⟩
  have k4 : ∀ b, b ≠ wb → (w.setCell ⟨wb, 3, none⟩ (.slice (some ⟨g, o1, none⟩) r.length cap)).heap[b]? = w.heap[b]? := fun b hb => Below.heap_setCell _ _ _ _ hb
  have ko : ∀ b, own b ≠ .o → b ≠ wb := fun b hb e => hb (by rw [e]; exact s.oo.1)
  refine ⟨blk_set s.st 3 _, s.h.same (k4 bh (fun e => s.ne.1 e.symm)), s.m.same (k4 bm (fun e => s.ne.2.1 e.symm)), s.i.same (k4 bi (fun e => s.ne.2.2.1 e.symm)), hr'.same fun b hb => k4 b (ko b ?_), ?_, ?_, ?_, ?_, s.oo, s.hv, s.ne, s.bs⟩
  · have : own b = .q := s.qo b (by simpa [Value.ownBlock] using hb)
    rw [this]; simp
  · intro b hb
    exact s.qo b (by simpa [Value.ownBlock] using hb)
  · intro k v hk
    obtain ⟨r1, r2⟩ := s.mr k v hk
    exact ⟨r1.same fun b hb => k4 b (ko b (by rw [r2 b hb]; simp)), r2⟩
  · intro k v hk
    obtain ⟨r1, r2⟩ := s.ir k v hk
    exact ⟨r1.same fun b hb => k4 b (ko b (by rw [r2 b hb]; simp)), r2⟩
  · intro k v hk
    obtain ⟨r1, r2⟩ := s.xr k v hk
    exact ⟨r1.same fun b hb => k4 b (ko b (by rw [r2 b hb]; simp)), r2⟩
theorem KX.empty {X : Xs} {base wb bh bm bi : Nat} {w : World} {M I : List UInt8 → Option Value} {PF IL : List UInt8 → List ByteArray} {σ : St} (h : KX X base wb bh bm bi w M I PF IL σ) (ht : σ.todo = []) :
    ∃ A c, w.cell? ⟨wb, 3, none⟩ = some (.slice A 0 c) := by
  obtain ⟨h0, tv, own, s⟩ := h
  obtain ⟨A, c, e⟩ := s.q.form
  rw [ht] at e
  exact ⟨A, c, by rw [s.st.cell.2.2.2, e]; rfl⟩
/-- The wholes of a part, as they are looked up: the row stays as long as the map's entries do. -/
theorem KX.wholes {X : Xs} {base wb bh bm bi : Nat} {w : World} {M I : List UInt8 → Option Value} {PF IL : List UInt8 → List ByteArray} {σ : St} (h : KX X base wb bh bm bi w M I PF IL σ) (hI : ∀ k, I k = none → IL k = []) (t : ByteArray) (ht : t.size ≤ maxLen) :
    ∃ A c, (Instr.lookup 124 (.map (some bi)) (.string t) false).run Tryz.prog w = .ok (.slice A (IL t.data.toList).length c) w ∧
      ∀ (w1 : World) (σ1 : St), KX X base wb bh bm bi w1 M I PF IL σ1 → ∀ j x, (IL t.data.toList)[j]? = some x → ∃ g off, A = some ⟨g, off, none⟩ ∧ w1.cell? ⟨g, off + j, none⟩ = some (.string x) := by
  obtain ⟨_, tv, own, s⟩ := h
  have hl := s.i.look Tryz.underlying124 (zeroS w) t ht
  cases hk : I t.data.toList with
  | none =>
    rw [hk] at hl
    rw [hI _ hk]
    exact ⟨_, _, hl, fun _ _ _ j x hj => by simp at hj⟩
  | some v =>
    rw [hk] at hl
    obtain ⟨A, c, rfl⟩ := (s.ir _ _ hk).1.form
    refine ⟨A, c, hl, fun w1 σ1 h1 j x hj => ?_⟩
    obtain ⟨_, tv1, own1, s1⟩ := h1
    obtain ⟨g, off, e, hc⟩ := (s1.ir _ _ hk).1.cellAt.2 j x hj
    exact ⟨g, off, e, hc⟩
theorem KX.parts {X : Xs} {base wb bh bm bi : Nat} {w : World} {M I : List UInt8 → Option Value} {PF IL : List UInt8 → List ByteArray} {σ : St} (h : KX X base wb bh bm bi w M I PF IL σ) (t : ByteArray) (ht : t.size ≤ maxLen) (hM : (M t.data.toList).isSome = true) :
    ∃ A c, (Instr.lookup 124 (.map (some bm)) (.string t) false).run Tryz.prog w = .ok (.slice A (PF t.data.toList).length c) w ∧
      ∀ (w1 : World) (σ1 : St), KX X base wb bh bm bi w1 M I PF IL σ1 → ∀ j x, (PF t.data.toList)[j]? = some x → ∃ g off, A = some ⟨g, off, none⟩ ∧ w1.cell? ⟨g, off + j, none⟩ = some (.string x) := by
  obtain ⟨_, tv, own, s⟩ := h
  have hl := s.m.look Tryz.underlying124 (zeroS w) t ht
  obtain ⟨v, hk⟩ := Option.isSome_iff_exists.1 hM
  rw [hk] at hl
  obtain ⟨A, c, rfl⟩ := (s.mr _ _ hk).1.form
  refine ⟨A, c, hl, fun w1 σ1 h1 j x hj => ?_⟩
  obtain ⟨_, tv1, own1, s1⟩ := h1
  obtain ⟨g, off, e, hc⟩ := (s1.mr _ _ hk).1.cellAt.2 j x hj
  exact ⟨g, off, e, hc⟩
theorem split_in {X : Xs} {base wb bh bm bi : Nat} {w : World} {M I : List UInt8 → Option Value} {IL : List UInt8 → List ByteArray} {σ : St} (h : KX X base wb bh bm bi w M I PFg IL σ) (t : ByteArray) (hc : TT.check t = 0) (hM : (M t.data.toList).isSome = true) (hf : σ.Fit) :
    Calls Tryz.prog 70 #[.pointer (some ⟨wb, 0, none⟩), .string t] w fun e w' => e = .returned (.tuple #[]) ∧ RowKit.Below base w w' ∧ KX X base wb bh bm bi w' M I PFg IL (σ.split (b0 t) (PFg t.data.toList)) := by
  obtain ⟨hz0, hz1⟩ := check_size hc
  obtain ⟨f1, f2⟩ := hf
  have := split_any h t (by unfold maxLen; omega) hz0 hM (fun x hx => by have := check_size (check_part hc hx); unfold maxLen; omega) (fun hk => parts_two hc (by rw [← b0_at t hz0]; exact hk)) (by omega) (by omega)
  rw [b0_at t hz0] at this
  exact this
set_option maxHeartbeats 4000000 in
set_option maxRecDepth 100000 in
theorem run_any {X : Xs} {base wb bh bm bi : Nat} {w : World} {a : Lk} (h : KU X base wb bh bm bi w a) (Inv : Nat → St → Prop) (n : Nat) (h0 : Inv n a.σ)
    (hstep : ∀ k σ t r, Inv k σ → σ.todo = t :: r → PassOk a σ t r ∧ ∃ k', k = k' + 1 ∧ Inv k' (σ.pass a.IL t r)) :
    Calls Tryz.prog 44 #[.pointer (some ⟨wb, 0, none⟩)] w fun e w' => e = .returned (.tuple #[]) ∧ RowKit.Below base w w' ∧ ∃ k σ, Inv k σ ∧ σ.todo = [] ∧ KU X base wb bh bm bi w' ⟨σ, a.U, a.IL⟩ := by
  obtain ⟨U, hU⟩ : ∃ U, U = a.U := ⟨_, rfl⟩
  have HK := Lib.hid h; have HS := Lib.hid hstep; have HI := Lib.hid h0
  clear h hstep h0
  go_enter Tryz.func44, Tryz.ntmps44
  go_wp2_with fail
  go_loopg [2] n (fun k _ wr => ∃ σ, Inv k σ ∧ RowKit.Below base w wr ∧ KU X base wb bh bm bi wr ⟨σ, a.U, a.IL⟩)
  case atStart => exact ⟨a.σ, HI.out, RowKit.Below.refl _ _, HK.out⟩
  case round =>
    obtain ⟨σ, hinv, hbel, hku⟩ := hrel
    obtain ⟨M, I, hkx, hM, hI⟩ := hku
    obtain ⟨tv, c0, c1, c2, c3⟩ := hkx.wat
    have HBEL := Lib.hid hbel; have HKX := Lib.hid hkx; have HM := Lib.hid hM; have HII := Lib.hid hI; have HINV := Lib.hid hinv
    clear hbel hkx hM hI hinv
    cases htd : σ.todo with
    | nil =>
      obtain ⟨A, c, hc3⟩ := HKX.out.empty htd
      clear c3
      go_wp2_with fail
      refine Great.bodyPost_end0 rfl rfl ?_
      exact ⟨rfl, HBEL.out, _, σ, HINV.out, htd, M, I, HKX.out, HM.out, HII.out⟩
    | cons t r =>
      obtain ⟨ok, k', rfl, hinv'⟩ := HS.out _ σ t r HINV.out htd
      have HOK := Lib.hid ok; have HINV' := Lib.hid hinv'
      clear hinv' ok
      obtain ⟨g, off, o1, cap, hc3, hc4, hf3, hsl, hkx1, hb1⟩ := HKX.out.pop htd
      have HKX1 := Lib.hid hkx1; have HB1 := Lib.hid (HBEL.out.trans hb1)
      clear hkx1 hb1 c3 HKX HBEL HINV HI
      have hsp := split_in HKX1.out t HOK.out.ct (by rw [HM.out t]; exact decide_eq_true HOK.out.tU) HOK.out.fit0
      go_wp2_with fail
      go_step3
      go_wp2_with (go_at_call 70; refine hsp.mono ?_; clear hsp; rintro e w2 ⟨rfl, hb2, hk2⟩)
      go_step3
      have hw := hk2.wholes HII.out t (by have := check_size HOK.out.ct; unfold maxLen; omega)
      obtain ⟨A, c, hlk, hrow⟩ := hw
      obtain ⟨tv2, c0, c1, c2, c3⟩ := hk2.wat
      have hwl := HOK.out.wl
      have HWS := Lib.hid HOK.out.ws
      have HFT := Lib.hid HOK.out.fit
      have HPASS := Lib.hid (show σ.pass a.IL t r = (a.IL t.data.toList).foldl St.whole ((⟨σ.H, r, σ.N⟩ : St).split (b0 t) (PFg t.data.toList)) from rfl)
      have HK2 := Lib.hid hk2; have HB2 := Lib.hid (HB1.out.trans hb2); have HROW := Lib.hid hrow
      clear hk2 hb2 hrow HB1 HKX1 hc3 hc4 hf3 hsl
      generalize hws : a.IL t.data.toList = ws at hlk hwl HWS HFT HPASS HROW
      generalize (⟨σ.H, r, σ.N⟩ : St).split (b0 t) (PFg t.data.toList) = σ1 at HK2 HFT HPASS
      obtain ⟨nw, hnw⟩ : ∃ nw, nw = ws.length := ⟨_, rfl⟩
      rw [← hnw] at hwl hlk
      have HNW := Lib.hid hnw
      clear hnw hws
      go_wp2_with fail
      have hstage : ∀ j x, ws[j]? = some x → (ws.take (j + 1)).foldl St.whole σ1 = ((ws.take j).foldl St.whole σ1).whole x := by
        intro j x hj
        obtain ⟨h1, rfl⟩ := List.getElem?_eq_some_iff.1 hj
        rw [List.take_succ_eq_append_getElem h1, List.foldl_append]; rfl
      have HSTG := Lib.hid hstage
      clear hstage
      obtain ⟨wo, hwo⟩ : ∃ wo : World, wo = wr := ⟨_, rfl⟩
      go_loopw [37] (fun i wq => ∃ j : Nat, j ≤ nw ∧ i = .int .i64 j ∧ RowKit.Below base w wq ∧ KX X base wb bh bm bi wq M I PFg a.IL ((ws.take j).foldl St.whole σ1)) (fun i _ => nw - (intOf i).toNat)
      case atStart => exact ⟨0, Nat.zero_le _, rfl, HB2.out, HK2.out⟩
      case round =>
        obtain ⟨j, hj, rfl, hbel, hk⟩ := hrel
        by_cases hjl : j < nw
        · obtain ⟨s, hs⟩ : ∃ s, ws[j]? = some s := ⟨_, List.getElem?_eq_getElem (by have := HNW.out; omega)⟩
          obtain ⟨g3, off3, rfl, hcl⟩ := HROW.out _ _ hk j s hs
          obtain ⟨hcs, hsU⟩ := HWS.out s (List.mem_of_getElem? hs)
          have hft := HFT.out j
          have hstg := HSTG.out j s hs
          have hszs := check_size hcs
          generalize (ws.take j).foldl St.whole σ1 = σ2 at hk hft hstg
          have HSTG2 := Lib.hid hstg
          have hms : (M s.data.toList).isSome = true := by rw [HM.out s]; exact decide_eq_true hsU
          have hhas := kx_has hk s (by unfold maxLen; omega)
          have HK := Lib.hid hk; have HBEL := Lib.hid hbel; have HCS := Lib.hid hcs
          clear hstg hk hbel hs hcs
          cases hb : σ2.has s with
          | true =>
            have hwh : σ2.whole s = σ2.split (b0 s) (PFg s.data.toList) := by unfold St.whole; rw [if_pos hb]
            rw [hb] at hhas
            have HWH := Lib.hid hwh
            clear hwh
            go_wp2_with (go_at_call 45; refine hhas.mono ?_; clear hhas; rintro e w3 ⟨rfl, hb3, hk3⟩; have HB3 := Lib.hid (HBEL.out.trans hb3); have HSP := Lib.hid (split_in hk3 s HCS.out hms hft); clear hb3 hk3)
            have hsp := HSP.out
            clear HSP
            go_wp2_with (go_at_call 70; refine hsp.mono ?_; clear hsp; rintro e w4 ⟨rfl, hb4, hk4⟩; have HB4 := Lib.hid (HB3.out.trans hb4); have HK4 := Lib.hid hk4; clear hb4 hk4)
            go_roundw
            case rel => exact ⟨j + 1, by omega, by simp, HB4.out, by rw [HSTG2.out, HWH.out]; exact HK4.out⟩
            case measure => simp [intOf]; omega
          | false =>
            have hpc := parts_count HCS.out
            obtain ⟨A4, c4, hlk4, hrow4⟩ := HK.out.parts s (by unfold maxLen; omega) hms
            have HPC := Lib.hid (fun p (hp : p ∈ PFg s.data.toList) => check_part HCS.out hp)
            have hwn : σ2.whole s = if (PFg s.data.toList).all σ2.has = true then σ2.get s else σ2 := by unfold St.whole; rw [if_neg (by rw [hb]; simp)]
            have HWN := Lib.hid hwn
            rw [hb] at hhas
            clear hwn hlk4
            have HROW4 := Lib.hid hrow4
            clear hrow4
            generalize hps : PFg s.data.toList = ps at hpc HROW4 HPC HWN
            obtain ⟨np, hnp⟩ : ∃ np, np = ps.length := ⟨_, rfl⟩
            rw [← hnp] at hpc
            have HNP := Lib.hid hnp; have HPS := Lib.hid hps
            clear hnp hps
            have HMS := Lib.hid hms
            clear hms
            go_wp2_with (go_at_call 45; refine hhas.mono ?_; clear hhas; rintro e w3 ⟨rfl, hb3, hk3⟩; have HB3 := Lib.hid (HBEL.out.trans hb3); have HK3 := Lib.hid hk3; clear hb3 hk3; obtain ⟨A5, c5, hlk5, hrow5⟩ := HK3.out.parts s (by unfold maxLen; omega) HMS.out; (rw [HPS.out, ← HNP.out] at hlk5); obtain ⟨tv3, c0, c1, c2, c3⟩ := HK3.out.wat; (rw [HPS.out] at hrow5); have HROW5 := Lib.hid hrow5; clear hrow5)
            clear hlk5 c0 c1 c2 c3 HK HBEL HROW4
            obtain ⟨w3', hw3⟩ : ∃ w3' : World, w3' = w3 := ⟨_, rfl⟩
            go_loopw [54] (fun i wq => ∃ q : Nat, q ≤ np ∧ i = .int .i64 q ∧ (∀ x ∈ ps.take q, σ2.has x = true) ∧ RowKit.Below base w wq ∧ KX X base wb bh bm bi wq M I PFg a.IL σ2) (fun i _ => np - (intOf i).toNat)
            case atStart => exact ⟨0, Nat.zero_le _, rfl, fun x hx => by simp at hx, HB3.out, HK3.out⟩
            case round =>
              obtain ⟨q, hq, rfl, hall, hbel, hk⟩ := hrel
              have HALL := Lib.hid hall; have HBEL := Lib.hid hbel; have HK := Lib.hid hk
              clear hall
              by_cases hql : q < np
              · obtain ⟨p, hp⟩ : ∃ p, ps[q]? = some p := ⟨_, List.getElem?_eq_getElem (by have := HNP.out; omega)⟩
                obtain ⟨g6, off6, rfl, hcl6⟩ := HROW5.out _ _ hk q p hp
                have hpz := check_size (HPC.out p (List.mem_of_getElem? hp))
                have hhp := kx_has hk p (by unfold maxLen; omega)
                have htk : ps.take (q + 1) = ps.take q ++ [p] := by
                  obtain ⟨h1, rfl⟩ := List.getElem?_eq_some_iff.1 hp
                  exact List.take_succ_eq_append_getElem h1
                have HTK := Lib.hid htk; have HP := Lib.hid hp
                clear htk hp hk hbel
                cases hbp : σ2.has p with
                | true =>
                  rw [hbp] at hhp
                  have HBP := Lib.hid hbp
                  clear hbp
                  go_wp2_with (go_at_call 45; refine hhp.mono ?_; clear hhp; rintro e w6 ⟨rfl, hb6, hk6⟩; have HB6 := Lib.hid (HBEL.out.trans hb6); have HK6 := Lib.hid hk6; clear hb6 hk6)
                  go_roundw
                  case rel =>
                    refine ⟨q + 1, by omega, by simp, fun x hx => ?_, HB6.out, HK6.out⟩
                    rw [HTK.out, List.mem_append, List.mem_singleton] at hx
                    rcases hx with hx | rfl
                    · exact HALL.out x hx
                    · exact HBP.out
                  case measure => simp [intOf]; omega
                | false =>
                  rw [hbp] at hhp
                  have hna : ¬ ps.all σ2.has = true := by
                    rw [List.all_eq_true]; intro h; rw [h p (List.mem_of_getElem? HP.out)] at hbp; cases hbp
                  have HNA := Lib.hid hna
                  clear hna hbp
                  go_wp2_with (go_at_call 45; refine hhp.mono ?_; clear hhp; rintro e w6 ⟨rfl, hb6, hk6⟩; have HB6 := Lib.hid (HBEL.out.trans hb6); have HK6 := Lib.hid hk6; clear hb6 hk6)
                  go_roundw
                  case rel => exact ⟨j + 1, by omega, by simp, HB6.out, by rw [HSTG2.out, HWN.out, if_neg HNA.out]; exact HK6.out⟩
                  case measure => simp [intOf]; omega
              · obtain rfl : q = np := by omega
                have hya : ps.all σ2.has = true := by
                  rw [List.all_eq_true]; intro x hx
                  exact HALL.out x (by rw [HNP.out, List.take_length]; exact hx)
                have hget := kx_get hk s (by unfold maxLen; omega) (by have := hft.1; omega) (by have := hft.2; omega)
                have HYA := Lib.hid hya
                clear hya hk hbel
                go_wp2_with (go_at_call 68; refine hget.mono ?_; clear hget; rintro e w6 ⟨rfl, hb6, hk6⟩; have HB6 := Lib.hid (HBEL.out.trans hb6); have HK6 := Lib.hid hk6; clear hb6 hk6)
                go_roundw
                case rel => exact ⟨j + 1, by omega, by simp, HB6.out, by rw [HSTG2.out, HWN.out, if_pos HYA.out]; exact HK6.out⟩
                case measure => simp [intOf]; omega
        · obtain rfl : j = nw := by omega
          rw [HNW.out, List.take_length, ← HPASS.out] at hk
          have HK := Lib.hid hk; have HBEL := Lib.hid hbel
          clear hk hbel
          go_wp2_with fail
          rw [Exit.noGoto_normal]
          go_wp2_with fail
          go_roundg k'
          case measure => omega
          case rel => exact ⟨_, HINV'.out, HBEL.out, M, I, HK.out, HM.out, HII.out⟩
end Go.Proofs.YtkmpfmhbkflgpaaGreatDoor.Kw

/- know: opened. -/
set_option linter.unusedVariables false
set_option linter.unusedSimpArgs false
namespace Go.Proofs.YtkmpfmhbkflgpaaGreatDoor.Kw
open Go.RowKit Go.Maps Go.WideMaps Go.Proofs.YtkmpfmhbkflgpaaGreatDoorW.PrintWords Go.Proofs.YtkmpfmhbkflgpaaGreatDoorW.PrintWords.Kd

/-- The first check that is not 0. -/
def errOf : List ByteArray → Int
  | [] => 0
  | s :: r => if TT.check s = 0 then errOf r else TT.check s
def Lk.start : Lk := ⟨⟨fun _ => none, [], 0⟩, [], fun _ => []⟩
def Lk.addT (a : Lk) (t : ByteArray) : Lk := a.look (TT.subsOf t).1
def Lk.getT (a : Lk) (s : ByteArray) : Lk := ⟨a.σ.get s, a.U, a.IL⟩
def Lk.adds (l : List ByteArray) : Lk := l.foldl Lk.addT Lk.start
def Lk.opened (l : List ByteArray) : Lk := l.foldl Lk.getT (Lk.adds l)
theorem start_fits : Lk.start.Fits := ⟨fun _ => Nat.le_refl _, Nat.le_refl _⟩
theorem errOf_ok {l : List ByteArray} : errOf l = 0 ↔ ∀ s ∈ l, TT.check s = 0 := by
  induction l with
  | nil => simp [errOf]
  | cons s r ih =>
    unfold errOf
    split
    · rename_i h; rw [ih]; simp [h]
    · rename_i h; simp [h]
theorem addT_ok (a : Lk) (h : a.Fits) (t : ByteArray) (ht : TT.check t = 0) : (a.addT t).Fits ∧ (a.addT t).σ.N ≤ a.σ.N + 8000 := by
  have h1 := a.look_N (TT.subsOf t).1 (fun x hx => check_subs ht hx)
  have h2 := subs_count ht
  exact ⟨h.look _ (fun x hx => check_subs ht hx), by unfold Lk.addT; omega⟩
theorem adds_ok (a : Lk) (h : a.Fits) (l : List ByteArray) (hl : ∀ s ∈ l, TT.check s = 0) : (l.foldl Lk.addT a).Fits ∧ (l.foldl Lk.addT a).σ.N ≤ a.σ.N + 8000 * l.length := by
  induction l generalizing a with
  | nil => exact ⟨h, by simp⟩
  | cons s r ih =>
    obtain ⟨h1, h2⟩ := addT_ok a h s (hl s List.mem_cons_self)
    obtain ⟨h3, h4⟩ := ih (a.addT s) h1 (fun x hx => hl x (List.mem_cons_of_mem _ hx))
    exact ⟨h3, by rw [List.foldl_cons, List.length_cons]; omega⟩
theorem getT_ok (a : Lk) (h : a.Fits) (s : ByteArray) : (a.getT s).Fits ∧ (a.getT s).σ.N ≤ a.σ.N + 1 := by
  have h1 := h.il
  have h2 := h.todo
  unfold Lk.getT St.get
  by_cases q : a.σ.has s = true
  · simp only [if_pos q]; exact ⟨h, by omega⟩
  · simp only [if_neg q]; exact ⟨⟨fun k => by have := h1 k; simp only; omega, by simp only [List.length_append, List.length_singleton]; omega⟩, Nat.le_refl _⟩
theorem gets_ok (a : Lk) (h : a.Fits) (l : List ByteArray) : (l.foldl Lk.getT a).Fits ∧ (l.foldl Lk.getT a).σ.N ≤ a.σ.N + l.length := by
  induction l generalizing a with
  | nil => exact ⟨h, by simp⟩
  | cons s r ih =>
    obtain ⟨h1, h2⟩ := getT_ok a h s
    obtain ⟨h3, h4⟩ := ih (a.getT s) h1
    exact ⟨h3, by rw [List.foldl_cons, List.length_cons]; omega⟩
theorem ku_get {X : Xs} {base wb bh bm bi : Nat} {w : World} {a : Lk} (h : KU X base wb bh bm bi w a) (hf : a.Fits) (t : ByteArray) (ht : t.size ≤ maxLen) (hN : a.σ.N + 10 < 100000000) :
    Calls Tryz.prog 68 #[.pointer (some ⟨wb, 0, none⟩), .string t] w fun e w' => e = .returned (.tuple #[]) ∧ RowKit.Below base w w' ∧ KU X base wb bh bm bi w' (a.getT t) := by
  obtain ⟨M, I, h1, h2, h3⟩ := h
  refine (kx_get h1 t ht (by omega) (by have := hf.todo; omega)).mono ?_
  rintro e w' ⟨rfl, hb, hk⟩
  exact ⟨rfl, hb, M, I, hk, h2, h3⟩
theorem ku_has {X : Xs} {base wb bh bm bi : Nat} {w : World} {a : Lk} (h : KU X base wb bh bm bi w a) (t : ByteArray) (ht : t.size ≤ maxLen) :
    Calls Tryz.prog 45 #[.pointer (some ⟨wb, 0, none⟩), .string t] w fun e w' => e = .returned (.bool (a.σ.has t)) ∧ RowKit.Below base w w' ∧ KU X base wb bh bm bi w' a := by
  obtain ⟨M, I, h1, h2, h3⟩ := h
  refine (kx_has h1 t ht).mono ?_
  rintro e w' ⟨rfl, hb, hk⟩
  exact ⟨rfl, hb, M, I, hk, h2, h3⟩
abbrev X0 : Xs := fun _ _ => False
/-- The new world: nothing in it. -/
theorem ku_start (w : World) : KU X0 w.heap.size (w.heap.size + 3) w.heap.size (w.heap.size + 1) (w.heap.size + 2)
    ((((w.alloc (.map #[] 0)).alloc (.map #[] 0)).alloc (.map #[] 0)).alloc (.cells #[.map (some w.heap.size), .map (some (w.heap.size + 1)), .map (some (w.heap.size + 2)), .slice none 0 0] 126 (0, 0))) Lk.start := by
  have e1 : (w.alloc (.map #[] 0)).heap.size = w.heap.size + 1 := by simp
  have e2 : ((w.alloc (.map #[] 0)).alloc (.map #[] 0)).heap.size = w.heap.size + 2 := by simp
  have e3 : (((w.alloc (.map #[] 0)).alloc (.map #[] 0)).alloc (.map #[] 0)).heap.size = w.heap.size + 3 := by simp
  have m1 := MapAt.made w
  have m2 := MapAt.made (w.alloc (.map #[] 0))
  have m3 := MapAt.made ((w.alloc (.map #[] 0)).alloc (.map #[] 0))
  rw [e1] at m2
  rw [e2] at m3
  have a1 := fun (W : World) (o : Obj) => (RowKit.Below.refl W.heap.size W).alloc (Nat.le_refl _) o
  refine ⟨fun _ => none, fun _ => none, ⟨by simp; omega, .slice none 0 0, fun _ => .o, ?_⟩, fun s => rfl, fun _ _ => rfl⟩
  refine ⟨?_, ((m1.below (a1 _ _)).below (a1 _ _)).below (a1 _ _), (m2.below (a1 _ _)).below (a1 _ _), m3.below (a1 _ _), QRow.nil _ _, ?_, ?_, ?_, ?_, ⟨rfl, rfl, rfl, rfl⟩, ?_, by omega, by omega⟩
  rotate_left
  · intro g hg; cases hg
  · intro k v hk; cases hk
  · intro k v hk; cases hk
  · intro v xs hk; exact hk.elim
  · intro k v hk; cases hk
  have := heap_alloc_new (((w.alloc (.map #[] 0)).alloc (.map #[] 0)).alloc (.map #[] 0)) (.cells #[.map (some w.heap.size), .map (some (w.heap.size + 1)), .map (some (w.heap.size + 2)), .slice none 0 0] 126 (0, 0))
  rw [e3] at this
  exact this
theorem alloc_below4 (w : World) (o1 o2 o3 o4 : Obj) : RowKit.Below w.heap.size w ((((w.alloc o1).alloc o2).alloc o3).alloc o4) :=
  ((((RowKit.Below.refl _ w).alloc (Nat.le_refl _) o1).alloc (by simp) o2).alloc (by simp; omega) o3).alloc (by simp; omega) o4
def OpenEnd (l : List ByteArray) (b : Nat) (e : Ending) (w' : World) : Prop :=
  if l.length > 200 then e = .returned (.tuple #[.pointer none, .int .i64 3]) else if errOf l = 0 then ∃ wb bh bm bi, e = .returned (.tuple #[.pointer (some ⟨wb, 0, none⟩), .int .i64 0]) ∧ KU X0 b wb bh bm bi w' (Lk.opened l)
    else e = .returned (.tuple #[.pointer none, .int .i64 (errOf l)])
theorem errOf_take {l : List ByteArray} {j : Nat} {s : ByteArray} (h : ∀ x ∈ l.take j, TT.check x = 0) (hs : l[j]? = some s) (hc : TT.check s ≠ 0) : errOf l = TT.check s := by
  induction l generalizing j with
  | nil => simp at hs
  | cons x r ih =>
    cases j with
    | zero => simp at hs; subst hs; unfold errOf; rw [if_neg hc]
    | succ j =>
      unfold errOf
      rw [if_pos (h x (by simp))]
      exact ih (j := j) (fun y hy => h y (by simp [hy])) (by simpa using hs)
set_option maxHeartbeats 4000000 in
set_option maxRecDepth 100000 in
theorem opened_any (A : Option Addr) (c : Nat) (l : List ByteArray) (w : World) (hr : Kd.C Kd.string w A l.length l) (hc : l.length ≤ c) :
    Calls Tryz.prog 42 #[.slice A l.length c] w fun e w' => RowKit.Below w.heap.size w w' ∧ OpenEnd l w.heap.size e w' := by
  by_cases hb : l.length > 200
  · have hb2 : (200 : Int) < (l.length : Int) := by omega
    have HBB := Lib.hid hb
    clear hr hc hb
    go_enter Tryz.func42, Tryz.ntmps42
    go_wp2_with fail
    go_ret2
    exact ⟨RowKit.Below.refl _ _, by unfold OpenEnd; rw [if_pos HBB.out]; rfl⟩
  · have HBB := Lib.hid hb
    have hb2 : ¬ (200 : Int) < (l.length : Int) := by omega
    have HKU := Lib.hid (ku_start w)
    have HB := Lib.hid (alloc_below4 w (.map #[] 0) (.map #[] 0) (.map #[] 0) (.cells #[.map (some w.heap.size), .map (some (w.heap.size + 1)), .map (some (w.heap.size + 2)), .slice none 0 0] 126 (0, 0)))
    have HR := Lib.hid hr
    have hn : l.length ≤ 200 := by omega
    have hcl : ∀ {W : World}, RowKit.Below w.heap.size w W → ∀ j x, l[j]? = some x → ∃ ad, A = some ad ∧ W.cell? (ad.add j) = some (.string x) := by
      intro W hW j x hj
      obtain ⟨h1, rfl⟩ := List.getElem?_eq_some_iff.1 hj
      obtain ⟨ad, h2, h3⟩ := Kd.at_string (Kd.C_below HR.out hW) (j : Int) (by omega) (by omega)
      refine ⟨ad, h2, ?_⟩
      rw [Int.toNat_natCast] at h3
      rw [h3]
      unfold rdOf
      simp [h1]
    have HCL := Lib.hid (fun W => @hcl W)
    clear hr hc hb hcl
    have hmm := @run_makeMap Tryz.prog
    go_enter Tryz.func42, Tryz.ntmps42
    go_wp2_with fail
    go_loopw [20] (fun i wr => ∃ j : Nat, j ≤ l.length ∧ i = .int .i64 j ∧ (∀ x ∈ l.take j, TT.check x = 0) ∧ RowKit.Below w.heap.size w wr ∧ KU X0 w.heap.size (w.heap.size + 3) w.heap.size (w.heap.size + 1) (w.heap.size + 2) wr ((l.take j).foldl Lk.addT Lk.start)) (fun i _ => l.length - (intOf i).toNat)
    case atStart => exact ⟨0, Nat.zero_le _, rfl, fun x hx => by simp at hx, HB.out, HKU.out⟩
    case round =>
      clear HKU HB
      obtain ⟨j, hj, rfl, hall, hbel, hku⟩ := hrel
      by_cases hjl : j < l.length
      · obtain ⟨s, hs⟩ : ∃ s, l[j]? = some s := ⟨_, List.getElem?_eq_getElem hjl⟩
        obtain ⟨ad, rfl, hcell⟩ := HCL.out _ hbel j s hs
        have hnx : (l.take (j + 1)).foldl Lk.addT Lk.start = ((l.take j).foldl Lk.addT Lk.start).addT s := by
          obtain ⟨_, rfl⟩ := List.getElem?_eq_some_iff.1 hs
          rw [List.take_succ_eq_append_getElem hjl, List.foldl_append]; rfl
        have htk : l.take (j + 1) = l.take j ++ [s] := by
          obtain ⟨_, rfl⟩ := List.getElem?_eq_some_iff.1 hs
          exact List.take_succ_eq_append_getElem hjl
        obtain ⟨hfit, hNb⟩ := adds_ok Lk.start start_fits (l.take j) hall
        have hN2 : ((l.take j).foldl Lk.addT Lk.start).σ.N + 10000 < 100000000 := by
          rw [List.length_take] at hNb
          have : Lk.start.σ.N = 0 := rfl
          omega
        have HL := Lib.hid (look_any hku hfit s hN2)
        have HBEL := Lib.hid hbel; have HALL := Lib.hid hall; have HS := Lib.hid hs; have HNX := Lib.hid hnx; have HTK := Lib.hid htk
        clear hbel hku hall hs hnx htk hNb hfit hN2
        by_cases hck : TT.check s = 0
        · have hlk := HL.out
          rw [hck] at hlk
          have HCK := Lib.hid hck
          clear HL hck
          go_wp2_with (go_at_call 43; refine hlk.mono ?_; clear hlk; rintro e w2 ⟨rfl, hb2, hk2⟩; have HB2 := Lib.hid (HBEL.out.trans hb2); have HK2 := Lib.hid (hk2 rfl); clear hb2 hk2)
          go_roundw
          case rel =>
            refine ⟨j + 1, by omega, by simp, fun x hx => ?_, HB2.out, by rw [HNX.out]; exact HK2.out⟩
            rw [HTK.out, List.mem_append, List.mem_singleton] at hx
            rcases hx with hx | rfl
            · exact HALL.out x hx
            · exact HCK.out
          case measure => simp [intOf]; omega
        · have hlk := HL.out
          have herr := errOf_take HALL.out HS.out hck
          have HERR := Lib.hid herr; have HCK := Lib.hid hck
          have hne : (TT.check s != 0) = true := bne_iff_ne.mpr hck
          clear HL herr hck
          generalize hcs : TT.check s = cs at hlk hne HCK HERR
          clear hcs
          go_wp2_with (go_at_call 43; refine hlk.mono ?_; clear hlk; rintro e w2 ⟨rfl, hb2, hk2⟩; have HB2 := Lib.hid (HBEL.out.trans hb2); clear hb2 hk2)
          go_ret2
          exact ⟨HB2.out, by unfold OpenEnd; rw [if_neg HBB.out, if_neg (by rw [HERR.out]; exact HCK.out), HERR.out]; rfl⟩
      · obtain rfl : j = l.length := by omega
        rw [List.take_length] at hall hku
        obtain ⟨hfit, hNb⟩ := adds_ok Lk.start start_fits l hall
        have hN0 : Lk.start.σ.N = 0 := rfl
        rw [hN0] at hNb
        have HFIT := Lib.hid hfit; have HBEL := Lib.hid hbel; have HKU := Lib.hid hku; have HALL := Lib.hid hall
        have HNB := Lib.hid hNb
        clear hfit hbel hku hall hN0 hNb
        go_wp2_with fail
        go_loopw [33] (fun i wr => ∃ j : Nat, j ≤ l.length ∧ i = .int .i64 j ∧ RowKit.Below w.heap.size w wr ∧ KU X0 w.heap.size (w.heap.size + 3) w.heap.size (w.heap.size + 1) (w.heap.size + 2) wr ((l.take j).foldl Lk.getT (l.foldl Lk.addT Lk.start))) (fun i _ => l.length - (intOf i).toNat)
        case atStart => exact ⟨0, Nat.zero_le _, rfl, HBEL.out, HKU.out⟩
        case round =>
          clear HKU HBEL
          obtain ⟨j, hj, rfl, hbel, hku⟩ := hrel
          by_cases hjl : j < l.length
          · obtain ⟨s, hs⟩ : ∃ s, l[j]? = some s := ⟨_, List.getElem?_eq_getElem hjl⟩
            obtain ⟨ad, rfl, hcell⟩ := HCL.out _ hbel j s hs
            have hnx : (l.take (j + 1)).foldl Lk.getT (l.foldl Lk.addT Lk.start) = ((l.take j).foldl Lk.getT (l.foldl Lk.addT Lk.start)).getT s := by
              obtain ⟨_, rfl⟩ := List.getElem?_eq_some_iff.1 hs
              rw [List.take_succ_eq_append_getElem hjl, List.foldl_append]; rfl
            have hcs := check_size (HALL.out s (List.mem_of_getElem? hs))
            obtain ⟨hf2, hN2⟩ := gets_ok _ HFIT.out (l.take j)
            have hN3 := HNB.out
            have hget := ku_get hku hf2 s (by unfold maxLen; omega) (by rw [List.length_take] at hN2; omega)
            have HBEL := Lib.hid hbel; have HNX := Lib.hid hnx
            clear hbel hku hnx hs hcs hf2 hN2 hN3
            go_wp2_with (go_at_call 68; refine hget.mono ?_; clear hget; rintro e w2 ⟨rfl, hb2, hk2⟩; have HB2 := Lib.hid (HBEL.out.trans hb2); have HK2 := Lib.hid hk2; clear hb2 hk2)
            go_roundw
            case rel => exact ⟨j + 1, by omega, by simp, HB2.out, by rw [HNX.out]; exact HK2.out⟩
            case measure => simp [intOf]; omega
          · obtain rfl : j = l.length := by omega
            rw [List.take_length] at hku
            have HBEL := Lib.hid hbel; have HKU := Lib.hid hku
            clear hbel hku
            go_wp2_with fail
            go_ret2
            exact ⟨HBEL.out, by unfold OpenEnd; rw [if_neg HBB.out, if_pos (errOf_ok.2 HALL.out)]; exact ⟨_, _, _, _, rfl, HKU.out⟩⟩
end Go.Proofs.YtkmpfmhbkflgpaaGreatDoor.Kw

/- know: what can be come to, and that the queue comes to just that. Plain Lean: no program in sight. -/
set_option linter.unusedVariables false
set_option linter.unusedSimpArgs false
namespace Go.Proofs.YtkmpfmhbkflgpaaGreatDoor.Kw
open Go.RowKit TT

def ps (s : ByteArray) : List ByteArray := PFg s.data.toList
/-- What one can come to who has l. -/
inductive Dv (l : List ByteArray) : ByteArray → Prop
  | mem {s : ByteArray} : s ∈ l → Dv l s
  | const {s : ByteArray} : check s = 0 → b0 s = 99 → Dv l s
  | built {s : ByteArray} : check s = 0 → ps s ≠ [] → (∀ p ∈ ps s, Dv l p) → Dv l s
  | pair {s p : ByteArray} : Dv l s → b0 s = 112 → p ∈ ps s → Dv l p
  | opn {s k p : ByteArray} : Dv l s → b0 s = 115 → ps s = [k, p] → Dv l k → Dv l p
theorem Dv.check {l : List ByteArray} (hl : ∀ s ∈ l, check s = 0) {s : ByteArray} (h : Dv l s) : TT.check s = 0 := by
  induction h with
  | mem h => exact hl _ h
  | const h _ => exact h
  | built h _ _ _ => exact h
  | pair _ _ hp ih => exact check_part ih hp
  | opn _ _ hp _ ih _ => exact check_part ih (show _ ∈ ps _ by rw [hp]; simp)
theorem const_ps {s : ByteArray} (h : check s = 0) (hk : b0 s = 99) : ps s = [] := by
  obtain ⟨t, h1, rfl, h3, h4⟩ := (check_iff s).1 h
  unfold ps
  rw [PFg_str h1 h3 h4]
  rw [b0_str] at hk
  cases t with
  | nonce a b => rfl
  | const l => rfl
  | hash t => simp [Tm.kind] at hk
  | two k a b => have := h1.1; simp only [Tm.kind] at hk; subst hk; simp [isTwo] at this
/-- A set that is closed by the rules in a universe is all of it that can be come to. -/
structure Shut (l U C : List ByteArray) : Prop where
  parts : ∀ s ∈ U, ∀ p ∈ ps s, p ∈ U
  ck : ∀ s ∈ U, check s = 0
  sub : ∀ s ∈ C, s ∈ U
  mem : ∀ s ∈ l, s ∈ C
  const : ∀ s ∈ U, b0 s = 99 → s ∈ C
  built : ∀ s ∈ U, ps s ≠ [] → (∀ p ∈ ps s, p ∈ C) → s ∈ C
  pair : ∀ s ∈ C, b0 s = 112 → ∀ p ∈ ps s, p ∈ C
  opn : ∀ s ∈ C, b0 s = 115 → ∀ k p, ps s = [k, p] → k ∈ C → p ∈ C
inductive Syn (C : List ByteArray) : ByteArray → Prop
  | mem {s : ByteArray} : s ∈ C → Syn C s
  | const {s : ByteArray} : check s = 0 → b0 s = 99 → Syn C s
  | built {s : ByteArray} : check s = 0 → ps s ≠ [] → (∀ p ∈ ps s, Syn C p) → Syn C s
theorem Shut.syn_in {l U C : List ByteArray} (h : Shut l U C) {t : ByteArray} (hs : Syn C t) : t ∈ U → t ∈ C := by
  induction hs with
  | mem h => exact fun _ => h
  | const _ hk => exact fun hU => h.const _ hU hk
  | built _ hp _ ih => exact fun hU => h.built _ hU hp (fun p hq => ih p hq (h.parts _ hU p hq))
theorem Shut.syn {l U C : List ByteArray} (h : Shut l U C) {t : ByteArray} (hd : Dv l t) : Syn C t := by
  induction hd with
  | mem hm => exact .mem (h.mem _ hm)
  | const h1 h2 => exact .const h1 h2
  | built h1 h2 _ ih => exact .built h1 h2 ih
  | pair _ hk hp ih =>
    cases ih with
    | mem hm => exact .mem (h.pair _ hm hk _ hp)
    | const _ hk2 => rw [hk] at hk2; exact absurd hk2 (by decide)
    | built _ _ hb => exact hb _ hp
  | opn _ hk hp _ ih1 ih2 =>
    cases ih1 with
    | mem hm => exact .mem (h.opn _ hm hk _ _ hp (h.syn_in ih2 (h.parts _ (h.sub _ hm) _ (by rw [hp]; simp))))
    | const _ hk2 => rw [hk] at hk2; exact absurd hk2 (by decide)
    | built _ _ hb => exact hb _ (by rw [hp]; simp)
theorem Shut.iff {l U C : List ByteArray} (h : Shut l U C) (hd : ∀ s ∈ C, Dv l s) {t : ByteArray} (ht : t ∈ U) : t ∈ C ↔ Dv l t :=
  ⟨fun hc => hd t hc, fun hv => h.syn_in (h.syn hv) ht⟩

/-! ### look -/
structure LInv (l : List ByteArray) (a : Lk) : Prop where
  ck : ∀ s ∈ a.U, check s = 0
  il : ∀ p s : ByteArray, s ∈ a.IL p.data.toList ↔ s ∈ a.U ∧ p ∈ ps s
  len : a.U.length ≤ a.σ.N
  cst : ∀ s ∈ a.U, b0 s = 99 → s ∈ a.σ.todo
  nd : a.σ.todo.Nodup
  has : ∀ s, a.σ.has s = decide (s ∈ a.σ.todo)
  sub : ∀ s ∈ a.σ.todo, s ∈ a.U
  sound : ∀ s ∈ a.σ.todo, Dv l s
theorem start_inv (l : List ByteArray) : LInv l Lk.start := by
  refine ⟨?_, fun p s => ⟨?_, ?_⟩, Nat.le_refl _, ?_, List.nodup_nil, fun s => rfl, ?_, ?_⟩
  · intro s h; cases h
  · intro h; cases h
  · intro h; cases h.1
  · intro s h; cases h
  · intro s h; cases h
  · intro s h; cases h
theorem put_has (H : List UInt8 → Option Value) (s x : ByteArray) (v : Value) : (put H s.data.toList v x.data.toList).isSome = (decide (x = s) || (H x.data.toList).isSome) := by
  unfold put
  by_cases e : x = s
  · subst e; rw [if_pos rfl]; simp
  · rw [if_neg (fun q => e (data_inj q))]; simp [e]
theorem get_has (σ : St) (s x : ByteArray) : (σ.get s).has x = (decide (x = s) || σ.has x) := by
  unfold St.get
  by_cases h : σ.has s = true
  · rw [if_pos h]
    by_cases e : x = s
    · subst e; rw [h]; simp
    · simp [e]
  · rw [if_neg h]
    exact put_has σ.H s x _
theorem get_todo (σ : St) (s : ByteArray) : (σ.get s).todo = if σ.has s = true then σ.todo else σ.todo ++ [s] := by
  unfold St.get; split <;> rfl
theorem get_N (σ : St) (s : ByteArray) : (σ.get s).N = if σ.has s = true then σ.N else σ.N + 1 := by
  unfold St.get; split <;> rfl
theorem wholes_mem (s : ByteArray) : ∀ (l : List ByteArray) (f : List UInt8 → List ByteArray) (p x : ByteArray), x ∈ l.foldl (fun f p => addIn f p s) f p.data.toList ↔ x ∈ f p.data.toList ∨ (x = s ∧ p ∈ l) := by
  intro l
  induction l with
  | nil => intro f p x; simp
  | cons q l ih =>
    intro f p x
    rw [List.foldl_cons, ih]
    unfold addIn
    by_cases e : p = q
    · subst e
      rw [if_pos rfl, List.mem_append, List.mem_singleton, List.mem_cons]
      simp only [true_or, and_true]
      constructor
      · rintro ((h | h) | h)
        · exact .inl h
        · exact .inr h
        · exact .inr h.1
      · rintro (h | h)
        · exact .inl (.inl h)
        · exact .inl (.inr h)
    · rw [if_neg (fun k => e (data_inj k)), List.mem_cons]
      simp [e]
theorem LInv.get {l : List ByteArray} {a : Lk} (h : LInv l a) (s : ByteArray) (hs : s ∈ a.U) (hd : Dv l s) : LInv l (a.getT s) := by
  have h1 := get_todo a.σ s
  have h2 := get_N a.σ s
  have hh := h.has s
  by_cases q : a.σ.has s = true
  · have : a.getT s = a := by unfold Lk.getT St.get; rw [if_pos q]
    rw [this]; exact h
  · rw [if_neg q] at h1 h2
    have hn : s ∉ a.σ.todo := fun k => q (by rw [hh]; exact decide_eq_true k)
    unfold Lk.getT
    refine ⟨h.ck, h.il, by simp only [h2]; have := h.len; omega, fun x hx hk => by simp only [h1]; exact List.mem_append_left _ (h.cst x hx hk), ?_, fun x => ?_, fun x hx => ?_, fun x hx => ?_⟩
    · simp only [h1]
      rw [List.nodup_append]
      exact ⟨h.nd, by simp, fun x hx y hy => by rw [List.mem_singleton.1 hy]; rintro rfl; exact hn hx⟩
    · simp only [h1, get_has, h.has x]
      by_cases e : x = s <;> simp [e]
    · simp only [h1, List.mem_append, List.mem_singleton] at hx
      rcases hx with hx | rfl
      · exact h.sub x hx
      · exact hs
    · simp only [h1, List.mem_append, List.mem_singleton] at hx
      rcases hx with hx | rfl
      · exact h.sound x hx
      · exact hd
theorem LInv.one {l : List ByteArray} {a : Lk} (h : LInv l a) (s : ByteArray) (hs : check s = 0) : LInv l (a.one s) := by
  by_cases hm : s ∈ a.U
  · have : a.one s = a := by unfold Lk.one; rw [if_pos hm]
    rw [this]; exact h
  · have hb : ∀ N, a.σ.N + 1 ≤ N → (b0 s = 99 → False) → LInv l ⟨⟨a.σ.H, a.σ.todo, N⟩, a.U ++ [s], a.wholes s (ps s)⟩ := by
      intro N hN hk
      refine ⟨fun x hx => ?_, fun p x => ?_, ?_, fun x hx hk2 => ?_, h.nd, h.has, fun x hx => List.mem_append_left _ (h.sub x hx), h.sound⟩
      · simp only [List.mem_append, List.mem_singleton] at hx
        rcases hx with hx | rfl
        · exact h.ck x hx
        · exact hs
      · simp only [Lk.wholes, wholes_mem, h.il, List.mem_append, List.mem_singleton]
        constructor
        · rintro (⟨h1, h2⟩ | ⟨rfl, h2⟩)
          · exact ⟨.inl h1, h2⟩
          · exact ⟨.inr rfl, h2⟩
        · rintro ⟨h1 | rfl, h2⟩
          · exact .inl ⟨h1, h2⟩
          · exact .inr ⟨rfl, h2⟩
      · simp only [List.length_append, List.length_singleton]; have := h.len; omega
      · simp only [List.mem_append, List.mem_singleton] at hx
        rcases hx with hx | rfl
        · exact h.cst x hx hk2
        · exact (hk hk2).elim
    by_cases hk : b0 s = 99
    · have e : a.one s = Lk.getT ⟨⟨a.σ.H, a.σ.todo, a.σ.N + 1 + (ps s).length⟩, a.U ++ [s], a.wholes s (ps s)⟩ s := by unfold Lk.one; rw [if_neg hm, if_pos hk]; rfl
      rw [e]
      have hps := const_ps hs hk
      have hn : s ∉ a.σ.todo := fun k => hm (h.sub s k)
      have hf : ¬ St.has ⟨a.σ.H, a.σ.todo, a.σ.N + 1 + (ps s).length⟩ s = true := by
        show ¬ a.σ.has s = true
        rw [h.has s]; simpa using hn
      have e1 := get_todo ⟨a.σ.H, a.σ.todo, a.σ.N + 1 + (ps s).length⟩ s
      have e2 := get_N ⟨a.σ.H, a.σ.todo, a.σ.N + 1 + (ps s).length⟩ s
      rw [if_neg hf] at e1 e2
      unfold Lk.getT
      refine ⟨fun x hx => ?_, fun p x => ?_, ?_, fun x hx hk2 => ?_, ?_, fun x => ?_, fun x hx => ?_, fun x hx => ?_⟩
      · simp only [List.mem_append, List.mem_singleton] at hx
        rcases hx with hx | rfl
        · exact h.ck x hx
        · exact hs
      · simp only [Lk.wholes, wholes_mem, h.il, List.mem_append, List.mem_singleton]
        constructor
        · rintro (⟨h1, h2⟩ | ⟨rfl, h2⟩)
          · exact ⟨.inl h1, h2⟩
          · exact ⟨.inr rfl, h2⟩
        · rintro ⟨h1 | rfl, h2⟩
          · exact .inl ⟨h1, h2⟩
          · exact .inr ⟨rfl, h2⟩
      · simp only [e2, List.length_append, List.length_singleton]; have := h.len; omega
      · simp only [e1, List.mem_append, List.mem_singleton] at hx ⊢
        rcases hx with hx | rfl
        · exact .inl (h.cst x hx hk2)
        · exact .inr rfl
      · simp only [e1]
        rw [List.nodup_append]
        exact ⟨h.nd, by simp, fun x hx y hy => by rw [List.mem_singleton.1 hy]; rintro rfl; exact hn hx⟩
      · simp only [e1, get_has]
        have := h.has x
        unfold St.has at this ⊢
        simp only [this]
        by_cases e : x = s <;> simp [e]
      · simp only [e1, List.mem_append, List.mem_singleton] at hx ⊢
        rcases hx with hx | rfl
        · exact .inl (h.sub x hx)
        · exact .inr rfl
      · simp only [e1, List.mem_append, List.mem_singleton] at hx
        rcases hx with hx | rfl
        · exact h.sound x hx
        · exact .const hs hk
    · have e : a.one s = ⟨⟨a.σ.H, a.σ.todo, a.σ.N + 1 + (ps s).length⟩, a.U ++ [s], a.wholes s (ps s)⟩ := by unfold Lk.one; rw [if_neg hm, if_neg hk]; rfl
      rw [e]
      exact hb _ (by omega) hk
theorem one_U (a : Lk) (s x : ByteArray) : x ∈ (a.one s).U ↔ x ∈ a.U ∨ x = s := by
  unfold Lk.one
  split
  · rename_i h
    exact ⟨.inl, fun k => k.elim id (fun e => by rw [e]; exact h)⟩
  · simp
theorem look_U (l : List ByteArray) (a : Lk) (x : ByteArray) : x ∈ (a.look l).U ↔ x ∈ a.U ∨ x ∈ l := by
  induction l generalizing a with
  | nil => simp [Lk.look]
  | cons s l ih =>
    show x ∈ ((a.one s).look l).U ↔ _
    rw [ih, one_U, List.mem_cons, or_assoc]
theorem LInv.look {l : List ByteArray} {a : Lk} (h : LInv l a) (m : List ByteArray) (hm : ∀ s ∈ m, check s = 0) : LInv l (a.look m) := by
  induction m generalizing a with
  | nil => exact h
  | cons s m ih => exact ih (h.one s (hm s List.mem_cons_self)) (fun x hx => hm x (List.mem_cons_of_mem _ hx))
theorem LInv.adds {l : List ByteArray} {a : Lk} (h : LInv l a) (m : List ByteArray) (hm : ∀ s ∈ m, check s = 0) : LInv l (m.foldl Lk.addT a) ∧ ∀ x, x ∈ (m.foldl Lk.addT a).U ↔ x ∈ a.U ∨ ∃ t ∈ m, x ∈ (subsOf t).1 := by
  induction m generalizing a with
  | nil => exact ⟨h, fun x => by simp⟩
  | cons s m ih =>
    obtain ⟨h1, h2⟩ := ih (h.look (subsOf s).1 (fun x hx => check_subs (hm s List.mem_cons_self) hx)) (fun x hx => hm x (List.mem_cons_of_mem _ hx))
    refine ⟨h1, fun x => ?_⟩
    have := h2 x
    rw [look_U] at this
    rw [List.foldl_cons]
    show x ∈ (m.foldl Lk.addT (a.look (subsOf s).1)).U ↔ _
    rw [this]
    simp [or_assoc]
theorem LInv.gets {l : List ByteArray} {a : Lk} (h : LInv l a) (m : List ByteArray) (hm : ∀ s ∈ m, s ∈ a.U ∧ Dv l s) : LInv l (m.foldl Lk.getT a) ∧ (m.foldl Lk.getT a).U = a.U ∧ (∀ x, x ∈ a.σ.todo → x ∈ (m.foldl Lk.getT a).σ.todo) ∧ ∀ x ∈ m, x ∈ (m.foldl Lk.getT a).σ.todo := by
  induction m generalizing a with
  | nil => exact ⟨h, rfl, fun x hx => hx, fun x hx => by cases hx⟩
  | cons s m ih =>
    obtain ⟨k1, k2⟩ := hm s List.mem_cons_self
    have h1 := h.get s k1 k2
    obtain ⟨g1, g2, g3, g4⟩ := ih h1 (fun x hx => hm x (List.mem_cons_of_mem _ hx))
    have e : ∀ x, x ∈ a.σ.todo → x ∈ (a.getT s).σ.todo := by
      intro x hx
      show x ∈ (a.σ.get s).todo
      rw [get_todo]; split
      · exact hx
      · exact List.mem_append_left _ hx
    have es : s ∈ (a.getT s).σ.todo := by
      show s ∈ (a.σ.get s).todo
      rw [get_todo]; split
      · rename_i q; rw [h.has s] at q; exact of_decide_eq_true q
      · simp
    refine ⟨g1, g2, fun x hx => g3 x (e x hx), fun x hx => ?_⟩
    rcases List.mem_cons.1 hx with rfl | hx
    · exact g3 _ es
    · exact g4 x hx
theorem self_subs {t : ByteArray} (h : check t = 0) : t ∈ (subsOf t).1 := by
  obtain ⟨u, h1, rfl, h3, h4⟩ := (check_iff t).1 h
  rw [subsOf_str h1 h3 h4]
  obtain ⟨r, hr, _⟩ := u.subs_eq
  rw [hr]; simp
theorem subs_tr : ∀ (t u v : Tm), u ∈ t.subs → v ∈ u.subs → v ∈ t.subs
  | .nonce a b, u, v, h, hv => by simp only [Tm.subs, List.mem_singleton] at h; subst h; exact hv
  | .const l, u, v, h, hv => by simp only [Tm.subs, List.mem_singleton] at h; subst h; exact hv
  | .hash t, u, v, h, hv => by
    simp only [Tm.subs, List.mem_cons] at h ⊢
    rcases h with rfl | h
    · simpa only [Tm.subs, List.mem_cons] using hv
    · exact .inr (subs_tr t u v h hv)
  | .two k a b, u, v, h, hv => by
    simp only [Tm.subs, List.mem_cons, List.mem_append] at h ⊢
    rcases h with rfl | h | h
    · simpa only [Tm.subs, List.mem_cons, List.mem_append] using hv
    · exact .inr (.inl (subs_tr a u v h hv))
    · exact .inr (.inr (subs_tr b u v h hv))
theorem subs_parts {t x p : ByteArray} (h : check t = 0) (hx : x ∈ (subsOf t).1) (hp : p ∈ ps x) : p ∈ (subsOf t).1 := by
  obtain ⟨u, h1, rfl, h3, h4⟩ := (check_iff t).1 h
  rw [subsOf_str h1 h3 h4] at hx ⊢
  obtain ⟨v, hv, rfl⟩ := List.mem_map.1 hx
  obtain ⟨k1, k2, k3⟩ := subs_ok u v hv h1
  unfold ps at hp
  rw [PFg_str k1 (by omega) (by omega)] at hp
  obtain ⟨q, hq, rfl⟩ := List.mem_map.1 hp
  exact List.mem_map.2 ⟨q, subs_tr u v q hv (parts_subs hq), rfl⟩
end Go.Proofs.YtkmpfmhbkflgpaaGreatDoor.Kw

/- know: the queue's invariant. Plain Lean: no program in sight. -/
set_option linter.unusedVariables false
set_option linter.unusedSimpArgs false
namespace Go.Proofs.YtkmpfmhbkflgpaaGreatDoor.Kw
open Go.RowKit TT

theorem nodup_len {α : Type} : ∀ (l m : List α), l.Nodup → (∀ x ∈ l, x ∈ m) → l.length ≤ m.length := by
  intro l
  induction l with
  | nil => intro m _ _; exact Nat.zero_le _
  | cons a l ih =>
    intro m hn hs
    obtain ⟨p, q, rfl⟩ := List.append_of_mem (hs a List.mem_cons_self)
    have h1 := ih (p ++ q) (List.nodup_cons.1 hn).2 (fun x hx => by
      have hxm := hs x (List.mem_cons_of_mem _ hx)
      have hne : x ≠ a := fun e => (List.nodup_cons.1 hn).1 (e ▸ hx)
      simp only [List.mem_append, List.mem_cons] at hxm ⊢
      rcases hxm with h | rfl | h
      · exact .inl h
      · exact absurd rfl hne
      · exact .inr h)
    simp only [List.length_append, List.length_cons] at h1 ⊢
    omega
/-- What was popped: D; the rest of what is had stands in the queue. -/
structure RInv (l : List ByteArray) (a : Lk) (D : List ByteArray) (σ : St) : Prop where
  nd : (D ++ σ.todo).Nodup
  sub : ∀ s ∈ D ++ σ.todo, s ∈ a.U
  has : ∀ s, σ.has s = decide (s ∈ D ++ σ.todo)
  N : σ.N ≤ a.σ.N + (D ++ σ.todo).length
  sound : ∀ s ∈ D ++ σ.todo, Dv l s
/-- What is had stays so. -/
def Up (σ τ : St) : Prop := ∀ s, σ.has s = true → τ.has s = true
theorem Up.refl (σ : St) : Up σ σ := fun _ h => h
theorem Up.trans {σ τ ρ : St} (h : Up σ τ) (k : Up τ ρ) : Up σ ρ := fun s hs => k s (h s hs)
theorem up_get (σ : St) (s : ByteArray) : Up σ (σ.get s) := fun x hx => by rw [get_has, hx, Bool.or_true]
theorem get_self (σ : St) (s : ByteArray) : (σ.get s).has s = true := by rw [get_has]; simp
variable {l : List ByteArray} {a : Lk} {D : List ByteArray} {σ : St}
theorem RInv.mem (h : RInv l a D σ) {s : ByteArray} (hs : σ.has s = true) : s ∈ D ++ σ.todo := by rw [h.has s] at hs; exact of_decide_eq_true hs
theorem RInv.get (h : RInv l a D σ) {s : ByteArray} (hs : s ∈ a.U) (hd : Dv l s) : RInv l a D (σ.get s) := by
  by_cases q : σ.has s = true
  · have : σ.get s = σ := by unfold St.get; rw [if_pos q]
    rw [this]; exact h
  · have e1 := get_todo σ s
    have e2 := get_N σ s
    rw [if_neg q] at e1 e2
    have hn : s ∉ D ++ σ.todo := fun k => q (by rw [h.has s]; exact decide_eq_true k)
    have e3 : D ++ (σ.get s).todo = (D ++ σ.todo) ++ [s] := by rw [e1, List.append_assoc]
    refine ⟨?_, ?_, fun x => ?_, ?_, ?_⟩
    · rw [e3, List.nodup_append]
      exact ⟨h.nd, by simp, fun x hx y hy => by rw [List.mem_singleton.1 hy]; rintro rfl; exact hn hx⟩
    · intro x hx
      rw [e3, List.mem_append, List.mem_singleton] at hx
      rcases hx with hx | rfl
      · exact h.sub x hx
      · exact hs
    · rw [e3, get_has, h.has x]
      by_cases e : x = s <;> simp [e]
    · rw [e3, e2, List.length_append, List.length_singleton]; have := h.N; omega
    · intro x hx
      rw [e3, List.mem_append, List.mem_singleton] at hx
      rcases hx with hx | rfl
      · exact h.sound x hx
      · exact hd
/-- What a universe is like. -/
structure Univ (a : Lk) : Prop where
  parts : ∀ s ∈ a.U, ∀ p ∈ ps s, p ∈ a.U
  ck : ∀ s ∈ a.U, check s = 0
  il : ∀ p s : ByteArray, s ∈ a.IL p.data.toList ↔ s ∈ a.U ∧ p ∈ ps s
  len : a.U.length ≤ a.σ.N
  N : a.σ.N ≤ 20000000
  ill : ∀ k, (a.IL k).length ≤ a.σ.N
theorem RInv.fit (h : RInv l a D σ) (hu : Univ a) : σ.Fit := by
  have h1 := nodup_len _ _ h.nd h.sub
  have h2 := h.N
  have h3 := hu.len
  have h4 := hu.N
  unfold St.Fit
  rw [List.length_append] at h1 h2
  omega
theorem RInv.split (h : RInv l a D σ) (hu : Univ a) {s : ByteArray} (hs : σ.has s = true) :
    RInv l a D (σ.split (b0 s) (ps s)) ∧ Up σ (σ.split (b0 s) (ps s)) ∧ (b0 s = 112 → ∀ p ∈ ps s, (σ.split (b0 s) (ps s)).has p = true) ∧ (b0 s = 115 → ∀ k p, ps s = [k, p] → σ.has k = true → (σ.split (b0 s) (ps s)).has p = true) := by
  have hm := h.mem hs
  have hU := h.sub s hm
  have hd := h.sound s hm
  have hpU := hu.parts s hU
  have hc := hu.ck s hU
  by_cases k1 : b0 s = 112
  · have hl := parts_two hc (.inl k1)
    obtain ⟨x, y, e⟩ : ∃ x y, ps s = [x, y] := by
      unfold ps
      match PFg s.data.toList, hl with
      | [x, y], _ => exact ⟨x, y, rfl⟩
    have es : σ.split (b0 s) (ps s) = (σ.get x).get y := by rw [e, k1]; unfold St.split; rfl
    rw [es]
    have g1 := h.get (hpU x (by rw [e]; simp)) (hd.pair k1 (by rw [e]; simp))
    refine ⟨g1.get (hpU y (by rw [e]; simp)) (hd.pair k1 (by rw [e]; simp)), (up_get _ _).trans (up_get _ _), fun _ p hp => ?_, fun k2 => ?_⟩
    · rw [e] at hp
      rcases List.mem_cons.1 hp with rfl | hp
      · exact up_get _ _ _ (get_self _ _)
      · rw [List.mem_singleton] at hp; subst hp; exact get_self _ _
    · rw [k1] at k2; exact absurd k2 (by decide)
  · by_cases k2 : b0 s = 115
    · have hl := parts_two hc (.inr k2)
      obtain ⟨x, y, e⟩ : ∃ x y, ps s = [x, y] := by
        unfold ps
        match PFg s.data.toList, hl with
        | [x, y], _ => exact ⟨x, y, rfl⟩
      have es : σ.split (b0 s) (ps s) = if σ.has x = true then σ.get y else σ := by rw [e, k2]; unfold St.split; rfl
      rw [es]
      by_cases hx : σ.has x = true
      · rw [if_pos hx]
        refine ⟨h.get (hpU y (by rw [e]; simp)) (hd.opn k2 e (h.sound x (h.mem hx))), up_get _ _, fun q => absurd q k1, fun _ k p hp _ => ?_⟩
        rw [e] at hp
        simp only [List.cons.injEq, and_true] at hp
        obtain ⟨rfl, rfl⟩ := hp
        exact get_self _ _
      · rw [if_neg hx]
        refine ⟨h, Up.refl _, fun q => absurd q k1, fun _ k p hp hk => ?_⟩
        rw [e] at hp
        simp only [List.cons.injEq, and_true] at hp
        obtain ⟨rfl, rfl⟩ := hp
        exact absurd hk hx
    · have es : σ.split (b0 s) (ps s) = σ := by
        unfold St.split
        split
        · rw [if_neg k1, if_neg k2]
        · rfl
      rw [es]
      exact ⟨h, Up.refl _, fun q => absurd q k1, fun q => absurd q k2⟩
theorem RInv.whole (h : RInv l a D σ) (hu : Univ a) {s t : ByteArray} (hs : s ∈ a.U) (ht : t ∈ ps s) :
    RInv l a D (σ.whole s) ∧ Up σ (σ.whole s) ∧ (σ.has s = true → b0 s = 115 → ∀ k p, ps s = [k, p] → σ.has k = true → (σ.whole s).has p = true) ∧ ((∀ p ∈ ps s, σ.has p = true) → (σ.whole s).has s = true) := by
  by_cases h1 : σ.has s = true
  · have e : σ.whole s = σ.split (b0 s) (ps s) := by unfold St.whole; rw [if_pos h1]; rfl
    rw [e]
    obtain ⟨g1, g2, _, g4⟩ := h.split hu h1
    exact ⟨g1, g2, fun _ => g4, fun _ => g2 s h1⟩
  · by_cases h2 : (ps s).all σ.has = true
    · have e : σ.whole s = σ.get s := by unfold St.whole; rw [if_neg h1]; exact if_pos h2
      rw [e]
      rw [List.all_eq_true] at h2
      refine ⟨h.get hs (.built (hu.ck s hs) (fun q => by rw [q] at ht; cases ht) (fun p hp => h.sound p (h.mem (h2 p hp)))), up_get _ _, fun q => absurd q h1, fun _ => get_self _ _⟩
    · have e : σ.whole s = σ := by unfold St.whole; rw [if_neg h1]; exact if_neg h2
      rw [e]
      refine ⟨h, Up.refl _, fun q => absurd q h1, fun q => absurd (List.all_eq_true.2 q) h2⟩
theorem RInv.wholes {t : ByteArray} (hu : Univ a) : ∀ (ws : List ByteArray) (σ : St), RInv l a D σ → (∀ s ∈ ws, s ∈ a.U ∧ t ∈ ps s) →
    RInv l a D (ws.foldl St.whole σ) ∧ Up σ (ws.foldl St.whole σ) ∧ (∀ s ∈ ws, σ.has s = true → b0 s = 115 → ∀ k p, ps s = [k, p] → σ.has k = true → (ws.foldl St.whole σ).has p = true) ∧ (∀ s ∈ ws, (∀ p ∈ ps s, σ.has p = true) → (ws.foldl St.whole σ).has s = true) := by
  intro ws
  induction ws with
  | nil => intro σ h _; exact ⟨h, Up.refl _, fun s hs => (by cases hs), fun s hs => (by cases hs)⟩
  | cons x ws ih =>
    intro σ h hw
    obtain ⟨hx1, hx2⟩ := hw x List.mem_cons_self
    obtain ⟨g1, g2, g3, g4⟩ := h.whole hu hx1 hx2
    obtain ⟨f1, f2, f3, f4⟩ := ih (σ.whole x) g1 (fun s hs => hw s (List.mem_cons_of_mem _ hs))
    rw [List.foldl_cons]
    refine ⟨f1, g2.trans f2, fun s hs h1 h2 k p hp hk => ?_, fun s hs hp => ?_⟩
    · rcases List.mem_cons.1 hs with rfl | hs
      · exact f2 _ (g3 h1 h2 k p hp hk)
      · exact f3 s hs (g2 _ h1) h2 k p hp (g2 _ hk)
    · rcases List.mem_cons.1 hs with rfl | hs
      · exact f2 _ (g4 hp)
      · exact f4 s hs (fun p q => g2 _ (hp p q))
/-- What holds of what was popped. -/
structure Done (a : Lk) (D : List ByteArray) (σ : St) : Prop where
  pair : ∀ s ∈ D, b0 s = 112 → ∀ p ∈ ps s, σ.has p = true
  opn : ∀ s ∈ D, b0 s = 115 → ∀ k p, ps s = [k, p] → k ∈ D → σ.has p = true
  built : ∀ s ∈ a.U, ps s ≠ [] → (∀ p ∈ ps s, p ∈ D) → σ.has s = true
theorem RInv.pop {t : ByteArray} {r : List ByteArray} (h : RInv l a D σ) (ht : σ.todo = t :: r) : RInv l a (D ++ [t]) ⟨σ.H, r, σ.N⟩ := by
  have e : (D ++ [t]) ++ r = D ++ σ.todo := by rw [ht, List.append_assoc]; rfl
  exact ⟨by show ((D ++ [t]) ++ r).Nodup; rw [e]; exact h.nd, fun s hs => h.sub s (by rw [← e]; exact hs), fun s => by show σ.has s = decide (s ∈ (D ++ [t]) ++ r); rw [e]; exact h.has s, by show σ.N ≤ a.σ.N + ((D ++ [t]) ++ r).length; rw [e]; exact h.N, fun s hs => h.sound s (by rw [← e]; exact hs)⟩
theorem Done.pass {t : ByteArray} {r : List ByteArray} (h : RInv l a D σ) (hd : Done a D σ) (hu : Univ a) (ht : σ.todo = t :: r) :
    PassOk a σ t r ∧ RInv l a (D ++ [t]) (σ.pass a.IL t r) ∧ Done a (D ++ [t]) (σ.pass a.IL t r) ∧ Up σ (σ.pass a.IL t r) := by
  have h0 := h.pop ht
  have htm : t ∈ D ++ σ.todo := by rw [ht]; simp
  have hth : σ.has t = true := by rw [h.has t]; exact decide_eq_true htm
  obtain ⟨g1, g2, g3, g4⟩ := h0.split hu (s := t) hth
  have hws : ∀ s ∈ a.IL t.data.toList, s ∈ a.U ∧ t ∈ ps s := fun s hs => (hu.il t s).1 hs
  obtain ⟨f1, f2, f3, f4⟩ := RInv.wholes hu (a.IL t.data.toList) _ g1 hws
  have hp : σ.pass a.IL t r = (a.IL t.data.toList).foldl St.whole ((⟨σ.H, r, σ.N⟩ : St).split (b0 t) (ps t)) := rfl
  have up0 : Up σ ((⟨σ.H, r, σ.N⟩ : St).split (b0 t) (ps t)) := fun s hs => g2 s hs
  rw [hp]
  refine ⟨⟨hu.ck t (h.sub t htm), h.sub t htm, fun s hs => ⟨hu.ck s (hws s hs).1, (hws s hs).1⟩, by have := hu.ill t.data.toList; have := hu.N; omega, h0.fit hu, fun j => ?_⟩, f1, ⟨?_, ?_, ?_⟩, up0.trans f2⟩
  · exact (RInv.wholes hu ((a.IL t.data.toList).take j) _ g1 (fun s hs => hws s (List.mem_of_mem_take hs))).1.fit hu
  · intro s hs hk p q
    rcases List.mem_append.1 hs with hs | hs
    · exact f2 _ (up0 _ (hd.pair s hs hk p q))
    · rw [List.mem_singleton] at hs; subst hs
      exact f2 _ (g3 hk p q)
  · intro s hs hk k p q hkD
    have hasD : ∀ x ∈ D, σ.has x = true := fun x hx => by rw [h.has x]; exact decide_eq_true (List.mem_append_left _ hx)
    rcases List.mem_append.1 hs with hs1 | hs1
    · rcases List.mem_append.1 hkD with hkD1 | hkD1
      · exact f2 _ (up0 _ (hd.opn s hs1 hk k p q hkD1))
      · have e : k = t := List.mem_singleton.1 hkD1
        have hsw : s ∈ a.IL t.data.toList := (hu.il t s).2 ⟨h.sub s (List.mem_append_left _ hs1), by rw [q, e]; simp⟩
        exact f3 s hsw (up0 _ (hasD s hs1)) hk k p q (by rw [e]; exact up0 _ hth)
    · have e : s = t := List.mem_singleton.1 hs1
      rw [e] at hk q
      rcases List.mem_append.1 hkD with hkD1 | hkD1
      · exact f2 _ (g4 hk k p q (hasD k hkD1))
      · have e2 : k = t := List.mem_singleton.1 hkD1
        exact f2 _ (g4 hk k p q (by rw [e2]; exact hth))
  · intro s hs hne hall
    have hasD : ∀ x ∈ D, σ.has x = true := fun x hx => by rw [h.has x]; exact decide_eq_true (List.mem_append_left _ hx)
    by_cases q : ∀ p ∈ ps s, p ∈ D
    · exact f2 _ (up0 _ (hd.built s hs hne q))
    · have hts : t ∈ ps s := by
        refine Classical.byContradiction fun hn => q fun p hp => ?_
        rcases List.mem_append.1 (hall p hp) with h1 | h1
        · exact h1
        · have e : p = t := List.mem_singleton.1 h1
          rw [e] at hp; exact absurd hp hn
      refine f4 s ((hu.il t s).2 ⟨hs, hts⟩) (fun p hp => up0 _ ?_)
      rcases List.mem_append.1 (hall p hp) with h1 | h1
      · exact hasD p h1
      · have e : p = t := List.mem_singleton.1 h1
        rw [e]; exact hth
/-- The invariant as the walk asks for it. -/
def QInv (l : List ByteArray) (a : Lk) (k : Nat) (σ : St) : Prop := ∃ D, RInv l a D σ ∧ Done a D σ ∧ Up a.σ σ ∧ D.length + k = a.U.length
theorem QInv.step {k : Nat} {t : ByteArray} {r : List ByteArray} (hu : Univ a) (h : QInv l a k σ) (ht : σ.todo = t :: r) : PassOk a σ t r ∧ ∃ k', k = k' + 1 ∧ QInv l a k' (σ.pass a.IL t r) := by
  obtain ⟨D, h1, h2, h3, h4⟩ := h
  obtain ⟨g1, g2, g3, g4⟩ := Done.pass h1 h2 hu ht
  refine ⟨g1, ?_⟩
  have h5 := nodup_len _ _ h1.nd h1.sub
  rw [ht, List.length_append, List.length_cons] at h5
  exact ⟨k - 1, by omega, D ++ [t], g2, g3, h3.trans g4, by rw [List.length_append, List.length_singleton]; omega⟩
/-- Where the queue has come to its end. -/
theorem QInv.done {k : Nat} (hu : Univ a) (h : QInv l a k σ) (ht : σ.todo = []) (hl : ∀ s ∈ l, a.σ.has s = true) (hc : ∀ s ∈ a.U, b0 s = 99 → a.σ.has s = true) :
    ∀ t ∈ a.U, (σ.has t = true ↔ Dv l t) := by
  obtain ⟨D, h1, h2, h3, h4⟩ := h
  have hD : ∀ s, σ.has s = true ↔ s ∈ D := fun s => by rw [h1.has s, ht, List.append_nil, decide_eq_true_iff]
  have hs : Shut l a.U D :=
    ⟨hu.parts, hu.ck, fun s hs => h1.sub s (List.mem_append_left _ hs), fun s hs => (hD s).1 (h3 s (hl s hs)), fun s hs hk => (hD s).1 (h3 s (hc s hs hk)), fun s hs hne hp => (hD s).1 (h2.built s hs hne hp), fun s hs hk p hp => (hD p).1 (h2.pair s hs hk p hp), fun s hs hk k p hp hk2 => (hD p).1 (h2.opn s hs hk k p hp hk2)⟩
  intro t ht2
  rw [hD t]
  exact hs.iff (fun s hs => h1.sound s (List.mem_append_left _ hs)) ht2
theorem QInv.has_U {k : Nat} (h : QInv l a k σ) {t : ByteArray} (ht : σ.has t = true) : t ∈ a.U := by
  obtain ⟨D, h1, _⟩ := h
  exact h1.sub t (h1.mem ht)
theorem QInv.first (hi : LInv l a) : QInv l a a.U.length a.σ := by
  refine ⟨[], ⟨hi.nd, hi.sub, fun s => hi.has s, Nat.le_add_right _ _, hi.sound⟩, ⟨fun s hs => (by cases hs), fun s hs => (by cases hs), fun s _ hne hp => ?_⟩, Up.refl _, by simp⟩
  cases hps : ps s with
  | nil => exact absurd hps hne
  | cons p r => exact absurd (hp p (by rw [hps]; simp)) (by simp)
/-- The queue's run, reckoned. -/
def runF (a : Lk) : Nat → St → St
  | 0, σ => σ
  | n + 1, σ => match σ.todo with
    | [] => σ
    | t :: r => runF a n (σ.pass a.IL t r)
theorem runF_ok (hu : Univ a) : ∀ (k n : Nat) (σ : St), k ≤ n → QInv l a k σ → ∃ k', QInv l a k' (runF a n σ) ∧ (runF a n σ).todo = [] := by
  intro k n
  induction n generalizing k with
  | zero =>
    intro σ hk h
    cases ht : σ.todo with
    | nil => exact ⟨k, h, ht⟩
    | cons t r =>
      obtain ⟨_, k', h1, _⟩ := h.step hu ht
      omega
  | succ n ih =>
    intro σ hk h
    cases ht : σ.todo with
    | nil =>
      have e : runF a (n + 1) σ = σ := by unfold runF; rw [ht]
      rw [e]; exact ⟨k, h, ht⟩
    | cons t r =>
      have e : runF a (n + 1) σ = runF a n (σ.pass a.IL t r) := by
        conv => lhs; unfold runF
        rw [ht]
      rw [e]
      obtain ⟨_, k', h1, h2⟩ := h.step hu ht
      exact ih k' _ (by omega) h2
def Lk.last (a : Lk) : St := runF a a.U.length a.σ
theorem last_iff (hu : Univ a) (hi : LInv l a) (hl : ∀ s ∈ l, a.σ.has s = true) (hc : ∀ s ∈ a.U, b0 s = 99 → a.σ.has s = true) : ∀ t ∈ a.U, (a.last.has t = true ↔ Dv l t) := by
  obtain ⟨k', h1, h2⟩ := runF_ok hu a.U.length a.U.length a.σ (Nat.le_refl _) (QInv.first hi)
  exact h1.done hu h2 hl hc
end Go.Proofs.YtkmpfmhbkflgpaaGreatDoor.Kw

/- know.Derives: its contract. -/
set_option linter.unusedVariables false
set_option linter.unusedSimpArgs false
namespace Go.Proofs.YtkmpfmhbkflgpaaGreatDoor.Kw
open Go.RowKit Go.Maps Go.WideMaps Go.Proofs.YtkmpfmhbkflgpaaGreatDoorW.PrintWords Go.Proofs.YtkmpfmhbkflgpaaGreatDoorW.PrintWords.Kd
open TT (check subsOf)

theorem one_todo (a : Lk) (s x : ByteArray) (h : x ∈ a.σ.todo) : x ∈ (a.one s).σ.todo := by
  unfold Lk.one
  split
  · exact h
  · split
    · simp only [get_todo]
      split
      · exact h
      · exact List.mem_append_left _ h
    · exact h
theorem look_todo (m : List ByteArray) (a : Lk) (x : ByteArray) (h : x ∈ a.σ.todo) : x ∈ (a.look m).σ.todo := by
  induction m generalizing a with
  | nil => exact h
  | cons s m ih => exact ih (a.one s) (one_todo a s x h)
theorem mk_univ {l : List ByteArray} {a : Lk} (hi : LInv l a) (hf : a.Fits) (hN : a.σ.N ≤ 20000000) (hU : ∀ s ∈ a.U, ∀ p ∈ ps s, p ∈ a.U) : Univ a :=
  ⟨hU, hi.ck, hi.il, hi.len, hN, hf.il⟩
structure Opened (l : List ByteArray) (a : Lk) (T : List ByteArray) : Prop where
  inv : LInv l a
  fits : a.Fits
  N : a.σ.N ≤ 2000000
  U : ∀ x, x ∈ a.U ↔ ∃ t ∈ T, x ∈ (subsOf t).1
  T : ∀ t ∈ T, check t = 0
  l : ∀ s ∈ l, s ∈ a.σ.todo
theorem opened_ok {l : List ByteArray} (hn : l.length ≤ 200) (he : errOf l = 0) : Opened l (Lk.opened l) l := by
  have hck := errOf_ok.1 he
  obtain ⟨h1, h2⟩ := (start_inv l).adds l hck
  obtain ⟨f1, f2⟩ := adds_ok Lk.start start_fits l hck
  have hm : ∀ s ∈ l, s ∈ (l.foldl Lk.addT Lk.start).U ∧ Dv l s := fun s hs => ⟨(h2 s).2 (.inr ⟨s, hs, self_subs (hck s hs)⟩), .mem hs⟩
  obtain ⟨g1, g2, g3, g4⟩ := h1.gets l hm
  obtain ⟨k1, k2⟩ := gets_ok _ f1 l
  have h0 : Lk.start.σ.N = 0 := rfl
  refine ⟨g1, k1, ?_, fun x => ?_, hck, g4⟩
  · show (l.foldl Lk.getT (l.foldl Lk.addT Lk.start)).σ.N ≤ _
    omega
  · show x ∈ (l.foldl Lk.getT (l.foldl Lk.addT Lk.start)).U ↔ _
    rw [g2, h2 x]
    constructor
    · rintro (h | h)
      · cases h
      · exact h
    · exact .inr
theorem Opened.goal {l : List ByteArray} {a : Lk} {T : List ByteArray} (h : Opened l a T) (hN : a.σ.N ≤ 1800000) {g : ByteArray} (hg : check g = 0) : Opened l (a.look (subsOf g).1) (T ++ [g]) := by
  have hs : ∀ x ∈ (subsOf g).1, check x = 0 := fun x hx => check_subs hg hx
  have h1 := a.look_N _ hs
  have h2 := subs_count hg
  refine ⟨h.inv.look _ hs, h.fits.look _ hs, by omega, fun x => ?_, fun t ht => ?_, fun s hs => look_todo _ _ _ (h.l s hs)⟩
  · rw [look_U, h.U x]
    constructor
    · rintro (⟨t, h1, h2⟩ | h1)
      · exact ⟨t, List.mem_append_left _ h1, h2⟩
      · exact ⟨g, by simp, h1⟩
    · rintro ⟨t, q1, q2⟩
      rcases List.mem_append.1 q1 with q3 | q3
      · exact .inl ⟨t, q3, q2⟩
      · rw [List.mem_singleton] at q3; subst q3; exact .inr q2
  · rcases List.mem_append.1 ht with ht | ht
    · exact h.T t ht
    · rw [List.mem_singleton] at ht; subst ht; exact hg
theorem Opened.univ {l : List ByteArray} {a : Lk} {T : List ByteArray} (h : Opened l a T) : Univ a :=
  mk_univ h.inv h.fits (by have := h.N; omega) fun s hs p hp => by
    obtain ⟨t, h1, h2⟩ := (h.U s).1 hs
    exact (h.U p).2 ⟨t, h1, subs_parts (h.T t h1) h2 hp⟩
theorem opened_N {l : List ByteArray} (hn : l.length ≤ 200) (he : errOf l = 0) : (Lk.opened l).σ.N ≤ 1700000 := by
  have hck := errOf_ok.1 he
  obtain ⟨f1, f2⟩ := adds_ok Lk.start start_fits l hck
  obtain ⟨k1, k2⟩ := gets_ok _ f1 l
  have h0 : Lk.start.σ.N = 0 := rfl
  show (l.foldl Lk.getT (l.foldl Lk.addT Lk.start)).σ.N ≤ _
  omega
/-- The run of the queue over what was opened. -/
theorem run_in {X : Xs} {base wb bh bm bi : Nat} {w : World} {l T : List ByteArray} {a : Lk} (h : KU X base wb bh bm bi w a) (ho : Opened l a T) :
    Calls Tryz.prog 44 #[.pointer (some ⟨wb, 0, none⟩)] w fun e w' => e = .returned (.tuple #[]) ∧ RowKit.Below base w w' ∧ ∃ σ, KU X base wb bh bm bi w' ⟨σ, a.U, a.IL⟩ ∧ (∀ t ∈ a.U, (σ.has t = true ↔ Dv l t)) ∧ (∀ t, σ.has t = true → t ∈ a.U) ∧ σ.N ≤ 20000000 := by
  have hu := ho.univ
  have hhas : ∀ s, s ∈ a.σ.todo → a.σ.has s = true := fun s hs => by rw [ho.inv.has s]; exact decide_eq_true hs
  refine (run_any h (QInv l a) a.U.length (QInv.first ho.inv) (fun k σ t r hi ht => hi.step hu ht)).mono ?_
  rintro e w' ⟨rfl, hb, k, σ, hi, ht, hk⟩
  refine ⟨rfl, hb, σ, hk, hi.done hu ht (fun s hs => hhas s (ho.l s hs)) (fun s hs hk => hhas s (ho.inv.cst s hs hk)), fun t ht => hi.has_U ht, ?_⟩
  obtain ⟨D, h1, _⟩ := hi
  have g1 := nodup_len _ _ h1.nd h1.sub
  have g2 := h1.N
  have g3 := hu.len
  have g4 := ho.N
  omega
/-- Whether one comes to g. -/
def dvB (l : List ByteArray) (g : ByteArray) : Bool := ((Lk.opened l).look (subsOf g).1).last.has g
theorem Opened.last {l : List ByteArray} {a : Lk} {T : List ByteArray} (ho : Opened l a T) : ∀ t ∈ a.U, (a.last.has t = true ↔ Dv l t) := by
  have hhas : ∀ s, s ∈ a.σ.todo → a.σ.has s = true := fun s hs => by rw [ho.inv.has s]; exact decide_eq_true hs
  exact last_iff ho.univ ho.inv (fun s hs => hhas s (ho.l s hs)) (fun s hs hk => hhas s (ho.inv.cst s hs hk))
theorem dvB_iff {l : List ByteArray} {g : ByteArray} (hn : l.length ≤ 200) (he : errOf l = 0) (hg : check g = 0) : dvB l g = true ↔ Dv l g := by
  have hN := opened_N hn he
  have hgoal := (opened_ok hn he).goal (by omega) hg
  exact hgoal.last g ((hgoal.U g).2 ⟨g, by simp, self_subs hg⟩)
/-- What 'Derives' answers. -/
def derOf (l : List ByteArray) (g : ByteArray) : Bool × Int :=
  if l.length > 200 then (false, 3) else if errOf l = 0 then (if check g = 0 then (dvB l g, 0) else (false, check g)) else (false, errOf l)
def DerEnd (l : List ByteArray) (g : ByteArray) (e : Ending) : Prop := e = .returned (.tuple #[.bool (derOf l g).1, .int .i64 (derOf l g).2])
set_option maxHeartbeats 1000000 in
set_option maxRecDepth 100000 in
theorem derives_any (A : Option Addr) (c : Nat) (l : List ByteArray) (g : ByteArray) (w : World) (hr : Kd.C Kd.string w A l.length l) (hc : l.length ≤ c) :
    Calls Tryz.prog 17 #[.slice A l.length c, .string g] w fun e w' => DerEnd l g e ∧ RowKit.Below w.heap.size w w' := by
  have ho := opened_any A c l w hr hc
  by_cases h1 : l.length > 200
  · have hd : derOf l g = (false, 3) := by unfold derOf; rw [if_pos h1]
    have HD := Lib.hid hd
    have HL := Lib.hid h1
    clear hd hr hc h1
    go_enter Tryz.func17, Tryz.ntmps17
    go_wp2_with (go_at_call 42; refine ho.mono ?_; clear ho; rintro e w1 ⟨hb, he⟩; (unfold OpenEnd at he); (rw [if_pos HL.out] at he); subst he; have HB := Lib.hid hb; clear hb)
    go_ret2
    exact ⟨by unfold DerEnd; rw [HD.out]; rfl, HB.out⟩
  by_cases h2 : errOf l = 0
  · have hop := opened_ok (by omega) h2
    have hN := opened_N (by omega) h2
    have HL := Lib.hid h1; have HE := Lib.hid h2
    clear hr hc
    by_cases h3 : check g = 0
    · have hgoal := hop.goal (by omega) h3
      have hgU : g ∈ ((Lk.opened l).look (subsOf g).1).U := (hgoal.U g).2 ⟨g, by simp, self_subs h3⟩
      have hd : derOf l g = (dvB l g, 0) := by unfold derOf; rw [if_neg h1, if_pos h2, if_pos h3]
      have hgs := check_size h3
      have HD := Lib.hid hd; have HOP := Lib.hid hop; have HG := Lib.hid hgoal; have HGU := Lib.hid hgU; have H3 := Lib.hid h3
      clear hd hop hgoal hgU h1 h2 h3
      go_enter Tryz.func17, Tryz.ntmps17
      go_wp2_with (go_at_call 42; refine ho.mono ?_; clear ho; rintro e w1 ⟨hb, he⟩; (unfold OpenEnd at he); (rw [if_neg HL.out, if_pos HE.out] at he); obtain ⟨wb, bh, bm, bi, rfl, hk⟩ := he; have HB := Lib.hid hb; have HLK := Lib.hid (look_any hk HOP.out.fits g (by omega)); clear hb hk)
      have hlk := HLK.out
      rw [H3.out] at hlk
      clear HLK
      go_wp2_with (go_at_call 43; refine hlk.mono ?_; clear hlk; rintro e w2 ⟨rfl, hb, hk⟩; have HB2 := Lib.hid (HB.out.trans hb); have HRN := Lib.hid (run_in (hk rfl) HG.out); clear hb hk)
      have hrn := HRN.out
      clear HRN
      go_wp2_with (go_at_call 44; refine hrn.mono ?_; clear hrn; rintro e w3 ⟨rfl, hb, σ, hk, hiff, _, _⟩; have HB3 := Lib.hid (HB2.out.trans hb); have HHS := Lib.hid (ku_has hk g (by unfold maxLen; omega)); have HIF := Lib.hid (hiff g HGU.out); clear hb hk hiff)
      have hhs := HHS.out
      have hval : σ.has g = dvB l g := by rw [Bool.eq_iff_iff, HIF.out, dvB_iff (by have := HL.out; omega) HE.out H3.out]
      rw [hval] at hhs
      clear HHS
      go_wp2_with (go_at_call 45; refine hhs.mono ?_; clear hhs; rintro e w4 ⟨rfl, hb, hk⟩; have HB4 := Lib.hid (HB3.out.trans hb); clear hb hk)
      go_ret2
      exact ⟨by unfold DerEnd; rw [HD.out]; rfl, HB4.out⟩
    · have hd : derOf l g = (false, check g) := by unfold derOf; rw [if_neg h1, if_pos h2, if_neg h3]
      have hne : (check g != 0) = true := bne_iff_ne.mpr h3
      have HD := Lib.hid hd; have HOP := Lib.hid hop
      generalize hcg : check g = cg at hne HD
      have HCG := Lib.hid hcg
      clear hd hop h1 h2 h3 hcg
      go_enter Tryz.func17, Tryz.ntmps17
      go_wp2_with (go_at_call 42; refine ho.mono ?_; clear ho; rintro e w1 ⟨hb, he⟩; (unfold OpenEnd at he); (rw [if_neg HL.out, if_pos HE.out] at he); obtain ⟨wb, bh, bm, bi, rfl, hk⟩ := he; have HB := Lib.hid hb; have HLK := Lib.hid (look_any hk HOP.out.fits g (by omega)); clear hb hk)
      have hlk := HLK.out
      rw [HCG.out] at hlk
      clear HLK
      go_wp2_with (go_at_call 43; refine hlk.mono ?_; clear hlk; rintro e w2 ⟨rfl, hb, hk⟩; have HB2 := Lib.hid (HB.out.trans hb); clear hb hk)
      go_ret2
      exact ⟨by unfold DerEnd; rw [HD.out]; rfl, HB2.out⟩
  · have hd : derOf l g = (false, errOf l) := by unfold derOf; rw [if_neg h1, if_neg h2]
    have hne : (errOf l != 0) = true := bne_iff_ne.mpr h2
    have HD := Lib.hid hd; have HL := Lib.hid h1; have HE := Lib.hid h2
    clear hd hr hc h1 h2
    generalize hcs : errOf l = cs at hne HD
    have HCS := Lib.hid hcs
    clear hcs
    go_enter Tryz.func17, Tryz.ntmps17
    go_wp2_with (go_at_call 42; refine ho.mono ?_; clear ho; rintro e w1 ⟨hb, he⟩; (unfold OpenEnd at he); (rw [if_neg HL.out, if_neg HE.out, HCS.out] at he); subst he; have HB := Lib.hid hb; clear hb)
    go_ret2
    exact ⟨by unfold DerEnd; rw [HD.out]; rfl, HB.out⟩
end Go.Proofs.YtkmpfmhbkflgpaaGreatDoor.Kw
