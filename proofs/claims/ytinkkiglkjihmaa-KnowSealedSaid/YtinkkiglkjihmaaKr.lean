/- know: run. -/
import Derived.Test.YtinkkiglkjihmaaKk
set_option linter.unusedVariables false
set_option linter.unusedSimpArgs false
namespace Go.Proofs.Ytinkkiglkjihmaa.Kw
open Go.RowKit Go.Maps Go.WideMaps Go.Proofs.YtinkkiglkjihmaaW.PrintWords Go.Proofs.YtinkkiglkjihmaaW.PrintWords.Kd

/-- What a pass does with a term that has the popped one as a part. -/
def St.whole (σ : St) (s : ByteArray) : St := if σ.has s = true then σ.split (b0 s) (PFg s.data.toList) else if (PFg s.data.toList).all σ.has = true then σ.get s else σ
def St.pass (IL : List UInt8 → List ByteArray) (σ : St) (t : ByteArray) (r : List ByteArray) : St := (IL t.data.toList).foldl St.whole ((⟨σ.H, r, σ.N⟩ : St).split (b0 t) (PFg t.data.toList))
def St.Fit (σ : St) : Prop := σ.N + 10 < 100000000 ∧ σ.todo.length + 10 ≤ 100000000
structure PassOk (a : Lk) (σ : St) (t : ByteArray) (r : List ByteArray) : Prop where
  ct : TT.check t = 0
  tU : t ∈ a.U
  ws : ∀ s ∈ a.IL t.data.toList, TT.check s = 0 ∧ s ∈ a.U
  wl : (a.IL t.data.toList).length ≤ 100000000
  fit0 : St.Fit ⟨σ.H, r, σ.N⟩
  fit : ∀ j, St.Fit (((a.IL t.data.toList).take j).foldl St.whole ((⟨σ.H, r, σ.N⟩ : St).split (b0 t) (PFg t.data.toList)))
/-- The queue without its first. -/
theorem slice_one (g off n cap : Nat) (w : World) : (Instr.slice 22 (.slice (some ⟨g, off, none⟩) (n + 1) (cap + 1)) (some (.int .i64 1)) none none).run Try.prog w = .ok (.slice (some ⟨g, if cap = 0 then off else off + 1, none⟩) n cap) w := by
  have hu := Try.underlying22
  by_cases h : cap = 0
  · subst h
    unfold Instr.slice
    go_simp
    intro hh; omega
  · have h2 : ¬ cap + 1 = 1 := by omega
    rw [if_neg h]
    unfold Instr.slice
    go_simp
    intro hh; omega
theorem KX.pop {X : Xs} {base wb bh bm bi : Nat} {w : World} {M I : List UInt8 → Option Value} {PF IL : List UInt8 → List ByteArray} {σ : St} {t : ByteArray} {r : List ByteArray} (h : KX X base wb bh bm bi w M I PF IL σ) (ht : σ.todo = t :: r) :
    ∃ g off o1 cap, w.cell? ⟨wb, 3, none⟩ = some (.slice (some ⟨g, off, none⟩) (r.length + 1) (cap + 1)) ∧ w.cell? ⟨g, off, none⟩ = some (.string t) ∧ w.frozen? ⟨wb, 3, none⟩ = false ∧
      (∀ W, (Instr.slice 22 (.slice (some ⟨g, off, none⟩) (r.length + 1) (cap + 1)) (some (.int .i64 1)) none none).run Try.prog W = .ok (.slice (some ⟨g, o1, none⟩) r.length cap) W) ∧
      KX X base wb bh bm bi (w.setCell ⟨wb, 3, none⟩ (.slice (some ⟨g, o1, none⟩) r.length cap)) M I PF IL ⟨σ.H, r, σ.N⟩ ∧ RowKit.Below base w (w.setCell ⟨wb, 3, none⟩ (.slice (some ⟨g, o1, none⟩) r.length cap)) := by
  obtain ⟨h0, tv, own, s⟩ := h
  have hq := s.q
  rw [ht] at hq
  obtain ⟨g, off, cap, rfl, hc, hbg, hr⟩ := hq.rest
  have hwb := s.bs.1
  have hr' : QRow base w (.slice (some ⟨g, if cap = 0 then off else off + 1, none⟩) r.length cap) r := by
    by_cases hz : cap = 0
    · rw [if_pos hz]
      rcases hr with ⟨q, _⟩ | ⟨g', off', cap', cur, q, q1, q2, q3, q4, q5⟩
      · cases q
      · injection q with e1 e2 e3
        injection e1 with e1
        injection e1 with e1 e4
        subst e1; subst e3; subst hz
        have hrl : r = [] := List.eq_nil_of_length_eq_zero (by omega)
        subst hrl
        exact .inr ⟨g, off, 0, cur, rfl, q1, q2, Nat.le_refl _, by omega, fun j x hj => by simp at hj⟩
    · rw [if_neg hz]; exact hr
  obtain ⟨o1, ho1⟩ : ∃ o1, o1 = (if cap = 0 then off else off + 1) := ⟨_, rfl⟩
  have hsl := fun W => slice_one g off r.length cap W
  rw [← ho1] at hr' hsl
  refine ⟨g, off, o1, cap, s.st.cell.2.2.2, hc, blk_frozen s.st 3, hsl, ⟨by simpa using h0, .slice (some ⟨g, o1, none⟩) r.length cap, own, ?_⟩, (RowKit.Below.refl _ _).setCell (p := ⟨wb, 3, none⟩) hwb _⟩
  have k4 : ∀ b, b ≠ wb → (w.setCell ⟨wb, 3, none⟩ (.slice (some ⟨g, o1, none⟩) r.length cap)).heap[b]? = w.heap[b]? := fun b hb => Below.heap_setCell _ _ _ _ hb
  have ko : ∀ b, own b ≠ .o → b ≠ wb := fun b hb e => hb (by rw [e]; exact s.oo.1)
  refine ⟨blk_set s.st 3 _, s.h.same (k4 bh (fun e => s.ne.1 e.symm)), s.m.same (k4 bm (fun e => s.ne.2.1 e.symm)), s.i.same (k4 bi (fun e => s.ne.2.2.1 e.symm)), hr'.same fun b hb => k4 b (ko b ?_), ?_, ?_, ?_, ?_, s.oo, s.hv, s.ne, s.bs⟩
  · have : own b = .q := s.qo b (by simpa [Value.ownBlock] using hb)
    rw [this]; simp
  · intro b hb
    exact s.qo b (by simpa [Value.ownBlock] using hb)
  · intro k v hk
    obtain ⟨r1, r2⟩ := s.mr k v hk
    exact ⟨r1.same fun b hb => k4 b (ko b (by rw [r2 b hb]; simp)), r2⟩
  · intro k v hk
    obtain ⟨r1, r2⟩ := s.ir k v hk
    exact ⟨r1.same fun b hb => k4 b (ko b (by rw [r2 b hb]; simp)), r2⟩
  · intro k v hk
    obtain ⟨r1, r2⟩ := s.xr k v hk
    exact ⟨r1.same fun b hb => k4 b (ko b (by rw [r2 b hb]; simp)), r2⟩
theorem KX.empty {X : Xs} {base wb bh bm bi : Nat} {w : World} {M I : List UInt8 → Option Value} {PF IL : List UInt8 → List ByteArray} {σ : St} (h : KX X base wb bh bm bi w M I PF IL σ) (ht : σ.todo = []) :
    ∃ A c, w.cell? ⟨wb, 3, none⟩ = some (.slice A 0 c) := by
  obtain ⟨h0, tv, own, s⟩ := h
  obtain ⟨A, c, e⟩ := s.q.form
  rw [ht] at e
  exact ⟨A, c, by rw [s.st.cell.2.2.2, e]; rfl⟩
/-- The wholes of a part, as they are looked up: the row stays as long as the map's entries do. -/
theorem KX.wholes {X : Xs} {base wb bh bm bi : Nat} {w : World} {M I : List UInt8 → Option Value} {PF IL : List UInt8 → List ByteArray} {σ : St} (h : KX X base wb bh bm bi w M I PF IL σ) (hI : ∀ k, I k = none → IL k = []) (t : ByteArray) (ht : t.size ≤ maxLen) :
    ∃ A c, (Instr.lookup 59 (.map (some bi)) (.string t) false).run Try.prog w = .ok (.slice A (IL t.data.toList).length c) w ∧
      ∀ (w1 : World) (σ1 : St), KX X base wb bh bm bi w1 M I PF IL σ1 → ∀ j x, (IL t.data.toList)[j]? = some x → ∃ g off, A = some ⟨g, off, none⟩ ∧ w1.cell? ⟨g, off + j, none⟩ = some (.string x) := by
  obtain ⟨_, tv, own, s⟩ := h
  have hl := s.i.look Try.underlying59 (zeroS w) t ht
  cases hk : I t.data.toList with
  | none =>
    rw [hk] at hl
    rw [hI _ hk]
    exact ⟨_, _, hl, fun _ _ _ j x hj => by simp at hj⟩
  | some v =>
    rw [hk] at hl
    obtain ⟨A, c, rfl⟩ := (s.ir _ _ hk).1.form
    refine ⟨A, c, hl, fun w1 σ1 h1 j x hj => ?_⟩
    obtain ⟨_, tv1, own1, s1⟩ := h1
    obtain ⟨g, off, e, hc⟩ := (s1.ir _ _ hk).1.cellAt.2 j x hj
    exact ⟨g, off, e, hc⟩
theorem KX.parts {X : Xs} {base wb bh bm bi : Nat} {w : World} {M I : List UInt8 → Option Value} {PF IL : List UInt8 → List ByteArray} {σ : St} (h : KX X base wb bh bm bi w M I PF IL σ) (t : ByteArray) (ht : t.size ≤ maxLen) (hM : (M t.data.toList).isSome = true) :
    ∃ A c, (Instr.lookup 59 (.map (some bm)) (.string t) false).run Try.prog w = .ok (.slice A (PF t.data.toList).length c) w ∧
      ∀ (w1 : World) (σ1 : St), KX X base wb bh bm bi w1 M I PF IL σ1 → ∀ j x, (PF t.data.toList)[j]? = some x → ∃ g off, A = some ⟨g, off, none⟩ ∧ w1.cell? ⟨g, off + j, none⟩ = some (.string x) := by
  obtain ⟨_, tv, own, s⟩ := h
  have hl := s.m.look Try.underlying59 (zeroS w) t ht
  obtain ⟨v, hk⟩ := Option.isSome_iff_exists.1 hM
  rw [hk] at hl
  obtain ⟨A, c, rfl⟩ := (s.mr _ _ hk).1.form
  refine ⟨A, c, hl, fun w1 σ1 h1 j x hj => ?_⟩
  obtain ⟨_, tv1, own1, s1⟩ := h1
  obtain ⟨g, off, e, hc⟩ := (s1.mr _ _ hk).1.cellAt.2 j x hj
  exact ⟨g, off, e, hc⟩
theorem split_in {X : Xs} {base wb bh bm bi : Nat} {w : World} {M I : List UInt8 → Option Value} {IL : List UInt8 → List ByteArray} {σ : St} (h : KX X base wb bh bm bi w M I PFg IL σ) (t : ByteArray) (hc : TT.check t = 0) (hM : (M t.data.toList).isSome = true) (hf : σ.Fit) :
    Calls Try.prog 44 #[.pointer (some ⟨wb, 0, none⟩), .string t] w fun e w' => e = .returned (.tuple #[]) ∧ RowKit.Below base w w' ∧ KX X base wb bh bm bi w' M I PFg IL (σ.split (b0 t) (PFg t.data.toList)) := by
  obtain ⟨hz0, hz1⟩ := check_size hc
  obtain ⟨f1, f2⟩ := hf
  have := split_any h t (by unfold maxLen; omega) hz0 hM (fun x hx => by have := check_size (check_part hc hx); unfold maxLen; omega) (fun hk => parts_two hc (by rw [← b0_at t hz0]; exact hk)) (by omega) (by omega)
  rw [b0_at t hz0] at this
  exact this
set_option maxHeartbeats 4000000 in
set_option maxRecDepth 100000 in
theorem run_any {X : Xs} {base wb bh bm bi : Nat} {w : World} {a : Lk} (h : KU X base wb bh bm bi w a) (Inv : Nat → St → Prop) (n : Nat) (h0 : Inv n a.σ)
    (hstep : ∀ k σ t r, Inv k σ → σ.todo = t :: r → PassOk a σ t r ∧ ∃ k', k = k' + 1 ∧ Inv k' (σ.pass a.IL t r)) :
    Calls Try.prog 26 #[.pointer (some ⟨wb, 0, none⟩)] w fun e w' => e = .returned (.tuple #[]) ∧ RowKit.Below base w w' ∧ ∃ k σ, Inv k σ ∧ σ.todo = [] ∧ KU X base wb bh bm bi w' ⟨σ, a.U, a.IL⟩ := by
  obtain ⟨U, hU⟩ : ∃ U, U = a.U := ⟨_, rfl⟩
  have HK := Lib.hid h; have HS := Lib.hid hstep; have HI := Lib.hid h0
  clear h hstep h0
  go_enter Try.func26, Try.ntmps26
  go_wp2_with fail
  go_loopg [2] n (fun k _ wr => ∃ σ, Inv k σ ∧ RowKit.Below base w wr ∧ KU X base wb bh bm bi wr ⟨σ, a.U, a.IL⟩)
  case atStart => exact ⟨a.σ, HI.out, RowKit.Below.refl _ _, HK.out⟩
  case round =>
    obtain ⟨σ, hinv, hbel, hku⟩ := hrel
    obtain ⟨M, I, hkx, hM, hI⟩ := hku
    obtain ⟨tv, c0, c1, c2, c3⟩ := hkx.wat
    have HBEL := Lib.hid hbel; have HKX := Lib.hid hkx; have HM := Lib.hid hM; have HII := Lib.hid hI; have HINV := Lib.hid hinv
    clear hbel hkx hM hI hinv
    cases htd : σ.todo with
    | nil =>
      obtain ⟨A, c, hc3⟩ := HKX.out.empty htd
      clear c3
      go_wp2_with fail
      refine Great.bodyPost_end0 rfl rfl ?_
      exact ⟨rfl, HBEL.out, _, σ, HINV.out, htd, M, I, HKX.out, HM.out, HII.out⟩
    | cons t r =>
      obtain ⟨ok, k', rfl, hinv'⟩ := HS.out _ σ t r HINV.out htd
      have HOK := Lib.hid ok; have HINV' := Lib.hid hinv'
      clear hinv' ok
      obtain ⟨g, off, o1, cap, hc3, hc4, hf3, hsl, hkx1, hb1⟩ := HKX.out.pop htd
      have HKX1 := Lib.hid hkx1; have HB1 := Lib.hid (HBEL.out.trans hb1)
      clear hkx1 hb1 c3 HKX HBEL HINV HI
      have hsp := split_in HKX1.out t HOK.out.ct (by rw [HM.out t]; exact decide_eq_true HOK.out.tU) HOK.out.fit0
      go_wp2_with fail
      go_step3
      go_wp2_with (go_at_call 44; refine hsp.mono ?_; clear hsp; rintro e w2 ⟨rfl, hb2, hk2⟩)
      go_step3
      have hw := hk2.wholes HII.out t (by have := check_size HOK.out.ct; unfold maxLen; omega)
      obtain ⟨A, c, hlk, hrow⟩ := hw
      obtain ⟨tv2, c0, c1, c2, c3⟩ := hk2.wat
      have hwl := HOK.out.wl
      have HWS := Lib.hid HOK.out.ws
      have HFT := Lib.hid HOK.out.fit
      have HPASS := Lib.hid (show σ.pass a.IL t r = (a.IL t.data.toList).foldl St.whole ((⟨σ.H, r, σ.N⟩ : St).split (b0 t) (PFg t.data.toList)) from rfl)
      have HK2 := Lib.hid hk2; have HB2 := Lib.hid (HB1.out.trans hb2); have HROW := Lib.hid hrow
      clear hk2 hb2 hrow HB1 HKX1 hc3 hc4 hf3 hsl
      generalize hws : a.IL t.data.toList = ws at hlk hwl HWS HFT HPASS HROW
      generalize (⟨σ.H, r, σ.N⟩ : St).split (b0 t) (PFg t.data.toList) = σ1 at HK2 HFT HPASS
      obtain ⟨nw, hnw⟩ : ∃ nw, nw = ws.length := ⟨_, rfl⟩
      rw [← hnw] at hwl hlk
      have HNW := Lib.hid hnw
      clear hnw hws
      go_wp2_with fail
      have hstage : ∀ j x, ws[j]? = some x → (ws.take (j + 1)).foldl St.whole σ1 = ((ws.take j).foldl St.whole σ1).whole x := by
        intro j x hj
        obtain ⟨h1, rfl⟩ := List.getElem?_eq_some_iff.1 hj
        rw [List.take_succ_eq_append_getElem h1, List.foldl_append]; rfl
      have HSTG := Lib.hid hstage
      clear hstage
      obtain ⟨wo, hwo⟩ : ∃ wo : World, wo = wr := ⟨_, rfl⟩
      go_loopw [37] (fun i wq => ∃ j : Nat, j ≤ nw ∧ i = .int .i64 j ∧ RowKit.Below base w wq ∧ KX X base wb bh bm bi wq M I PFg a.IL ((ws.take j).foldl St.whole σ1)) (fun i _ => nw - (intOf i).toNat)
      case atStart => exact ⟨0, Nat.zero_le _, rfl, HB2.out, HK2.out⟩
      case round =>
        obtain ⟨j, hj, rfl, hbel, hk⟩ := hrel
        by_cases hjl : j < nw
        · obtain ⟨s, hs⟩ : ∃ s, ws[j]? = some s := ⟨_, List.getElem?_eq_getElem (by have := HNW.out; omega)⟩
          obtain ⟨g3, off3, rfl, hcl⟩ := HROW.out _ _ hk j s hs
          obtain ⟨hcs, hsU⟩ := HWS.out s (List.mem_of_getElem? hs)
          have hft := HFT.out j
          have hstg := HSTG.out j s hs
          have hszs := check_size hcs
          generalize (ws.take j).foldl St.whole σ1 = σ2 at hk hft hstg
          have HSTG2 := Lib.hid hstg
          have hms : (M s.data.toList).isSome = true := by rw [HM.out s]; exact decide_eq_true hsU
          have hhas := kx_has hk s (by unfold maxLen; omega)
          have HK := Lib.hid hk; have HBEL := Lib.hid hbel; have HCS := Lib.hid hcs
          clear hstg hk hbel hs hcs
          cases hb : σ2.has s with
          | true =>
            have hwh : σ2.whole s = σ2.split (b0 s) (PFg s.data.toList) := by unfold St.whole; rw [if_pos hb]
            rw [hb] at hhas
            have HWH := Lib.hid hwh
            clear hwh
            go_wp2_with (go_at_call 33; refine hhas.mono ?_; clear hhas; rintro e w3 ⟨rfl, hb3, hk3⟩; have HB3 := Lib.hid (HBEL.out.trans hb3); have HSP := Lib.hid (split_in hk3 s HCS.out hms hft); clear hb3 hk3)
            have hsp := HSP.out
            clear HSP
            go_wp2_with (go_at_call 44; refine hsp.mono ?_; clear hsp; rintro e w4 ⟨rfl, hb4, hk4⟩; have HB4 := Lib.hid (HB3.out.trans hb4); have HK4 := Lib.hid hk4; clear hb4 hk4)
            go_roundw
            case rel => exact ⟨j + 1, by omega, by simp, HB4.out, by rw [HSTG2.out, HWH.out]; exact HK4.out⟩
            case measure => simp [intOf]; omega
          | false =>
            have hpc := parts_count HCS.out
            obtain ⟨A4, c4, hlk4, hrow4⟩ := HK.out.parts s (by unfold maxLen; omega) hms
            have HPC := Lib.hid (fun p (hp : p ∈ PFg s.data.toList) => check_part HCS.out hp)
            have hwn : σ2.whole s = if (PFg s.data.toList).all σ2.has = true then σ2.get s else σ2 := by unfold St.whole; rw [if_neg (by rw [hb]; simp)]
            have HWN := Lib.hid hwn
            rw [hb] at hhas
            clear hwn hlk4
            have HROW4 := Lib.hid hrow4
            clear hrow4
            generalize hps : PFg s.data.toList = ps at hpc HROW4 HPC HWN
            obtain ⟨np, hnp⟩ : ∃ np, np = ps.length := ⟨_, rfl⟩
            rw [← hnp] at hpc
            have HNP := Lib.hid hnp; have HPS := Lib.hid hps
            clear hnp hps
            have HMS := Lib.hid hms
            clear hms
            go_wp2_with (go_at_call 33; refine hhas.mono ?_; clear hhas; rintro e w3 ⟨rfl, hb3, hk3⟩; have HB3 := Lib.hid (HBEL.out.trans hb3); have HK3 := Lib.hid hk3; clear hb3 hk3; obtain ⟨A5, c5, hlk5, hrow5⟩ := HK3.out.parts s (by unfold maxLen; omega) HMS.out; (rw [HPS.out, ← HNP.out] at hlk5); obtain ⟨tv3, c0, c1, c2, c3⟩ := HK3.out.wat; (rw [HPS.out] at hrow5); have HROW5 := Lib.hid hrow5; clear hrow5)
            clear hlk5 c0 c1 c2 c3 HK HBEL HROW4
            obtain ⟨w3', hw3⟩ : ∃ w3' : World, w3' = w3 := ⟨_, rfl⟩
            go_loopw [54] (fun i wq => ∃ q : Nat, q ≤ np ∧ i = .int .i64 q ∧ (∀ x ∈ ps.take q, σ2.has x = true) ∧ RowKit.Below base w wq ∧ KX X base wb bh bm bi wq M I PFg a.IL σ2) (fun i _ => np - (intOf i).toNat)
            case atStart => exact ⟨0, Nat.zero_le _, rfl, fun x hx => by simp at hx, HB3.out, HK3.out⟩
            case round =>
              obtain ⟨q, hq, rfl, hall, hbel, hk⟩ := hrel
              have HALL := Lib.hid hall; have HBEL := Lib.hid hbel; have HK := Lib.hid hk
              clear hall
              by_cases hql : q < np
              · obtain ⟨p, hp⟩ : ∃ p, ps[q]? = some p := ⟨_, List.getElem?_eq_getElem (by have := HNP.out; omega)⟩
                obtain ⟨g6, off6, rfl, hcl6⟩ := HROW5.out _ _ hk q p hp
                have hpz := check_size (HPC.out p (List.mem_of_getElem? hp))
                have hhp := kx_has hk p (by unfold maxLen; omega)
                have htk : ps.take (q + 1) = ps.take q ++ [p] := by
                  obtain ⟨h1, rfl⟩ := List.getElem?_eq_some_iff.1 hp
                  exact List.take_succ_eq_append_getElem h1
                have HTK := Lib.hid htk; have HP := Lib.hid hp
                clear htk hp hk hbel
                cases hbp : σ2.has p with
                | true =>
                  rw [hbp] at hhp
                  have HBP := Lib.hid hbp
                  clear hbp
                  go_wp2_with (go_at_call 33; refine hhp.mono ?_; clear hhp; rintro e w6 ⟨rfl, hb6, hk6⟩; have HB6 := Lib.hid (HBEL.out.trans hb6); have HK6 := Lib.hid hk6; clear hb6 hk6)
                  go_roundw
                  case rel =>
                    refine ⟨q + 1, by omega, by simp, fun x hx => ?_, HB6.out, HK6.out⟩
                    rw [HTK.out, List.mem_append, List.mem_singleton] at hx
                    rcases hx with hx | rfl
                    · exact HALL.out x hx
                    · exact HBP.out
                  case measure => simp [intOf]; omega
                | false =>
                  rw [hbp] at hhp
                  have hna : ¬ ps.all σ2.has = true := by
                    rw [List.all_eq_true]; intro h; rw [h p (List.mem_of_getElem? HP.out)] at hbp; cases hbp
                  have HNA := Lib.hid hna
                  clear hna hbp
                  go_wp2_with (go_at_call 33; refine hhp.mono ?_; clear hhp; rintro e w6 ⟨rfl, hb6, hk6⟩; have HB6 := Lib.hid (HBEL.out.trans hb6); have HK6 := Lib.hid hk6; clear hb6 hk6)
                  go_roundw
                  case rel => exact ⟨j + 1, by omega, by simp, HB6.out, by rw [HSTG2.out, HWN.out, if_neg HNA.out]; exact HK6.out⟩
                  case measure => simp [intOf]; omega
              · obtain rfl : q = np := by omega
                have hya : ps.all σ2.has = true := by
                  rw [List.all_eq_true]; intro x hx
                  exact HALL.out x (by rw [HNP.out, List.take_length]; exact hx)
                have hget := kx_get hk s (by unfold maxLen; omega) (by have := hft.1; omega) (by have := hft.2; omega)
                have HYA := Lib.hid hya
                clear hya hk hbel
                go_wp2_with (go_at_call 43; refine hget.mono ?_; clear hget; rintro e w6 ⟨rfl, hb6, hk6⟩; have HB6 := Lib.hid (HBEL.out.trans hb6); have HK6 := Lib.hid hk6; clear hb6 hk6)
                go_roundw
                case rel => exact ⟨j + 1, by omega, by simp, HB6.out, by rw [HSTG2.out, HWN.out, if_pos HYA.out]; exact HK6.out⟩
                case measure => simp [intOf]; omega
        · obtain rfl : j = nw := by omega
          rw [HNW.out, List.take_length, ← HPASS.out] at hk
          have HK := Lib.hid hk; have HBEL := Lib.hid hbel
          clear hk hbel
          go_wp2_with fail
          rw [Exit.noGoto_normal]
          go_wp2_with fail
          go_roundg k'
          case measure => omega
          case rel => exact ⟨_, HINV'.out, HBEL.out, M, I, HK.out, HM.out, HII.out⟩
end Go.Proofs.Ytinkkiglkjihmaa.Kw
