/- know.Derives: its contract. -/
import Derived.Test.YtinkkiglkjihmaaKi
set_option linter.unusedVariables false
set_option linter.unusedSimpArgs false
namespace Go.Proofs.Ytinkkiglkjihmaa.Kw
open Go.RowKit Go.Maps Go.WideMaps Go.Proofs.YtinkkiglkjihmaaW.PrintWords Go.Proofs.YtinkkiglkjihmaaW.PrintWords.Kd
open TT (check subsOf)

theorem one_todo (a : Lk) (s x : ByteArray) (h : x ∈ a.σ.todo) : x ∈ (a.one s).σ.todo := by
  unfold Lk.one
  split
  · exact h
  · split
    · simp only [get_todo]
      split
      · exact h
      · exact List.mem_append_left _ h
    · exact h
theorem look_todo (m : List ByteArray) (a : Lk) (x : ByteArray) (h : x ∈ a.σ.todo) : x ∈ (a.look m).σ.todo := by
  induction m generalizing a with
  | nil => exact h
  | cons s m ih => exact ih (a.one s) (one_todo a s x h)
theorem mk_univ {l : List ByteArray} {a : Lk} (hi : LInv l a) (hf : a.Fits) (hN : a.σ.N ≤ 20000000) (hU : ∀ s ∈ a.U, ∀ p ∈ ps s, p ∈ a.U) : Univ a :=
  ⟨hU, hi.ck, hi.il, hi.len, hN, hf.il⟩
structure Opened (l : List ByteArray) (a : Lk) (T : List ByteArray) : Prop where
  inv : LInv l a
  fits : a.Fits
  N : a.σ.N ≤ 2000000
  U : ∀ x, x ∈ a.U ↔ ∃ t ∈ T, x ∈ (subsOf t).1
  T : ∀ t ∈ T, check t = 0
  l : ∀ s ∈ l, s ∈ a.σ.todo
theorem opened_ok {l : List ByteArray} (hn : l.length ≤ 200) (he : errOf l = 0) : Opened l (Lk.opened l) l := by
  have hck := errOf_ok.1 he
  obtain ⟨h1, h2⟩ := (start_inv l).adds l hck
  obtain ⟨f1, f2⟩ := adds_ok Lk.start start_fits l hck
  have hm : ∀ s ∈ l, s ∈ (l.foldl Lk.addT Lk.start).U ∧ Dv l s := fun s hs => ⟨(h2 s).2 (.inr ⟨s, hs, self_subs (hck s hs)⟩), .mem hs⟩
  obtain ⟨g1, g2, g3, g4⟩ := h1.gets l hm
  obtain ⟨k1, k2⟩ := gets_ok _ f1 l
  have h0 : Lk.start.σ.N = 0 := rfl
  refine ⟨g1, k1, ?_, fun x => ?_, hck, g4⟩
  · show (l.foldl Lk.getT (l.foldl Lk.addT Lk.start)).σ.N ≤ _
    omega
  · show x ∈ (l.foldl Lk.getT (l.foldl Lk.addT Lk.start)).U ↔ _
    rw [g2, h2 x]
    constructor
    · rintro (h | h)
      · cases h
      · exact h
    · exact .inr
theorem Opened.goal {l : List ByteArray} {a : Lk} {T : List ByteArray} (h : Opened l a T) (hN : a.σ.N ≤ 1800000) {g : ByteArray} (hg : check g = 0) : Opened l (a.look (subsOf g).1) (T ++ [g]) := by
  have hs : ∀ x ∈ (subsOf g).1, check x = 0 := fun x hx => check_subs hg hx
  have h1 := a.look_N _ hs
  have h2 := subs_count hg
  refine ⟨h.inv.look _ hs, h.fits.look _ hs, by omega, fun x => ?_, fun t ht => ?_, fun s hs => look_todo _ _ _ (h.l s hs)⟩
  · rw [look_U, h.U x]
    constructor
    · rintro (⟨t, h1, h2⟩ | h1)
      · exact ⟨t, List.mem_append_left _ h1, h2⟩
      · exact ⟨g, by simp, h1⟩
    · rintro ⟨t, q1, q2⟩
      rcases List.mem_append.1 q1 with q3 | q3
      · exact .inl ⟨t, q3, q2⟩
      · rw [List.mem_singleton] at q3; subst q3; exact .inr q2
  · rcases List.mem_append.1 ht with ht | ht
    · exact h.T t ht
    · rw [List.mem_singleton] at ht; subst ht; exact hg
theorem Opened.univ {l : List ByteArray} {a : Lk} {T : List ByteArray} (h : Opened l a T) : Univ a :=
  mk_univ h.inv h.fits (by have := h.N; omega) fun s hs p hp => by
    obtain ⟨t, h1, h2⟩ := (h.U s).1 hs
    exact (h.U p).2 ⟨t, h1, subs_parts (h.T t h1) h2 hp⟩
theorem opened_N {l : List ByteArray} (hn : l.length ≤ 200) (he : errOf l = 0) : (Lk.opened l).σ.N ≤ 1700000 := by
  have hck := errOf_ok.1 he
  obtain ⟨f1, f2⟩ := adds_ok Lk.start start_fits l hck
  obtain ⟨k1, k2⟩ := gets_ok _ f1 l
  have h0 : Lk.start.σ.N = 0 := rfl
  show (l.foldl Lk.getT (l.foldl Lk.addT Lk.start)).σ.N ≤ _
  omega
/-- The run of the queue over what was opened. -/
theorem run_in {X : Xs} {base wb bh bm bi : Nat} {w : World} {l T : List ByteArray} {a : Lk} (h : KU X base wb bh bm bi w a) (ho : Opened l a T) :
    Calls Try.prog 26 #[.pointer (some ⟨wb, 0, none⟩)] w fun e w' => e = .returned (.tuple #[]) ∧ RowKit.Below base w w' ∧ ∃ σ, KU X base wb bh bm bi w' ⟨σ, a.U, a.IL⟩ ∧ (∀ t ∈ a.U, (σ.has t = true ↔ Dv l t)) ∧ (∀ t, σ.has t = true → t ∈ a.U) ∧ σ.N ≤ 20000000 := by
  have hu := ho.univ
  have hhas : ∀ s, s ∈ a.σ.todo → a.σ.has s = true := fun s hs => by rw [ho.inv.has s]; exact decide_eq_true hs
  refine (run_any h (QInv l a) a.U.length (QInv.first ho.inv) (fun k σ t r hi ht => hi.step hu ht)).mono ?_
  rintro e w' ⟨rfl, hb, k, σ, hi, ht, hk⟩
  refine ⟨rfl, hb, σ, hk, hi.done hu ht (fun s hs => hhas s (ho.l s hs)) (fun s hs hk => hhas s (ho.inv.cst s hs hk)), fun t ht => hi.has_U ht, ?_⟩
  obtain ⟨D, h1, _⟩ := hi
  have g1 := nodup_len _ _ h1.nd h1.sub
  have g2 := h1.N
  have g3 := hu.len
  have g4 := ho.N
  omega
/-- Whether one comes to g. -/
def dvB (l : List ByteArray) (g : ByteArray) : Bool := ((Lk.opened l).look (subsOf g).1).last.has g
theorem Opened.last {l : List ByteArray} {a : Lk} {T : List ByteArray} (ho : Opened l a T) : ∀ t ∈ a.U, (a.last.has t = true ↔ Dv l t) := by
  have hhas : ∀ s, s ∈ a.σ.todo → a.σ.has s = true := fun s hs => by rw [ho.inv.has s]; exact decide_eq_true hs
  exact last_iff ho.univ ho.inv (fun s hs => hhas s (ho.l s hs)) (fun s hs hk => hhas s (ho.inv.cst s hs hk))
theorem dvB_iff {l : List ByteArray} {g : ByteArray} (hn : l.length ≤ 200) (he : errOf l = 0) (hg : check g = 0) : dvB l g = true ↔ Dv l g := by
  have hN := opened_N hn he
  have hgoal := (opened_ok hn he).goal (by omega) hg
  exact hgoal.last g ((hgoal.U g).2 ⟨g, by simp, self_subs hg⟩)
/-- What 'Derives' answers. -/
def derOf (l : List ByteArray) (g : ByteArray) : Bool × Int :=
  if l.length > 200 then (false, 3) else if errOf l = 0 then (if check g = 0 then (dvB l g, 0) else (false, check g)) else (false, errOf l)
def DerEnd (l : List ByteArray) (g : ByteArray) (e : Ending) : Prop := e = .returned (.tuple #[.bool (derOf l g).1, .int .i64 (derOf l g).2])
set_option maxHeartbeats 1000000 in
set_option maxRecDepth 100000 in
theorem derives_any (A : Option Addr) (c : Nat) (l : List ByteArray) (g : ByteArray) (w : World) (hr : Kd.C Kd.string w A l.length l) (hc : l.length ≤ c) :
    Calls Try.prog 15 #[.slice A l.length c, .string g] w fun e w' => DerEnd l g e ∧ RowKit.Below w.heap.size w w' := by
  have ho := opened_any A c l w hr hc
  by_cases h1 : l.length > 200
  · have hd : derOf l g = (false, 3) := by unfold derOf; rw [if_pos h1]
    have HD := Lib.hid hd
    have HL := Lib.hid h1
    clear hd hr hc h1
    go_enter Try.func15, Try.ntmps15
    go_wp2_with (go_at_call 25; refine ho.mono ?_; clear ho; rintro e w1 ⟨hb, he⟩; (unfold OpenEnd at he); (rw [if_pos HL.out] at he); subst he; have HB := Lib.hid hb; clear hb)
    go_ret2
    exact ⟨by unfold DerEnd; rw [HD.out]; rfl, HB.out⟩
  by_cases h2 : errOf l = 0
  · have hop := opened_ok (by omega) h2
    have hN := opened_N (by omega) h2
    have HL := Lib.hid h1; have HE := Lib.hid h2
    clear hr hc
    by_cases h3 : check g = 0
    · have hgoal := hop.goal (by omega) h3
      have hgU : g ∈ ((Lk.opened l).look (subsOf g).1).U := (hgoal.U g).2 ⟨g, by simp, self_subs h3⟩
      have hd : derOf l g = (dvB l g, 0) := by unfold derOf; rw [if_neg h1, if_pos h2, if_pos h3]
      have hgs := check_size h3
      have HD := Lib.hid hd; have HOP := Lib.hid hop; have HG := Lib.hid hgoal; have HGU := Lib.hid hgU; have H3 := Lib.hid h3
      clear hd hop hgoal hgU h1 h2 h3
      go_enter Try.func15, Try.ntmps15
      go_wp2_with (go_at_call 25; refine ho.mono ?_; clear ho; rintro e w1 ⟨hb, he⟩; (unfold OpenEnd at he); (rw [if_neg HL.out, if_pos HE.out] at he); obtain ⟨wb, bh, bm, bi, rfl, hk⟩ := he; have HB := Lib.hid hb; have HLK := Lib.hid (look_any hk HOP.out.fits g (by omega)); clear hb hk)
      have hlk := HLK.out
      rw [H3.out] at hlk
      clear HLK
      go_wp2_with (go_at_call 32; refine hlk.mono ?_; clear hlk; rintro e w2 ⟨rfl, hb, hk⟩; have HB2 := Lib.hid (HB.out.trans hb); have HRN := Lib.hid (run_in (hk rfl) HG.out); clear hb hk)
      have hrn := HRN.out
      clear HRN
      go_wp2_with (go_at_call 26; refine hrn.mono ?_; clear hrn; rintro e w3 ⟨rfl, hb, σ, hk, hiff, _, _⟩; have HB3 := Lib.hid (HB2.out.trans hb); have HHS := Lib.hid (ku_has hk g (by unfold maxLen; omega)); have HIF := Lib.hid (hiff g HGU.out); clear hb hk hiff)
      have hhs := HHS.out
      have hval : σ.has g = dvB l g := by rw [Bool.eq_iff_iff, HIF.out, dvB_iff (by have := HL.out; omega) HE.out H3.out]
      rw [hval] at hhs
      clear HHS
      go_wp2_with (go_at_call 33; refine hhs.mono ?_; clear hhs; rintro e w4 ⟨rfl, hb, hk⟩; have HB4 := Lib.hid (HB3.out.trans hb); clear hb hk)
      go_ret2
      exact ⟨by unfold DerEnd; rw [HD.out]; rfl, HB4.out⟩
    · have hd : derOf l g = (false, check g) := by unfold derOf; rw [if_neg h1, if_pos h2, if_neg h3]
      have hne : (check g != 0) = true := bne_iff_ne.mpr h3
      have HD := Lib.hid hd; have HOP := Lib.hid hop
      generalize hcg : check g = cg at hne HD
      have HCG := Lib.hid hcg
      clear hd hop h1 h2 h3 hcg
      go_enter Try.func15, Try.ntmps15
      go_wp2_with (go_at_call 25; refine ho.mono ?_; clear ho; rintro e w1 ⟨hb, he⟩; (unfold OpenEnd at he); (rw [if_neg HL.out, if_pos HE.out] at he); obtain ⟨wb, bh, bm, bi, rfl, hk⟩ := he; have HB := Lib.hid hb; have HLK := Lib.hid (look_any hk HOP.out.fits g (by omega)); clear hb hk)
      have hlk := HLK.out
      rw [HCG.out] at hlk
      clear HLK
      go_wp2_with (go_at_call 32; refine hlk.mono ?_; clear hlk; rintro e w2 ⟨rfl, hb, hk⟩; have HB2 := Lib.hid (HB.out.trans hb); clear hb hk)
      go_ret2
      exact ⟨by unfold DerEnd; rw [HD.out]; rfl, HB2.out⟩
  · have hd : derOf l g = (false, errOf l) := by unfold derOf; rw [if_neg h1, if_neg h2]
    have hne : (errOf l != 0) = true := bne_iff_ne.mpr h2
    have HD := Lib.hid hd; have HL := Lib.hid h1; have HE := Lib.hid h2
    clear hd hr hc h1 h2
    generalize hcs : errOf l = cs at hne HD
    have HCS := Lib.hid hcs
    clear hcs
    go_enter Try.func15, Try.ntmps15
    go_wp2_with (go_at_call 25; refine ho.mono ?_; clear ho; rintro e w1 ⟨hb, he⟩; (unfold OpenEnd at he); (rw [if_neg HL.out, if_neg HE.out, HCS.out] at he); subst he; have HB := Lib.hid hb; clear hb)
    go_ret2
    exact ⟨by unfold DerEnd; rw [HD.out]; rfl, HB.out⟩
end Go.Proofs.Ytinkkiglkjihmaa.Kw
