/- term.Parts: its contract. -/
import Derived.Test.YtinkkiglkjihmaaMake
set_option linter.unusedVariables false
set_option linter.unusedSimpArgs false
namespace Go.Proofs.Ytinkkiglkjihmaa
open Go.RowKit Go.Proofs.YtinkkiglkjihmaaW.PrintWords Go.Proofs.YtinkkiglkjihmaaW.PrintLast
namespace Rdr
open TT (ar)

/-- Is p a beginning of s? -/
def pre (s p : ByteArray) : Bool := decide (p.size ≤ s.size) && ((s.extract 0 p.size).toList == p.toList)

set_option maxHeartbeats 400000 in
theorem prefix_lite (s p : ByteArray) (w : World) : Calls Try.prog 75 #[.string s, .string p] w fun e w' => e = .returned (.bool (pre s p)) ∧ w' = w := by
  by_cases h : p.size ≤ s.size
  · have e1 : pre s p = ((s.extract 0 p.size).toList == p.toList) := by unfold pre; rw [decide_eq_true h]; rfl
    have h1 : (p.size : Int) ≤ (s.size : Int) := by omega
    have hd : decide (p.size ≤ s.size) = true := decide_eq_true h
    have h2 : (0 : Int) ≤ (p.size : Int) := by omega
    have HE := Lib.hid e1; clear e1 h
    go_enter Try.func75, Try.ntmps75
    go_wp2
    go_ret
    rw [HE.out]
    exact ⟨rfl, rfl⟩
  · have e1 : pre s p = false := by unfold pre; rw [decide_eq_false h]; rfl
    have hd : decide (p.size ≤ s.size) = false := decide_eq_false h
    have h2 : (s.size : Int) < (p.size : Int) := by omega
    have HE := Lib.hid e1; clear e1 h
    go_enter Try.func75, Try.ntmps75
    go_wp2
    go_ret
    rw [HE.out]
    exact ⟨rfl, rfl⟩

set_option maxHeartbeats 400000 in
theorem prefix_any (s p : ByteArray) (w : World) : Calls Try.prog 60 #[.string s, .string p] w fun e w' => e = .returned (.bool (pre s p)) ∧ w' = w := by
  go_enter Try.func60, Try.ntmps60
  go_wp2_with (go_at_call 75; refine (prefix_lite s p w).mono ?_; rintro e w1 ⟨rfl, rfl⟩)
  go_ret
  exact ⟨rfl, rfl⟩

def PartsPost (s : ByteArray) (w : World) (e : Ending) (w' : World) : Prop :=
  ∃ v0_ : Value, e = .returned (.tuple #[.int .u8 (TT.partsOf s).1, v0_, .int .i64 (TT.partsOf s).2.2]) ∧ Kd.R Kd.string 23 w' w.heap.size (fun _ => True) v0_ (TT.partsOf s).2.1 ∧ Below w.heap.size w w'

theorem R_elems {w : World} {base e : Nat} {ok : Nat → Prop} {v : Value} {l : List ByteArray} (h : Kd.R Kd.string e w base ok v l) : w.ownsRow base e 1 v l.length (l.map Value.string) := by
  obtain ⟨_, inner, ho, hr1, hr2⟩ := h
  have : inner = l.map Value.string := by
    have hl : inner.length = l.length := by rw [hr1]; exact Nat.mul_one _
    apply List.ext_getElem (by simpa using hl)
    intro j h1 h2
    have h3 := hr2 j _ (List.getElem?_eq_getElem (show j < l.length by omega))
    have h4 : ((inner.drop (j * 1)).take 1) = [Value.string l[j]] := h3
    rw [Nat.mul_one, List.drop_eq_getElem_cons (by omega)] at h4
    simp only [List.take_succ_cons, List.take_zero, List.cons.injEq, and_true] at h4
    rw [h4]; simp
  rw [← this]
  exact ho

set_option maxHeartbeats 800000 in
theorem parts_bad (s : ByteArray) (w : World) (h : ¬ TT.check s = 0) : Calls Try.prog 52 #[.string s] w (PartsPost s w) := by
  have hp := Lib.hid (TT.partsOf_bad h)
  have hf : term_subs.f s = some ([], TT.check s) := by rw [term_subs.f, TT.subsOf_bad h]
  have HF := Lib.hid hf; clear hf
  have hb : (TT.check s != 0) = true := by simpa using h
  clear h
  go_enter Try.func52, Try.ntmps52
  go_wp2_with (go_at_call 55; refine (term_subs.calls s _ _ w HF.out).mono ?_; rintro e w1 ⟨v, rfl, _, hb1⟩; have HB := Lib.hid hb1; clear hb1)
  go_ret3
  refine ⟨.slice none 0 0, by rw [hp.out]; rfl, by rw [hp.out]; exact Kd.R_nil _ _ _ _ _, HB.out⟩

theorem byte0 {t : TT.Tm} (h : 0 < t.str.size) : t.str[0]'h = t.kind := by
  obtain ⟨r, hr⟩ := TT.enc_kind t
  have : t.str = TT.strOf (t.kind :: r) := by rw [TT.Tm.str, hr]
  simp only [this]
  rfl
theorem str_pos (t : TT.Tm) : 0 < t.str.size := by
  rw [TT.Tm.str, TT.strOf_size]; exact t.enc_pos

theorem byte_of {s : ByteArray} {t : TT.Tm} (hr : TT.read s = some t) : 0 < s.size ∧ ∀ h : 0 < s.size, s[0]'h = t.kind := by
  obtain ⟨_, rfl⟩ := TT.read_some hr
  exact ⟨str_pos t, fun h => byte0 h⟩

set_option maxHeartbeats 1600000 in
set_option maxRecDepth 100000 in
theorem parts_leaf (s : ByteArray) (t : TT.Tm) (w : World) (h : TT.check s = 0) (hr : TT.read s = some t) (ha : ar t.kind = 0) (hp : t.parts = []) : Calls Try.prog 52 #[.string s] w (PartsPost s w) := by
  have hpo := Lib.hid (TT.partsOf_ok h hr)
  have hf : term_subs.f s = some (t.subs.map TT.Tm.str, 0) := by rw [term_subs.f, TT.subsOf_ok h hr]
  obtain ⟨hs0, hk⟩ := byte_of hr
  have HK := Lib.hid (hk hs0)
  have HF := Lib.hid hf; have HA := Lib.hid ha; have HP := Lib.hid hp; clear hf h hr ha hp hk
  have h1 : (0 : Int) < (s.size : Int) := by omega
  have h2 : (1 : Int) ≤ (s.size : Int) := by omega
  go_enter Try.func52, Try.ntmps52
  go_wp2_with (go_at_call 55; refine (term_subs.calls s _ _ w HF.out).mono ?_; rintro e w1 ⟨v, rfl, hR, hb1⟩; have HB := Lib.hid hb1; have HR := Lib.hid hR; clear hb1 hR)
  rw [HK.out]
  refine (arity_any t.kind w1).mono ?_
  rintro e w2 ⟨rfl, hw2⟩
  subst hw2
  rw [HA.out]
  go_wp2_with fail
  refine wp_loop_rounds 1 ?_
  rw [rounds_succ]
  go_wp2_with fail
  go_ret3
  rw [HK.out]
  refine ⟨.slice none 0 0, by rw [hpo.out]; rfl, by rw [hpo.out, HP.out]; exact Kd.R_nil _ _ _ _ _, HB.out⟩

theorem pre_self (x : ByteArray) : pre x x = true := by
  unfold pre
  simp
theorem pre_app (x y : ByteArray) : pre (x ++ y) x = true := by
  unfold pre
  have h1 : x.size ≤ (x ++ y).size := by rw [ByteArray.size_append]; omega
  have h2 : (x ++ y).extract 0 x.size = x := by
    apply ByteArray.ext
    apply Array.ext'
    rw [ByteArray.data_extract, Array.toList_extract, List.extract_eq_take_drop, ByteArray.data_append, Array.toList_append, List.drop_zero, Nat.sub_zero]
    have : x.size = x.data.toList.length := by rw [Array.length_toList]; rfl
    rw [this, List.take_left]
  rw [h2]
  simp [h1]
theorem ext_app (x y : ByteArray) : (x ++ y).extract x.size (x ++ y).size = y := by
  apply ByteArray.ext
  apply Array.ext'
  have h1 : x.size = x.data.toList.length := by rw [Array.length_toList]; rfl
  have h2 : y.size = y.data.toList.length := by rw [Array.length_toList]; rfl
  rw [ByteArray.data_extract, Array.toList_extract, List.extract_eq_take_drop, ByteArray.data_append, Array.toList_append, ByteArray.size_append, h1, h2, List.drop_left]
  rw [Nat.add_sub_cancel_left, List.take_length]
theorem rest_two {s : ByteArray} {k : UInt8} {t u : TT.Tm} (hr : TT.read s = some (.two k t u)) : s.extract 1 s.size = t.str ++ u.str := by
  obtain ⟨_, rfl⟩ := TT.read_some hr
  apply ByteArray.ext
  apply Array.ext'
  rw [ByteArray.data_extract, Array.toList_extract, List.extract_eq_take_drop, ByteArray.data_append, Array.toList_append, TT.Tm.str, TT.strOf_data, TT.strOf_size, TT.Tm.str, TT.strOf_data, TT.Tm.str, TT.strOf_data]
  simp only [TT.Tm.enc, List.length_cons, List.drop_succ_cons, List.drop_zero, Nat.add_sub_cancel]
  rw [List.take_length]
theorem two_ar {s : ByteArray} {k : UInt8} {t u : TT.Tm} (hr : TT.read s = some (.two k t u)) : ar (TT.Tm.two k t u).kind = 2 := by
  obtain ⟨ho, _⟩ := TT.read_some hr
  have := TT.isTwo_ne ho.1
  show ar k = 2
  unfold ar
  rw [if_neg (by simp [this.1, this.2.1]), if_neg this.2.2, if_pos ho.1]
theorem subs_ok : ∀ {t : TT.Tm}, t.ok → ∀ x ∈ t.subs, x.ok
  | .nonce _ _, _, x, hx => by simp [TT.Tm.subs] at hx; subst hx; trivial
  | .const _, h, x, hx => by simp [TT.Tm.subs] at hx; subst hx; exact h
  | .hash t, h, x, hx => by
    simp only [TT.Tm.subs, List.mem_cons] at hx
    rcases hx with rfl | hx
    · exact h
    · exact subs_ok (t := t) h x hx
  | .two k a b, h, x, hx => by
    simp only [TT.Tm.subs, List.mem_cons, List.mem_append] at hx
    rcases hx with rfl | hx | hx
    · exact h
    · exact subs_ok (t := a) h.2.1 x hx
    · exact subs_ok (t := b) h.2.2 x hx
/-- A term that a term's text begins with is that term. -/
theorem pre_term {z u : TT.Tm} (hz : z.ok) (hu : u.ok) (h : pre u.str z.str = true) : z = u := by
  unfold pre at h
  simp only [Bool.and_eq_true, decide_eq_true_eq, beq_iff_eq] at h
  have e : (u.str.extract 0 z.str.size).data.toList = z.enc := by
    have h2 := h.2
    have : ∀ b : ByteArray, b.toList = b.data.toList := fun b => by rw [Go.ByteArray.toList_eq]
    rw [this, this] at h2
    rw [h2, TT.Tm.str, TT.strOf_data]
  rw [ByteArray.data_extract, Array.toList_extract, List.extract_eq_take_drop, List.drop_zero] at e
  have e4 : u.str.data.toList = u.enc := by rw [TT.Tm.str, TT.strOf_data]
  rw [e4] at e
  have h3 : z.enc ++ u.enc.drop (z.str.size - 0) = u.enc ++ [] := by
    rw [← e, List.take_append_drop, List.append_nil]
  exact (TT.enc_prefix hz hu h3).1
theorem HOWN_le {w : World} {base e n : Nat} {v : Value} {xs : List Value} (h : w.ownsRow base e 1 v n xs) : n ≤ maxLen := by
  rcases h.2 with ⟨_, h0⟩ | ⟨g, cap, cur, _, _, _, h1, h2, _⟩
  · omega
  · omega
theorem two_ok {s : ByteArray} {k : UInt8} {t u : TT.Tm} (hr : TT.read s = some (.two k t u)) : u.ok := (TT.read_some hr).1.2.2
theorem cell_two {s : ByteArray} {k : UInt8} {t u : TT.Tm} {w3 w4 : World} {gr cr n B e : Nat} (hr : TT.read s = some (.two k t u)) (hown : w3.ownsRow B e 1 (.slice (some ⟨gr, 0, none⟩) n cr) n (((TT.Tm.two k t u).subs.map TT.Tm.str).map Value.string))
    (hb : Below w3.heap.size w3 w4) (hn : ((TT.Tm.two k t u).subs.map TT.Tm.str).length = n) (hl : n = 1 + t.subs.length + u.subs.length) (j : Nat) (hj : j ≤ t.subs.length) :
    ∃ z : TT.Tm, z.ok ∧ w4.cell? ⟨gr, 1 + j, none⟩ = some (.string z.str) ∧ (j = t.subs.length → z = u) := by
  obtain ⟨ho, _⟩ := TT.read_some hr
  obtain ⟨r, hu, _⟩ := u.subs_eq
  have h1 : 1 + j < (TT.Tm.two k t u).subs.length := by rw [List.length_map] at hn; rw [hn, hl, hu]; simp; omega
  refine ⟨(TT.Tm.two k t u).subs[1 + j], subs_ok ho _ (List.getElem_mem _), ?_, ?_⟩
  · have hc := hown.cellAt (1 + j) (by rw [List.length_map] at hn; omega)
    have hc' : w3.cell? ⟨gr, 1 + j, none⟩ = some (.string ((TT.Tm.two k t u).subs[1 + j]).str) := by
      rw [hc]
      simp [h1]
    exact pw_cell_below hb hc'
  · intro h
    subst h
    have : (TT.Tm.two k t u).subs[1 + t.subs.length] = (TT.Tm.two k t u :: (t.subs ++ u.subs))[1 + t.subs.length]'(by simpa [TT.Tm.subs] using h1) := rfl
    rw [this]
    simp [hu, Nat.add_comm 1]
theorem rest_hash {s : ByteArray} {t : TT.Tm} (hr : TT.read s = some (.hash t)) : s.extract 1 s.size = t.str := by
  obtain ⟨_, rfl⟩ := TT.read_some hr
  have h : ((TT.Tm.hash t).str.extract 1 (TT.Tm.hash t).str.size).data.toList = t.enc := by
    rw [ByteArray.data_extract, Array.toList_extract, List.extract_eq_take_drop, TT.Tm.str, TT.strOf_data, TT.strOf_size]
    simp [TT.Tm.enc]
  refine Eq.trans (TT.strOf_of _).symm ?_
  rw [h]
  rfl
set_option maxHeartbeats 1600000 in
set_option maxRecDepth 100000 in
theorem parts_hash (s : ByteArray) (t : TT.Tm) (w : World) (h : TT.check s = 0) (hr : TT.read s = some (.hash t)) : Calls Try.prog 52 #[.string s] w (PartsPost s w) := by
  have hpo := Lib.hid (TT.partsOf_ok h hr)
  have hf : term_subs.f s = some ((TT.Tm.hash t).subs.map TT.Tm.str, 0) := by rw [term_subs.f, TT.subsOf_ok h hr]
  obtain ⟨hs0, hk⟩ := byte_of hr
  have HK := Lib.hid (hk hs0)
  have HF := Lib.hid hf; have HR := Lib.hid hr; clear hf h hr hk
  have h1 : (0 : Int) < (s.size : Int) := by omega
  have h2 : (1 : Int) ≤ (s.size : Int) := by omega
  go_enter Try.func52, Try.ntmps52
  go_wp2_with (go_at_call 55; refine (term_subs.calls s _ _ w HF.out).mono ?_; rintro e w1 ⟨v, rfl, hR, hb1⟩; have HB := Lib.hid hb1; have HO := Lib.hid (R_elems hR); clear hb1 hR)
  rw [HK.out]
  refine (arity_any _ w1).mono ?_
  rintro e w2 ⟨rfl, hw2⟩
  subst hw2
  obtain ⟨gr, cr, hv⟩ := own_some HO.out (by simp [TT.Tm.subs])
  subst hv
  have hcap := own_cap HO.out
  have hlen : 2 ≤ ((TT.Tm.hash t).subs.map TT.Tm.str).length := by
    obtain ⟨r, hr, _⟩ := t.subs_eq
    simp [TT.Tm.subs, hr]
  generalize hn : ((TT.Tm.hash t).subs.map TT.Tm.str).length = n at *
  have HN := Lib.hid hn; clear hn
  have hc1 : ¬ cr = 1 := by omega
  have h3 : (1 : Int) ≤ (n : Int) := by omega
  rw [show ar (TT.Tm.hash t).kind = 1 from rfl]
  go_wp2_with fail
  refine wp_loop_rounds 2 ?_
  rw [rounds_succ]
  go_wp2_with fail
  have hrest := rest_hash HR.out
  generalize hre : s.extract 1 s.size = rest at *
  have HRE := Lib.hid hre; clear hre
  obtain ⟨x, hx⟩ : ∃ x, x = t.str := ⟨_, rfl⟩
  rw [← hx] at hrest
  have hpre : pre rest x = true := by rw [hrest]; exact pre_self x
  have hsz : (x.size : Int) ≤ (rest.size : Int) := by rw [hrest]; omega
  have hcell : w2.cell? ⟨gr, 1, none⟩ = some (.string x) := by
    rw [HO.out.cellAt 1 (by omega)]
    obtain ⟨r, hr, _⟩ := t.subs_eq
    simp [TT.Tm.subs, hr, hx]
  have HX := Lib.hid hx; have HRS := Lib.hid hrest; have HPRE := Lib.hid hpre; clear hx hrest hpre
  obtain ⟨i, hi, hz0, hz1, hz2⟩ := info_parts infoT
  have HI := Lib.hid (And.intro hi (And.intro hz0 (And.intro hz1 hz2))); clear hi hz0 hz1 hz2
  refine wp_loop_rounds 1 ?_
  rw [rounds_succ]
  go_wp2_with fail
  refine (prefix_any rest x w2).mono ?_
  rintro e w3 ⟨rfl, hw3⟩
  subst hw3
  rw [HPRE.out]
  go_wp2_with (at_builtin; refine wpList_append_own _ rfl (.tmp 36) (.tmp 38) 22 rfl w3.heap.size 23 i (.string ⟨#[]⟩) 1 16 Try.underlying22 HI.out.1 HI.out.2.1 HI.out.2.2.1 HI.out.2.2.2 rfl (by decide) (.slice none 0 0) 0 [] rfl (own_nil _ _ _ _) ⟨w3.heap.size, 0, none⟩ 1 1 [.string x] rfl rfl ?c1 ?c2 (by unfold maxLen; omega) (by omega) (by simp) ?_)
  case c1 =>
    intro j u hj
    match j, hj with
    | 0, hj => simp at hj; subst hj; exact cell_new w3 _ _
  case c2 => intro u hu; simp at hu; subst hu; rfl
  intro v' w4 hown' hgrow _
  have HO' := Lib.hid hown'
  have HB4 := Lib.hid (((Below.refl w3.heap.size w3).alloc (Nat.le_refl _) (.cells #[.string x] 23)).grown hgrow (by simp) (by simp [Value.ownBlock]))
  clear hown' hgrow
  go_wp2_with fail
  rw [rounds_succ]
  go_wp2_with fail
  go_ret3
  rw [HK.out]
  refine ⟨v', by rw [hpo.out]; rfl, ?_, HB.out.trans (HB4.out.mono HB.out.size)⟩
  rw [hpo.out]
  have h5 : Kd.R Kd.string 23 w4 w3.heap.size (fun _ => True) v' [x] := R_of_own (l := [x]) HO'.out
  rw [HX.out] at h5
  exact Kd.R_lower h5 HB.out.size

set_option maxHeartbeats 3200000 in
set_option maxRecDepth 100000 in
theorem parts_two (s : ByteArray) (k : UInt8) (t u : TT.Tm) (w : World) (h : TT.check s = 0) (hr : TT.read s = some (.two k t u)) : Calls Try.prog 52 #[.string s] w (PartsPost s w) := by
  have hpo := Lib.hid (TT.partsOf_ok h hr)
  have hf : term_subs.f s = some ((TT.Tm.two k t u).subs.map TT.Tm.str, 0) := by rw [term_subs.f, TT.subsOf_ok h hr]
  obtain ⟨hs0, hk⟩ := byte_of hr
  have HK := Lib.hid (hk hs0)
  have HF := Lib.hid hf; have HR := Lib.hid hr
  have HSZ := Lib.hid (check_le h)
  have HAR := Lib.hid (two_ar hr)
  clear hf h hr hk
  have h1 : (0 : Int) < (s.size : Int) := by omega
  have h2 : (1 : Int) ≤ (s.size : Int) := by omega
  go_enter Try.func52, Try.ntmps52
  go_wp2_with (go_at_call 55; refine (term_subs.calls s _ _ w HF.out).mono ?_; rintro e w1 ⟨v, rfl, hR, hb1⟩; have HB := Lib.hid hb1; have HO := Lib.hid (R_elems hR); clear hb1 hR)
  rw [HK.out]
  refine (arity_any _ w1).mono ?_
  rintro e w2 ⟨rfl, hw2⟩
  subst hw2
  obtain ⟨gr, cr, hv⟩ := own_some HO.out (by simp [TT.Tm.subs])
  subst hv
  have hcap := own_cap HO.out
  have hlen : ((TT.Tm.two k t u).subs.map TT.Tm.str).length = 1 + t.subs.length + u.subs.length := by
    simp [TT.Tm.subs]; omega
  have hltt : 1 ≤ t.subs.length ∧ 1 ≤ u.subs.length := by
    obtain ⟨r, hr, _⟩ := t.subs_eq
    obtain ⟨r', hr', _⟩ := u.subs_eq
    simp [hr, hr']
  generalize hn : ((TT.Tm.two k t u).subs.map TT.Tm.str).length = n at *
  have HN := Lib.hid hn; have HLEN := Lib.hid hlen; have hlen2 : 1 + t.subs.length + 1 ≤ n := by omega
  clear hn hlen
  have hc1 : ¬ cr = 1 := by omega
  have h3 : (1 : Int) ≤ (n : Int) := by omega
  have h3' : n ≤ 9223372036854775807 := by have := HOWN_le HO.out; unfold maxLen at this; omega
  rw [HAR.out]
  go_wp2_with fail
  refine wp_loop_rounds 3 ?_
  rw [rounds_succ]
  go_wp2_with fail
  have hrest := rest_two HR.out
  generalize hre : s.extract 1 s.size = rest at *
  have HRE := Lib.hid hre; clear hre
  obtain ⟨x, hx⟩ : ∃ x, x = t.str := ⟨_, rfl⟩
  obtain ⟨y, hy⟩ : ∃ y, y = u.str := ⟨_, rfl⟩
  rw [← hx, ← hy] at hrest
  have hpre : pre rest x = true := by rw [hrest]; exact pre_app x y
  have hex : rest.extract x.size rest.size = y := by rw [hrest]; exact ext_app x y
  have hsz : (x.size : Int) ≤ (rest.size : Int) := by rw [hrest, ByteArray.size_append]; omega
  have hcell : w2.cell? ⟨gr, 1, none⟩ = some (.string x) := by
    rw [HO.out.cellAt 1 (by omega)]
    obtain ⟨r, hr, _⟩ := t.subs_eq
    simp [TT.Tm.subs, hr, hx]
  have HX := Lib.hid hx; have HY := Lib.hid hy; have HRS := Lib.hid hrest; have HPRE := Lib.hid hpre; have HEX := Lib.hid hex; clear hx hy hrest hpre hex
  obtain ⟨i, hi, hz0, hz1, hz2⟩ := info_parts infoT
  have HI := Lib.hid (And.intro hi (And.intro hz0 (And.intro hz1 hz2))); clear hi hz0 hz1 hz2
  refine wp_loop_rounds 1 ?_
  rw [rounds_succ]
  go_wp2_with fail
  refine (prefix_any rest x w2).mono ?_
  rintro e w3 ⟨rfl, hw3⟩
  subst hw3
  rw [HPRE.out]
  go_wp2_with (at_builtin; refine wpList_append_own _ rfl (.tmp 36) (.tmp 38) 22 rfl w3.heap.size 23 i (.string ⟨#[]⟩) 1 16 Try.underlying22 HI.out.1 HI.out.2.1 HI.out.2.2.1 HI.out.2.2.2 rfl (by decide) (.slice none 0 0) 0 [] rfl (own_nil _ _ _ _) ⟨w3.heap.size, 0, none⟩ 1 1 [.string x] rfl rfl ?c1 ?c2 (by unfold maxLen; omega) (by omega) (by simp) ?_)
  case c1 =>
    intro j u hj
    match j, hj with
    | 0, hj => simp at hj; subst hj; exact cell_new w3 _ _
  case c2 => intro u hu; simp at hu; subst hu; rfl
  intro v' w4 hown' hgrow _
  have HO' := Lib.hid hown'
  have HB4 := Lib.hid (((Below.refl w3.heap.size w3).alloc (Nat.le_refl _) (.cells #[.string x] 23)).grown hgrow (by simp) (by simp [Value.ownBlock]))
  clear hown' hgrow hcell
  go_wp2_with fail
  rw [HEX.out, rounds_succ]
  go_wp2_with fail
  have HCL := Lib.hid (fun j (hj : j ≤ t.subs.length) => cell_two (w3 := w3) (w4 := w4) HR.out HO.out HB4.out HN.out HLEN.out j hj)
  go_loop [7, 8, 29] (fun a b i => ∃ j : Nat, j ≤ t.subs.length ∧ v' = a ∧ b = .string y ∧ i = .int .i64 j) (fun _ _ i => t.subs.length + 1 - (intOf i).toNat)
  case atStart => exact ⟨0, Nat.zero_le _, rfl, rfl, rfl⟩
  case round =>
    obtain ⟨j, hj, rfl, rfl, rfl⟩ := hrel
    obtain ⟨z, hz, hcz, hlast⟩ := HCL.out j hj
    have HLAST := Lib.hid hlast; have HZ := Lib.hid hz; clear hz hlast
    have hlt : (j : Int) < ((n - 1 : Nat) : Int) := by omega
    have hlt2 : j < n - 1 := by omega
    generalize hzz : z.str = zs at *
    have HZZ := Lib.hid hzz; clear hzz
    go_wp2_with fail
    refine (prefix_any y zs w4).mono ?_
    rintro e w5 ⟨rfl, hw5⟩
    subst hw5
    cases hpz : pre y zs with
    | false =>
      have HPZ := Lib.hid hpz; clear hpz
      have hj2 : j < t.subs.length := by
        rcases Nat.lt_or_ge j t.subs.length with h | h
        · exact h
        · have := HLAST.out (by omega)
          have h6 := HPZ.out
          rw [← HZZ.out, this, ← HY.out, pre_self] at h6
          cases h6
      go_wp2_with fail
      go_round
      case rel => exact ⟨j + 1, by omega, rfl, rfl, by go_num⟩
      case measure => simp [intOf]; omega
    | true =>
      have hzu : z = u := pre_term HZ.out (two_ok HR.out) (by rw [HZZ.out, ← HY.out]; exact hpz)
      have hzy : zs = y := by rw [← HZZ.out, hzu, HY.out]
      subst hzy
      clear hpz
      have hszz : (zs.size : Int) ≤ (zs.size : Int) := Int.le_refl _
      go_wp2_with (at_builtin; refine wpList_append_own _ rfl (.tmp 36) (.tmp 38) 22 rfl w3.heap.size 23 i (.string ⟨#[]⟩) 1 16 Try.underlying22 HI.out.1 HI.out.2.1 HI.out.2.2.1 HI.out.2.2.2 rfl (by decide) v' 1 [.string x] rfl (HO'.out.alloc _) ⟨w5.heap.size, 0, none⟩ 1 1 [.string zs] rfl rfl ?c1 ?c2 (by unfold maxLen; omega) (by omega) (by have := HB4.out.size; simp; omega) ?_)
      case c1 =>
        intro j u hj
        match j, hj with
        | 0, hj => simp at hj; subst hj; exact cell_new w5 _ _
      case c2 => intro u hu; simp at hu; subst hu; rfl
      intro v5 w6 hown5 hgrow5 _
      have HO5 := Lib.hid hown5
      have HB6 := Lib.hid ((HB4.out.alloc HB4.out.size (.cells #[.string zs] 23)).grown hgrow5 (by have := HB4.out.size; simp; omega) (fun k hk => own_base HO'.out k hk))
      clear hown5 hgrow5 hcz
      go_wp2_with fail
      rw [rounds_succ]
      go_wp2_with fail
      go_ret3
      rw [HK.out]
      refine ⟨v5, by rw [hpo.out]; rfl, ?_, HB.out.trans (HB6.out.mono HB.out.size)⟩
      rw [hpo.out]
      have h5 : Kd.R Kd.string 23 w6 w3.heap.size (fun _ => True) v5 [x, zs] := R_of_own (l := [x, zs]) HO5.out
      rw [HX.out, HY.out] at h5
      exact Kd.R_lower h5 HB.out.size

theorem parts_any (s : ByteArray) (w : World) : Calls Try.prog 52 #[.string s] w (PartsPost s w) := by
  by_cases h : TT.check s = 0
  · obtain ⟨t, hr, _⟩ := TT.check_ok h
    cases t with
    | nonce a b => exact parts_leaf s _ w h hr rfl rfl
    | const l => exact parts_leaf s _ w h hr rfl rfl
    | hash t => exact parts_hash s t w h hr
    | two k a b => exact parts_two s k a b w h hr
  · exact parts_bad s w h
end Rdr

def term_Parts.f (a0 : ByteArray) : Option (Int × List ByteArray × Int) := some (TT.partsOf a0)
theorem term_Parts.calls (a0 : ByteArray) (r1 : Int) (r2 : List ByteArray) (r3 : Int) (w : World) (h : term_Parts.f a0 = some (r1, r2, r3)) :
    Calls Try.prog 52 #[.string a0] w fun e w' => ∃ v1_ : Value, e = .returned (.tuple #[.int .u8 r1, v1_, .int .i64 r3]) ∧ Kd.R Kd.string 23 w' w.heap.size (fun _ => True) v1_ r2 ∧ Below w.heap.size w w' := by
  have h' := Option.some.inj h
  have e1 : (TT.partsOf a0).1 = r1 := by rw [h']
  have e2 : (TT.partsOf a0).2.1 = r2 := by rw [h']
  have e3 : (TT.partsOf a0).2.2 = r3 := by rw [h']
  rw [← e1, ← e2, ← e3]
  exact Rdr.parts_any a0 w
end Go.Proofs.Ytinkkiglkjihmaa
