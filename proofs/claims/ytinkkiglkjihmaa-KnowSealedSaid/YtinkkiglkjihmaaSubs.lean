/- term.subs: the reader run under a defer that recovers: what it answers. -/
import Derived.Test.YtinkkiglkjihmaaRead
set_option linter.unusedVariables false
set_option linter.unusedSimpArgs false
namespace Go.Proofs.Ytinkkiglkjihmaa
open Go.RowKit Go.Proofs.YtinkkiglkjihmaaW.PrintWords Go.Proofs.YtinkkiglkjihmaaW.PrintLast
namespace Rdr

theorem catch_panicking (pl pe : Nat) (older : List PanicEntry) (w : World) (hl : w.heap[pl]? = some (.cells #[.slice none 0 0] 22 (0, 0))) (he : w.heap[pe]? = some (.cells #[.int .i64 0] 26 (0, 0))) (hne : pl ≠ pe) :
    CallsD Try.prog 62 #[.pointer (some ⟨pl, 0, none⟩), .pointer (some ⟨pe, 0, none⟩)] (.panicking ({ v := .iface 97 (.agg #[.int .i64 4]), recovered := false } :: older)) w fun e u' w' =>
      e = .returned (.tuple #[]) ∧ u' = .panicking ({ v := .iface 97 (.agg #[.int .i64 4]), recovered := true } :: older) ∧
        w'.heap[pl]? = some (.cells #[.slice none 0 0] 22 (0, 0)) ∧ w'.heap[pe]? = some (.cells #[.int .i64 4] 26 (0, 0)) ∧ Below (min pl pe) w w' := by
  have hta : ∀ w, (Instr.typeAssert (.iface 97 (.agg #[.int .i64 4])) 20 97 true).run Try.prog w = .ok (.tuple #[.agg #[.int .i64 4], .bool true]) w := fun _ => by kernel_rfl
  refine callsD_of_wpS Try.func62 rfl fun c₀ cs hu => ?_
  have e0 : #[Value.pointer (some ⟨pl, 0, none⟩), Value.pointer (some ⟨pe, 0, none⟩)] ++ Array.replicate (Try.f62.ntmps - #[Value.pointer (some ⟨pl, 0, none⟩), Value.pointer (some ⟨pe, 0, none⟩)].size) undef =
    #[.pointer (some ⟨pl, 0, none⟩), .pointer (some ⟨pe, 0, none⟩), undef, undef, undef, undef, undef, undef, undef, undef, undef, undef] := rfl
  rw [e0]
  apply wpS_seq
  apply wpS_region
  simp [wpOpsS, go_sem, recoverD, hu, hta, Exit.thenS]
  refine wpS_of_wp ?_
  obtain ⟨W, hW⟩ : ∃ W, W = w.alloc (.cells #[.int .i64 4] 97) := ⟨_, rfl⟩
  rw [← hW]
  have HW := Lib.hid hW
  have hbn : W.cell? ⟨w.heap.size, 0, none⟩ = some (.int .i64 4) := by rw [hW]; exact blk_cell (blk_new w _) 0
  have hl1 : W.heap[pl]? = some (.cells #[.slice none 0 0] 22 (0, 0)) := by rw [hW]; exact blk_alloc hl _
  have he1 : W.heap[pe]? = some (.cells #[.int .i64 0] 26 (0, 0)) := by rw [hW]; exact blk_alloc he _
  have hlc : W.cell? ⟨pl, 0, none⟩ = some (.slice none 0 0) := blk_cell hl1 0
  have hec : W.cell? ⟨pe, 0, none⟩ = some (.int .i64 0) := blk_cell he1 0
  have hlf : W.frozen? ⟨pl, 0, none⟩ = false := blk_frozen hl1 0
  have hef : W.frozen? ⟨pe, 0, none⟩ = false := blk_frozen he1 0
  have hbl : W.heap[w.heap.size]? = some (.cells #[.int .i64 4] 97 (0, 0)) := by rw [hW]; exact blk_new w _
  have n1 : w.heap.size ≠ pl := by have := blk_lt hl; omega
  have n2 : w.heap.size ≠ pe := by have := blk_lt he; omega
  have hb1 : (W.setCell ⟨pl, 0, none⟩ (.slice none 0 0)).cell? ⟨w.heap.size, 0, none⟩ = some (.int .i64 4) := blk_cell (blk_far hbl (p := ⟨pl, 0, none⟩) n1 _) 0
  have hb2 : (W.setCell ⟨pl, 0, none⟩ (.slice none 0 0)).cell? ⟨pe, 0, none⟩ = some (.int .i64 0) := blk_cell (blk_far he1 (p := ⟨pl, 0, none⟩) (Ne.symm hne) _) 0
  clear hW e0 hta hbl
  go_wp2
  go_region
  all_goals
    refine ⟨rfl, _, rfl, .tuple #[], by simp [results, Try.results62, go_sem], rfl, rfl, ?_, ?_, ?_⟩
    · exact blk_drew (blk_far (blk_put hl1 0 _ rfl) (p := ⟨pe, 0, none⟩) hne _)
    · exact blk_drew (blk_put (blk_far he1 (p := ⟨pl, 0, none⟩) (Ne.symm hne) _) 0 _ rfl)
    · rw [HW.out]
      exact ((((Below.refl _ w).alloc (by have := blk_lt hl; show min pl pe ≤ w.heap.size; omega) _).setCell (p := ⟨pl, 0, none⟩) (Nat.min_le_left _ _) _).setCell (p := ⟨pe, 0, none⟩) (Nat.min_le_right _ _) _).drew

theorem catch_idle (pl pe : Nat) (w : World) :
    CallsD Try.prog 62 #[.pointer (some ⟨pl, 0, none⟩), .pointer (some ⟨pe, 0, none⟩)] .returning w fun e u' w' => e = .returned (.tuple #[]) ∧ u' = .returning ∧ Below w.heap.size w w' := by
  have hta : ∀ w, (Instr.typeAssert .nilIface 20 97 true).run Try.prog w = .ok (.tuple #[.agg #[.int .i64 0], .bool false]) w := fun _ => by kernel_rfl
  refine callsD_of_wpS Try.func62 rfl fun c₀ cs hu => ?_
  have e0 : #[Value.pointer (some ⟨pl, 0, none⟩), Value.pointer (some ⟨pe, 0, none⟩)] ++ Array.replicate (Try.f62.ntmps - #[Value.pointer (some ⟨pl, 0, none⟩), Value.pointer (some ⟨pe, 0, none⟩)].size) undef =
    #[.pointer (some ⟨pl, 0, none⟩), .pointer (some ⟨pe, 0, none⟩), undef, undef, undef, undef, undef, undef, undef, undef, undef, undef] := rfl
  rw [e0]
  apply wpS_seq
  apply wpS_region
  simp [wpOpsS, go_sem, recoverD, hu, hta, Exit.thenS]
  refine wpS_of_wp ?_
  go_wp2
  exact ⟨rfl, .returning, by cases c₀; simp_all, .tuple #[], by simp [results, Try.results62, go_sem], rfl, rfl, (Below.refl _ _).alloc (Nat.le_refl _) _⟩

def SubsPost (a0 : ByteArray) (w : World) (e : Ending) (w' : World) : Prop :=
  ∃ v0_ : Value, e = .returned (.tuple #[v0_, .int .i64 (TT.subsOf a0).2]) ∧ Kd.R Kd.string 23 w' w.heap.size (fun _ => True) v0_ (TT.subsOf a0).1 ∧ Below w.heap.size w w'

theorem door (a0 : ByteArray) (w w'' : World) (v : Value) (x : Int) (tmps : Array Value) (h2 : tmps.getD 2 undef = .pointer (some ⟨w.heap.size, 0, none⟩)) (h3 : tmps.getD 3 undef = .pointer (some ⟨w.heap.size + 1, 0, none⟩))
    (hv : w''.heap[w.heap.size]? = some (.cells #[v] 22 (0, 0))) (hx : w''.heap[w.heap.size + 1]? = some (.cells #[.int .i64 x] 26 (0, 0)))
    (hR : SubsPost a0 w (.returned (.tuple #[v, .int .i64 x])) w'') : Leaves Try.prog Try.f55 tmps (SubsPost a0 w) [] .returning w'' := by
  have hc : w''.cell? ⟨w.heap.size, 0, none⟩ = some v := blk_cell hv 0
  have hd : w''.cell? ⟨w.heap.size + 1, 0, none⟩ = some (.int .i64 x) := blk_cell hx 0
  refine ⟨.tuple #[v, .int .i64 x], ?_, hR⟩
  have ul : Try.prog.underlying 22 = some (.slice 23) := Try.underlying22
  have ue : Try.prog.underlying 26 = some (.int .i64) := Try.underlying26
  unfold results
  rw [show Try.f55.results = [ResultVar.cell 2 22, ResultVar.cell 3 26].toArray from Try.results55, List.mapM_toArray]
  rw [Array.getD_eq_getD_getElem?] at h2 h3
  simp [List.mapM_cons, h2, h3, asAddr, go_sem, hc, hd, ul, ue]

set_option maxHeartbeats 800000 in
theorem subs_big (a0 : ByteArray) (w : World) (hs : 2000 < a0.size) : Calls Try.prog 55 #[.string a0] w (SubsPost a0 w) := by
  have hmf : ∀ (fn : Fn) (first cap : Array Value) (w : World), (Instr.makeFunc fn first cap).run Try.prog w = .ok (.func fn first cap) w := fun _ _ _ _ => rfl
  go_enter_defers Try.func55, Try.ntmps55
  go_wp2
  refine leaves_cons (f := 62) (args := #[.pointer (some ⟨w.heap.size, 0, none⟩), .pointer (some ⟨w.heap.size + 1, 0, none⟩)]) (by simp) (by simp [go_sem]) ?_
  refine (catch_idle _ _ _).mono ?_
  rintro e u' w'' ⟨rfl, rfl, hb⟩
  have e1 : TT.subsOf a0 = ([], 3) := by
    have : TT.check a0 = 3 := by unfold TT.check; rw [if_pos hs]
    unfold TT.subsOf
    rw [this]; rfl
  refine door a0 w w'' (.slice none 0 0) 3 _ rfl rfl (blk_below (blk_alloc (blk_new w _) _) hb) (blk_below (by have := blk_new (w.alloc (.cells #[.slice none 0 0] 22)) (.cells #[.int .i64 3] 26); simpa using this) hb) ⟨.slice none 0 0, ?_, ?_, ?_⟩
  · rw [e1]
  · rw [e1]; exact Kd.R_nil _ _ _ _ _
  · exact (((Below.refl _ w).alloc (Nat.le_refl _) _).alloc (by simp) _).trans (hb.mono (by simp; omega))

theorem subs_none {a0 : ByteArray} (hs : a0.size ≤ 2000) (h : TT.parse (a0.size + 1) a0.data.toList = none) : TT.subsOf a0 = ([], 4) := by
  have hr : TT.read a0 = none := by unfold TT.read; rw [h]
  have hc : TT.check a0 = 4 := by unfold TT.check; rw [if_neg (by omega), hr]
  unfold TT.subsOf
  rw [hc]; rfl
theorem subs_more {a0 : ByteArray} {t : TT.Tm} {x : UInt8} {r : List UInt8} (hs : a0.size ≤ 2000) (h : TT.parse (a0.size + 1) a0.data.toList = some (t, x :: r)) : TT.subsOf a0 = ([], 4) := by
  have hr : TT.read a0 = none := by unfold TT.read; rw [h]
  have hc : TT.check a0 = 4 := by unfold TT.check; rw [if_neg (by omega), hr]
  unfold TT.subsOf
  rw [hc]; rfl
theorem subs_deep {a0 : ByteArray} {t : TT.Tm} (hs : a0.size ≤ 2000) (h : TT.parse (a0.size + 1) a0.data.toList = some (t, [])) (hd : 60 < t.depth) : TT.subsOf a0 = ([], 3) := by
  have hr : TT.read a0 = some t := by unfold TT.read; rw [h]
  have hc : TT.check a0 = 3 := by unfold TT.check; rw [if_neg (by omega), hr]; simp only; rw [if_pos hd]
  unfold TT.subsOf
  rw [hc]; rfl
theorem subs_fine {a0 : ByteArray} {t : TT.Tm} (hs : a0.size ≤ 2000) (h : TT.parse (a0.size + 1) a0.data.toList = some (t, [])) (hd : t.depth ≤ 60) : TT.subsOf a0 = (t.subs.map TT.Tm.str, 0) := by
  have hr : TT.read a0 = some t := by unfold TT.read; rw [h]
  have hc : TT.check a0 = 0 := by unfold TT.check; rw [if_neg (by omega), hr]; simp only; rw [if_neg (by omega)]
  unfold TT.subsOf
  rw [hc, hr]; rfl

theorem R_of_own {w : World} {base : Nat} {v : Value} {l : List ByteArray} {e : Nat} (h : w.ownsRow base e 1 v l.length (l.map Value.string)) : Kd.R Kd.string e w base (fun _ => True) v l := by
  refine ⟨fun _ _ => trivial, l.map Value.string, h, by rw [List.length_map]; exact (Nat.mul_one _).symm, fun j p hj => ?_⟩
  show ((l.map Value.string).drop (j * 1)).take 1 = [Value.string p]
  have hlt : j < l.length := (List.getElem?_eq_some_iff.1 hj).1
  rw [Nat.mul_one, List.drop_eq_getElem_cons (by simpa using hlt)]
  simp only [List.take_succ_cons, List.take_zero, List.getElem_map]
  rw [(List.getElem?_eq_some_iff.1 hj).2]

/-- The way out where nothing was recovered. -/
theorem door_idle {a0 : ByteArray} {w w1 : World} {v : Value} {x : Int} {tmps : Array Value} (h2 : tmps.getD 2 undef = .pointer (some ⟨w.heap.size, 0, none⟩)) (h3 : tmps.getD 3 undef = .pointer (some ⟨w.heap.size + 1, 0, none⟩))
    (hb0 : w1.heap[w.heap.size]? = some (.cells #[.slice none 0 0] 22 (0, 0))) (hbe : w1.heap[w.heap.size + 1]? = some (.cells #[.int .i64 0] 26 (0, 0)))
    (hB : Below w.heap.size w w1) (e1 : x = (TT.subsOf a0).2)
    (hR : ∀ w2, Below w1.heap.size ((w1.setCell ⟨w.heap.size, 0, none⟩ v).setCell ⟨w.heap.size + 1, 0, none⟩ (.int .i64 x)) w2 → Kd.R Kd.string 23 w2 w.heap.size (fun _ => True) v (TT.subsOf a0).1) :
    Leaves Try.prog Try.f55 tmps (SubsPost a0 w) [{ target := .fn (.func 62) #[.pointer (some ⟨w.heap.size, 0, none⟩), .pointer (some ⟨w.heap.size + 1, 0, none⟩)], args := #[] }] .returning ((w1.setCell ⟨w.heap.size, 0, none⟩ v).setCell ⟨w.heap.size + 1, 0, none⟩ (.int .i64 x)) := by
  refine leaves_cons (f := 62) (args := #[.pointer (some ⟨w.heap.size, 0, none⟩), .pointer (some ⟨w.heap.size + 1, 0, none⟩)]) (by simp) (by simp [go_sem]) ?_
  refine (catch_idle _ _ _).mono ?_
  rintro e u' w'' ⟨rfl, rfl, hb⟩
  have hb' : Below w1.heap.size ((w1.setCell ⟨w.heap.size, 0, none⟩ v).setCell ⟨w.heap.size + 1, 0, none⟩ (.int .i64 x)) w'' := by simpa [World.setCell] using hb
  have k0 := blk_far (blk_put hb0 0 v rfl) (p := ⟨w.heap.size + 1, 0, none⟩) (by show w.heap.size ≠ w.heap.size + 1; omega) (.int .i64 x)
  have k1 := blk_put (blk_far hbe (p := ⟨w.heap.size, 0, none⟩) (by show w.heap.size + 1 ≠ w.heap.size; omega) v) 0 (.int .i64 x) rfl
  refine door a0 w w'' v x _ h2 h3 (blk_below k0 hb) (blk_below k1 hb) ⟨v, by rw [e1], hR _ hb', ?_⟩
  have hlt := blk_lt hb0
  exact ((hB.setCell (p := ⟨w.heap.size, 0, none⟩) (Nat.le_refl _) _).setCell (p := ⟨w.heap.size + 1, 0, none⟩) (by show w.heap.size ≤ w.heap.size + 1; omega) _).trans (hb'.mono (by omega))

set_option maxHeartbeats 1600000 in
theorem subs_any (a0 : ByteArray) (w : World) (hs : a0.size ≤ 2000) : Calls Try.prog 55 #[.string a0] w (SubsPost a0 w) := by
  have hmf : ∀ (fn : Fn) (first cap : Array Value) (w : World), (Instr.makeFunc fn first cap).run Try.prog w = .ok (.func fn first cap) w := fun _ _ _ _ => rfl
  obtain ⟨W, hW⟩ : ∃ W, W = ((w.alloc (.cells #[.slice none 0 0] 22)).alloc (.cells #[.int .i64 0] 26)).alloc (.cells #[.string a0, .int .i64 0, .slice none 0 0] 101) := ⟨_, rfl⟩
  have b0 : W.heap[w.heap.size]? = some (.cells #[.slice none 0 0] 22 (0, 0)) := by rw [hW]; exact blk_alloc (blk_alloc (blk_new w _) _) _
  have b1 : W.heap[w.heap.size + 1]? = some (.cells #[.int .i64 0] 26 (0, 0)) := by
    rw [hW]
    have := blk_new (w.alloc (.cells #[.slice none 0 0] 22)) (.cells #[.int .i64 0] 26)
    exact blk_alloc (by simpa using this) _
  have b2 : W.heap[w.heap.size + 2]? = some (.cells #[.string a0, .int .i64 0, .slice none 0 0] 101 (0, 0)) := by
    rw [hW]
    have := blk_new ((w.alloc (.cells #[.slice none 0 0] 22)).alloc (.cells #[.int .i64 0] 26)) (.cells #[.string a0, .int .i64 0, .slice none 0 0] 101)
    simpa using this
  have hB : Below w.heap.size w W := by rw [hW]; exact (((Below.refl _ w).alloc (Nat.le_refl _) _).alloc (by simp) _).alloc (by simp; omega) _
  have HS := Lib.hid hs
  have HBW := Lib.hid hB; have HW := Lib.hid hW; have HRD := Lib.hid (show Rd (w.heap.size + 1 + 1) a0 W 0 [] from ⟨_, b2, own_nil _ _ _ _⟩)
  have HB0 := Lib.hid b0; have HB1 := Lib.hid b1
  clear hB b0 b1 b2 hW
  go_enter_defers Try.func55, Try.ntmps55
  go_wp2_with fail
  rw [← HW.out]
  refine (read_any (a0.size + 1) (w.heap.size + 1 + 1) a0 0 1 [] W hs HRD.out (by omega) (by simp) (by omega) (by omega)).mono ?_
  rintro e w1 ⟨hb1, hm1⟩
  have HBL := Lib.hid (HBW.out.trans (hb1.mono (by omega)))
  have hb0 : w1.heap[w.heap.size]? = some (.cells #[.slice none 0 0] 22 (0, 0)) := (hb1.block _ (by omega)).trans HB0.out
  have hbe : w1.heap[w.heap.size + 1]? = some (.cells #[.int .i64 0] 26 (0, 0)) := (hb1.block _ (by omega)).trans HB1.out
  clear hb1 HB0 HB1 HBW HW HRD
  rw [List.drop_zero] at hm1
  cases hp : TT.parse (a0.size + 1) a0.data.toList with
  | none =>
    rw [hp] at hm1
    obtain rfl := hm1
    refine leaves_cons (f := 62) (args := #[.pointer (some ⟨w.heap.size, 0, none⟩), .pointer (some ⟨w.heap.size + 1, 0, none⟩)]) (by simp [broken]) (by simp [go_sem]) ?_
    refine (catch_panicking _ _ [] _ hb0 hbe (by omega)).mono ?_
    rintro e u' w'' ⟨rfl, rfl, hl, he, hb⟩
    refine door a0 w w'' (.slice none 0 0) 4 _ rfl rfl hl he ⟨.slice none 0 0, ?_, ?_, ?_⟩
    · rw [subs_none hs hp]
    · rw [subs_none hs hp]; exact Kd.R_nil _ _ _ _ _
    · exact HBL.out.trans (hb.mono (by omega))
  | some tr =>
    obtain ⟨t, r⟩ := tr
    rw [hp] at hm1
    obtain ⟨rfl, hR⟩ := hm1
    have HP := Lib.hid hp; clear hp
    have HR := Lib.hid hR
    obtain ⟨v, hv, hown⟩ := hR
    have c0 : w1.cell? ⟨w.heap.size, 0, none⟩ = some (.slice none 0 0) := blk_cell hb0 0
    have c1 : w1.cell? ⟨w.heap.size + 1, 0, none⟩ = some (.int .i64 0) := blk_cell hbe 0
    have f0 : w1.frozen? ⟨w.heap.size, 0, none⟩ = false := blk_frozen hb0 0
    have f1 : w1.frozen? ⟨w.heap.size + 1, 0, none⟩ = false := blk_frozen hbe 0
    have c2 : w1.cell? ⟨w.heap.size + 1 + 1, 1, none⟩ = some (.int .i64 ((a0.size - r.length : Nat) : Int)) := blk_cell hv 1
    have c3 : w1.cell? ⟨w.heap.size + 1 + 1, 2, none⟩ = some v := blk_cell hv 2
    have HV := Lib.hid hv; have HOWN := Lib.hid hown; have HC0 := Lib.hid hb0; have HCE := Lib.hid hbe
    clear hv hown hb0 hbe
    cases r with
    | cons x r =>
      have hlt : ((a0.size - (x :: r).length : Nat) : Int) < a0.size := by
        obtain ⟨e, _⟩ := TT.parse_sound _ _ _ _ HP.out
        have := congrArg List.length e
        rw [Array.length_toList] at this
        have h2 : a0.data.size = a0.size := rfl
        have := t.enc_pos
        simp only [List.length_append, List.length_cons] at *
        omega
      go_wp2
      have es := subs_more hs HP.out
      exact door_idle rfl rfl HC0.out HCE.out HBL.out (by rw [es]) (fun w2 _ => by rw [es]; exact Kd.R_nil _ _ _ _ _)
    | nil =>
      have hge : ((a0.size : Nat) : Int) ≤ ((a0.size - ([] : List UInt8).length : Nat) : Int) := by simp
      by_cases hd : t.depth ≤ 60
      · have hdt : decide (1 + t.depth ≤ 61) = true := by simp; omega
        rw [hdt]
        have es := Lib.hid (subs_fine hs HP.out hd)
        clear hdt
        obtain ⟨A, c, rfl⟩ := own_slice HOWN.out
        go_wp2
        have h0 : w1.ownsRow (w.heap.size + 1 + 1 + 1) 23 1 (.slice A t.subs.length c) (t.subs.map TT.Tm.str).length ((t.subs.map TT.Tm.str).map Value.string) := by simpa using HOWN.out
        have h1 := ownsRow_setCell_below h0 (a := ⟨w.heap.size, 0, none⟩) (by show w.heap.size < w.heap.size + 1 + 1 + 1; omega) (.slice A t.subs.length c)
        have h2 := ownsRow_setCell_below h1 (a := ⟨w.heap.size + 1, 0, none⟩) (by show w.heap.size + 1 < w.heap.size + 1 + 1 + 1; omega) (.int .i64 0)
        refine door_idle rfl rfl HC0.out HCE.out HBL.out (by rw [es.out]) (fun w2 hb => ?_)
        rw [es.out]
        have h3 := pw_own_below h2 (by simpa [World.setCell] using hb)
        exact Kd.R_lower (R_of_own h3) (by omega)
      · have hdf : decide (1 + t.depth ≤ 61) = false := by simp; omega
        rw [hdf]
        have es := Lib.hid (subs_deep hs HP.out (by omega))
        clear hdf
        go_wp2
        exact door_idle rfl rfl HC0.out HCE.out HBL.out (by rw [es.out]) (fun w2 _ => by rw [es.out]; exact Kd.R_nil _ _ _ _ _)
end Rdr

/-- What the program's 'subs' answers, told as the print tells functions. -/
def term_subs.f (a0 : ByteArray) : Option (List ByteArray × Int) := some (TT.subsOf a0)
theorem term_subs.calls (a0 : ByteArray) (r1 : List ByteArray) (r2 : Int) (w : World) (h : term_subs.f a0 = some (r1, r2)) :
    Calls Try.prog 55 #[.string a0] w fun e w' => ∃ v0_ : Value, e = .returned (.tuple #[v0_, .int .i64 r2]) ∧ Kd.R Kd.string 23 w' w.heap.size (fun _ => True) v0_ r1 ∧ Below w.heap.size w w' := by
  have h' := Option.some.inj h
  have h1 : (TT.subsOf a0).1 = r1 := by rw [h']
  have h2 : (TT.subsOf a0).2 = r2 := by rw [h']
  rw [← h1, ← h2]
  by_cases hs : a0.size ≤ 2000
  · exact Rdr.subs_any a0 w hs
  · exact Rdr.subs_big a0 w (by omega)
end Go.Proofs.Ytinkkiglkjihmaa
