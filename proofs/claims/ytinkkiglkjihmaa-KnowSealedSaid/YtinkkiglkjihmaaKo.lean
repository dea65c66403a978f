/- know: opened. -/
import Derived.Test.YtinkkiglkjihmaaKr
set_option linter.unusedVariables false
set_option linter.unusedSimpArgs false
namespace Go.Proofs.Ytinkkiglkjihmaa.Kw
open Go.RowKit Go.Maps Go.WideMaps Go.Proofs.YtinkkiglkjihmaaW.PrintWords Go.Proofs.YtinkkiglkjihmaaW.PrintWords.Kd

/-- The first check that is not 0. -/
def errOf : List ByteArray → Int
  | [] => 0
  | s :: r => if TT.check s = 0 then errOf r else TT.check s
def Lk.start : Lk := ⟨⟨fun _ => none, [], 0⟩, [], fun _ => []⟩
def Lk.addT (a : Lk) (t : ByteArray) : Lk := a.look (TT.subsOf t).1
def Lk.getT (a : Lk) (s : ByteArray) : Lk := ⟨a.σ.get s, a.U, a.IL⟩
def Lk.adds (l : List ByteArray) : Lk := l.foldl Lk.addT Lk.start
def Lk.opened (l : List ByteArray) : Lk := l.foldl Lk.getT (Lk.adds l)
theorem start_fits : Lk.start.Fits := ⟨fun _ => Nat.le_refl _, Nat.le_refl _⟩
theorem errOf_ok {l : List ByteArray} : errOf l = 0 ↔ ∀ s ∈ l, TT.check s = 0 := by
  induction l with
  | nil => simp [errOf]
  | cons s r ih =>
    unfold errOf
    split
    · rename_i h; rw [ih]; simp [h]
    · rename_i h; simp [h]
theorem addT_ok (a : Lk) (h : a.Fits) (t : ByteArray) (ht : TT.check t = 0) : (a.addT t).Fits ∧ (a.addT t).σ.N ≤ a.σ.N + 8000 := by
  have h1 := a.look_N (TT.subsOf t).1 (fun x hx => check_subs ht hx)
  have h2 := subs_count ht
  exact ⟨h.look _ (fun x hx => check_subs ht hx), by unfold Lk.addT; omega⟩
theorem adds_ok (a : Lk) (h : a.Fits) (l : List ByteArray) (hl : ∀ s ∈ l, TT.check s = 0) : (l.foldl Lk.addT a).Fits ∧ (l.foldl Lk.addT a).σ.N ≤ a.σ.N + 8000 * l.length := by
  induction l generalizing a with
  | nil => exact ⟨h, by simp⟩
  | cons s r ih =>
    obtain ⟨h1, h2⟩ := addT_ok a h s (hl s List.mem_cons_self)
    obtain ⟨h3, h4⟩ := ih (a.addT s) h1 (fun x hx => hl x (List.mem_cons_of_mem _ hx))
    exact ⟨h3, by rw [List.foldl_cons, List.length_cons]; omega⟩
theorem getT_ok (a : Lk) (h : a.Fits) (s : ByteArray) : (a.getT s).Fits ∧ (a.getT s).σ.N ≤ a.σ.N + 1 := by
  have h1 := h.il
  have h2 := h.todo
  unfold Lk.getT St.get
  by_cases q : a.σ.has s = true
  · simp only [if_pos q]; exact ⟨h, by omega⟩
  · simp only [if_neg q]; exact ⟨⟨fun k => by have := h1 k; simp only; omega, by simp only [List.length_append, List.length_singleton]; omega⟩, Nat.le_refl _⟩
theorem gets_ok (a : Lk) (h : a.Fits) (l : List ByteArray) : (l.foldl Lk.getT a).Fits ∧ (l.foldl Lk.getT a).σ.N ≤ a.σ.N + l.length := by
  induction l generalizing a with
  | nil => exact ⟨h, by simp⟩
  | cons s r ih =>
    obtain ⟨h1, h2⟩ := getT_ok a h s
    obtain ⟨h3, h4⟩ := ih (a.getT s) h1
    exact ⟨h3, by rw [List.foldl_cons, List.length_cons]; omega⟩
theorem ku_get {X : Xs} {base wb bh bm bi : Nat} {w : World} {a : Lk} (h : KU X base wb bh bm bi w a) (hf : a.Fits) (t : ByteArray) (ht : t.size ≤ maxLen) (hN : a.σ.N + 10 < 100000000) :
    Calls Try.prog 43 #[.pointer (some ⟨wb, 0, none⟩), .string t] w fun e w' => e = .returned (.tuple #[]) ∧ RowKit.Below base w w' ∧ KU X base wb bh bm bi w' (a.getT t) := by
  obtain ⟨M, I, h1, h2, h3⟩ := h
  refine (kx_get h1 t ht (by omega) (by have := hf.todo; omega)).mono ?_
  rintro e w' ⟨rfl, hb, hk⟩
  exact ⟨rfl, hb, M, I, hk, h2, h3⟩
theorem ku_has {X : Xs} {base wb bh bm bi : Nat} {w : World} {a : Lk} (h : KU X base wb bh bm bi w a) (t : ByteArray) (ht : t.size ≤ maxLen) :
    Calls Try.prog 33 #[.pointer (some ⟨wb, 0, none⟩), .string t] w fun e w' => e = .returned (.bool (a.σ.has t)) ∧ RowKit.Below base w w' ∧ KU X base wb bh bm bi w' a := by
  obtain ⟨M, I, h1, h2, h3⟩ := h
  refine (kx_has h1 t ht).mono ?_
  rintro e w' ⟨rfl, hb, hk⟩
  exact ⟨rfl, hb, M, I, hk, h2, h3⟩
abbrev X0 : Xs := fun _ _ => False
/-- The new world: nothing in it. -/
theorem ku_start (w : World) : KU X0 w.heap.size (w.heap.size + 3) w.heap.size (w.heap.size + 1) (w.heap.size + 2)
    ((((w.alloc (.map #[] 0)).alloc (.map #[] 0)).alloc (.map #[] 0)).alloc (.cells #[.map (some w.heap.size), .map (some (w.heap.size + 1)), .map (some (w.heap.size + 2)), .slice none 0 0] 61 (0, 0))) Lk.start := by
  have e1 : (w.alloc (.map #[] 0)).heap.size = w.heap.size + 1 := by simp
  have e2 : ((w.alloc (.map #[] 0)).alloc (.map #[] 0)).heap.size = w.heap.size + 2 := by simp
  have e3 : (((w.alloc (.map #[] 0)).alloc (.map #[] 0)).alloc (.map #[] 0)).heap.size = w.heap.size + 3 := by simp
  have m1 := MapAt.made w
  have m2 := MapAt.made (w.alloc (.map #[] 0))
  have m3 := MapAt.made ((w.alloc (.map #[] 0)).alloc (.map #[] 0))
  rw [e1] at m2
  rw [e2] at m3
  have a1 := fun (W : World) (o : Obj) => (RowKit.Below.refl W.heap.size W).alloc (Nat.le_refl _) o
  refine ⟨fun _ => none, fun _ => none, ⟨by simp; omega, .slice none 0 0, fun _ => .o, ?_⟩, fun s => rfl, fun _ _ => rfl⟩
  refine ⟨?_, ((m1.below (a1 _ _)).below (a1 _ _)).below (a1 _ _), (m2.below (a1 _ _)).below (a1 _ _), m3.below (a1 _ _), QRow.nil _ _, ?_, ?_, ?_, ?_, ⟨rfl, rfl, rfl, rfl⟩, ?_, by omega, by omega⟩
  rotate_left
  · intro g hg; cases hg
  · intro k v hk; cases hk
  · intro k v hk; cases hk
  · intro v xs hk; exact hk.elim
  · intro k v hk; cases hk
  have := heap_alloc_new (((w.alloc (.map #[] 0)).alloc (.map #[] 0)).alloc (.map #[] 0)) (.cells #[.map (some w.heap.size), .map (some (w.heap.size + 1)), .map (some (w.heap.size + 2)), .slice none 0 0] 61 (0, 0))
  rw [e3] at this
  exact this
theorem alloc_below4 (w : World) (o1 o2 o3 o4 : Obj) : RowKit.Below w.heap.size w ((((w.alloc o1).alloc o2).alloc o3).alloc o4) :=
  ((((RowKit.Below.refl _ w).alloc (Nat.le_refl _) o1).alloc (by simp) o2).alloc (by simp; omega) o3).alloc (by simp; omega) o4
def OpenEnd (l : List ByteArray) (b : Nat) (e : Ending) (w' : World) : Prop :=
  if l.length > 200 then e = .returned (.tuple #[.pointer none, .int .i64 3]) else if errOf l = 0 then ∃ wb bh bm bi, e = .returned (.tuple #[.pointer (some ⟨wb, 0, none⟩), .int .i64 0]) ∧ KU X0 b wb bh bm bi w' (Lk.opened l)
    else e = .returned (.tuple #[.pointer none, .int .i64 (errOf l)])
theorem errOf_take {l : List ByteArray} {j : Nat} {s : ByteArray} (h : ∀ x ∈ l.take j, TT.check x = 0) (hs : l[j]? = some s) (hc : TT.check s ≠ 0) : errOf l = TT.check s := by
  induction l generalizing j with
  | nil => simp at hs
  | cons x r ih =>
    cases j with
    | zero => simp at hs; subst hs; unfold errOf; rw [if_neg hc]
    | succ j =>
      unfold errOf
      rw [if_pos (h x (by simp))]
      exact ih (j := j) (fun y hy => h y (by simp [hy])) (by simpa using hs)
set_option maxHeartbeats 4000000 in
set_option maxRecDepth 100000 in
theorem opened_any (A : Option Addr) (c : Nat) (l : List ByteArray) (w : World) (hr : Kd.C Kd.string w A l.length l) (hc : l.length ≤ c) :
    Calls Try.prog 25 #[.slice A l.length c] w fun e w' => RowKit.Below w.heap.size w w' ∧ OpenEnd l w.heap.size e w' := by
  by_cases hb : l.length > 200
  · have hb2 : (200 : Int) < (l.length : Int) := by omega
    have HBB := Lib.hid hb
    clear hr hc hb
    go_enter Try.func25, Try.ntmps25
    go_wp2_with fail
    go_ret2
    exact ⟨RowKit.Below.refl _ _, by unfold OpenEnd; rw [if_pos HBB.out]; rfl⟩
  · have HBB := Lib.hid hb
    have hb2 : ¬ (200 : Int) < (l.length : Int) := by omega
    have HKU := Lib.hid (ku_start w)
    have HB := Lib.hid (alloc_below4 w (.map #[] 0) (.map #[] 0) (.map #[] 0) (.cells #[.map (some w.heap.size), .map (some (w.heap.size + 1)), .map (some (w.heap.size + 2)), .slice none 0 0] 61 (0, 0)))
    have HR := Lib.hid hr
    have hn : l.length ≤ 200 := by omega
    have hcl : ∀ {W : World}, RowKit.Below w.heap.size w W → ∀ j x, l[j]? = some x → ∃ ad, A = some ad ∧ W.cell? (ad.add j) = some (.string x) := by
      intro W hW j x hj
      obtain ⟨h1, rfl⟩ := List.getElem?_eq_some_iff.1 hj
      obtain ⟨ad, h2, h3⟩ := Kd.at_string (Kd.C_below HR.out hW) (j : Int) (by omega) (by omega)
      refine ⟨ad, h2, ?_⟩
      rw [Int.toNat_natCast] at h3
      rw [h3]
      unfold rdOf
      simp [h1]
    have HCL := Lib.hid (fun W => @hcl W)
    clear hr hc hb hcl
    have hmm := @run_makeMap Try.prog
    go_enter Try.func25, Try.ntmps25
    go_wp2_with fail
    go_loopw [20] (fun i wr => ∃ j : Nat, j ≤ l.length ∧ i = .int .i64 j ∧ (∀ x ∈ l.take j, TT.check x = 0) ∧ RowKit.Below w.heap.size w wr ∧ KU X0 w.heap.size (w.heap.size + 3) w.heap.size (w.heap.size + 1) (w.heap.size + 2) wr ((l.take j).foldl Lk.addT Lk.start)) (fun i _ => l.length - (intOf i).toNat)
    case atStart => exact ⟨0, Nat.zero_le _, rfl, fun x hx => by simp at hx, HB.out, HKU.out⟩
    case round =>
      clear HKU HB
      obtain ⟨j, hj, rfl, hall, hbel, hku⟩ := hrel
      by_cases hjl : j < l.length
      · obtain ⟨s, hs⟩ : ∃ s, l[j]? = some s := ⟨_, List.getElem?_eq_getElem hjl⟩
        obtain ⟨ad, rfl, hcell⟩ := HCL.out _ hbel j s hs
        have hnx : (l.take (j + 1)).foldl Lk.addT Lk.start = ((l.take j).foldl Lk.addT Lk.start).addT s := by
          obtain ⟨_, rfl⟩ := List.getElem?_eq_some_iff.1 hs
          rw [List.take_succ_eq_append_getElem hjl, List.foldl_append]; rfl
        have htk : l.take (j + 1) = l.take j ++ [s] := by
          obtain ⟨_, rfl⟩ := List.getElem?_eq_some_iff.1 hs
          exact List.take_succ_eq_append_getElem hjl
        obtain ⟨hfit, hNb⟩ := adds_ok Lk.start start_fits (l.take j) hall
        have hN2 : ((l.take j).foldl Lk.addT Lk.start).σ.N + 10000 < 100000000 := by
          rw [List.length_take] at hNb
          have : Lk.start.σ.N = 0 := rfl
          omega
        have HL := Lib.hid (look_any hku hfit s hN2)
        have HBEL := Lib.hid hbel; have HALL := Lib.hid hall; have HS := Lib.hid hs; have HNX := Lib.hid hnx; have HTK := Lib.hid htk
        clear hbel hku hall hs hnx htk hNb hfit hN2
        by_cases hck : TT.check s = 0
        · have hlk := HL.out
          rw [hck] at hlk
          have HCK := Lib.hid hck
          clear HL hck
          go_wp2_with (go_at_call 32; refine hlk.mono ?_; clear hlk; rintro e w2 ⟨rfl, hb2, hk2⟩; have HB2 := Lib.hid (HBEL.out.trans hb2); have HK2 := Lib.hid (hk2 rfl); clear hb2 hk2)
          go_roundw
          case rel =>
            refine ⟨j + 1, by omega, by simp, fun x hx => ?_, HB2.out, by rw [HNX.out]; exact HK2.out⟩
            rw [HTK.out, List.mem_append, List.mem_singleton] at hx
            rcases hx with hx | rfl
            · exact HALL.out x hx
            · exact HCK.out
          case measure => simp [intOf]; omega
        · have hlk := HL.out
          have herr := errOf_take HALL.out HS.out hck
          have HERR := Lib.hid herr; have HCK := Lib.hid hck
          have hne : (TT.check s != 0) = true := bne_iff_ne.mpr hck
          clear HL herr hck
          generalize hcs : TT.check s = cs at hlk hne HCK HERR
          clear hcs
          go_wp2_with (go_at_call 32; refine hlk.mono ?_; clear hlk; rintro e w2 ⟨rfl, hb2, hk2⟩; have HB2 := Lib.hid (HBEL.out.trans hb2); clear hb2 hk2)
          go_ret2
          exact ⟨HB2.out, by unfold OpenEnd; rw [if_neg HBB.out, if_neg (by rw [HERR.out]; exact HCK.out), HERR.out]; rfl⟩
      · obtain rfl : j = l.length := by omega
        rw [List.take_length] at hall hku
        obtain ⟨hfit, hNb⟩ := adds_ok Lk.start start_fits l hall
        have hN0 : Lk.start.σ.N = 0 := rfl
        rw [hN0] at hNb
        have HFIT := Lib.hid hfit; have HBEL := Lib.hid hbel; have HKU := Lib.hid hku; have HALL := Lib.hid hall
        have HNB := Lib.hid hNb
        clear hfit hbel hku hall hN0 hNb
        go_wp2_with fail
        go_loopw [33] (fun i wr => ∃ j : Nat, j ≤ l.length ∧ i = .int .i64 j ∧ RowKit.Below w.heap.size w wr ∧ KU X0 w.heap.size (w.heap.size + 3) w.heap.size (w.heap.size + 1) (w.heap.size + 2) wr ((l.take j).foldl Lk.getT (l.foldl Lk.addT Lk.start))) (fun i _ => l.length - (intOf i).toNat)
        case atStart => exact ⟨0, Nat.zero_le _, rfl, HBEL.out, HKU.out⟩
        case round =>
          clear HKU HBEL
          obtain ⟨j, hj, rfl, hbel, hku⟩ := hrel
          by_cases hjl : j < l.length
          · obtain ⟨s, hs⟩ : ∃ s, l[j]? = some s := ⟨_, List.getElem?_eq_getElem hjl⟩
            obtain ⟨ad, rfl, hcell⟩ := HCL.out _ hbel j s hs
            have hnx : (l.take (j + 1)).foldl Lk.getT (l.foldl Lk.addT Lk.start) = ((l.take j).foldl Lk.getT (l.foldl Lk.addT Lk.start)).getT s := by
              obtain ⟨_, rfl⟩ := List.getElem?_eq_some_iff.1 hs
              rw [List.take_succ_eq_append_getElem hjl, List.foldl_append]; rfl
            have hcs := check_size (HALL.out s (List.mem_of_getElem? hs))
            obtain ⟨hf2, hN2⟩ := gets_ok _ HFIT.out (l.take j)
            have hN3 := HNB.out
            have hget := ku_get hku hf2 s (by unfold maxLen; omega) (by rw [List.length_take] at hN2; omega)
            have HBEL := Lib.hid hbel; have HNX := Lib.hid hnx
            clear hbel hku hnx hs hcs hf2 hN2 hN3
            go_wp2_with (go_at_call 43; refine hget.mono ?_; clear hget; rintro e w2 ⟨rfl, hb2, hk2⟩; have HB2 := Lib.hid (HBEL.out.trans hb2); have HK2 := Lib.hid hk2; clear hb2 hk2)
            go_roundw
            case rel => exact ⟨j + 1, by omega, by simp, HB2.out, by rw [HNX.out]; exact HK2.out⟩
            case measure => simp [intOf]; omega
          · obtain rfl : j = l.length := by omega
            rw [List.take_length] at hku
            have HBEL := Lib.hid hbel; have HKU := Lib.hid hku
            clear hbel hku
            go_wp2_with fail
            go_ret2
            exact ⟨HBEL.out, by unfold OpenEnd; rw [if_neg HBB.out, if_pos (errOf_ok.2 HALL.out)]; exact ⟨_, _, _, _, rfl, HKU.out⟩⟩
end Go.Proofs.Ytinkkiglkjihmaa.Kw
