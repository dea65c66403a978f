/- term.Check and term.Make: their contracts. -/
import Derived.Test.YtinkkiglkjihmaaSubs
import Derived.Test.YtinkkiglkjihmaaBuilder
set_option linter.unusedVariables false
set_option linter.unusedSimpArgs false
namespace Go.Proofs.Ytinkkiglkjihmaa
open Go.RowKit Go.Proofs.YtinkkiglkjihmaaW.PrintWords Go.Proofs.YtinkkiglkjihmaaW.PrintLast
namespace Rdr
open TT (ar)

set_option maxHeartbeats 400000 in
theorem check_any (s : ByteArray) (w : World) : Calls Try.prog 40 #[.string s] w fun e w' => e = .returned (.int .i64 (TT.check s)) ∧ Below w.heap.size w w' := by
  have hz : (TT.subsOf s).2 = TT.check s := by
    unfold TT.subsOf
    split
    · rename_i h; exact h.symm
    · rfl
  obtain ⟨r1, r2, hr⟩ : ∃ r1 r2, TT.subsOf s = (r1, r2) := ⟨_, _, rfl⟩
  have hf : term_subs.f s = some (r1, r2) := by rw [term_subs.f, hr]
  rw [hr] at hz
  obtain rfl : r2 = TT.check s := hz
  have HF := Lib.hid hf; clear hf hr
  go_enter Try.func40, Try.ntmps40
  go_wp2_with (go_at_call 55; refine (term_subs.calls s _ _ w HF.out).mono ?_; rintro e w1 ⟨v, rfl, _, hb⟩; have HB := Lib.hid hb; clear hb)
  go_ret
  exact ⟨rfl, HB.out⟩

def MakePost (c : UInt8) (l : List ByteArray) (w : World) (e : Ending) (w' : World) : Prop :=
  e = .returned (.tuple #[.string (TT.makeOf c l).1, .int .i64 (TT.makeOf c l).2]) ∧ Below w.heap.size w w'

set_option maxHeartbeats 400000 in
theorem make_arg (c : UInt8) (l : List ByteArray) (A : Option Addr) (cp : Nat) (w : World) (h : ar c < 1 ∨ ar c ≠ (l.length : Int)) :
    Calls Try.prog 24 #[.int .u8 c.toNat, .slice A l.length cp] w (MakePost c l w) := by
  have e1 : TT.makeOf c l = (⟨#[]⟩, 2) := by unfold TT.makeOf; rw [if_pos h]
  by_cases h1 : ar c < 1
  · clear h
    go_enter Try.func24, Try.ntmps24
    have HE := Lib.hid e1; clear e1
    go_wp2_with (go_at_call 38; refine (arity_any c w).mono ?_; rintro e w1 ⟨rfl, rfl⟩)
    go_ret2
    unfold MakePost
    exact ⟨by rw [HE.out]; rfl, Below.refl _ _⟩
  · have h2 : (ar c != (l.length : Int)) = true := by simp; omega
    clear h
    go_enter Try.func24, Try.ntmps24
    have HE := Lib.hid e1; clear e1
    go_wp2_with (go_at_call 38; refine (arity_any c w).mono ?_; rintro e w1 ⟨rfl, rfl⟩)
    go_ret2
    unfold MakePost
    exact ⟨by rw [HE.out]; rfl, Below.refl _ _⟩

theorem flat_one (s : ByteArray) : ([s].map fun s => s.data.toList).flatten = s.data.toList := by simp
theorem check_le {s : ByteArray} (h : TT.check s = 0) : s.size ≤ 2000 := by
  unfold TT.check at h
  split at h
  · omega
  · omega
theorem cells_byte1 (c : UInt8) (s : ByteArray) : [Value.int .u8 (c.toNat : Int)] ++ Lib.strCells s = Lib.byteCells (c :: s.data.toList) := rfl

theorem make_one_ok {c : UInt8} {s : ByteArray} (h : ar c = 1) (h1 : TT.check s = 0) (h2 : TT.check (TT.strOf (c :: s.data.toList)) = 0) : TT.makeOf c [s] = (TT.strOf (c :: s.data.toList), 0) := by
  unfold TT.makeOf
  rw [if_neg (by rw [h]; simp)]
  simp [h1, h2]
theorem make_one_big {c : UInt8} {s : ByteArray} (h : ar c = 1) (h1 : TT.check s = 0) (h2 : ¬ TT.check (TT.strOf (c :: s.data.toList)) = 0) : TT.makeOf c [s] = (⟨#[]⟩, 3) := by
  unfold TT.makeOf
  rw [if_neg (by rw [h]; simp)]
  simp [h1, h2]
theorem make_one_bad {c : UInt8} {s : ByteArray} (h : ar c = 1) (h1 : ¬ TT.check s = 0) : TT.makeOf c [s] = (⟨#[]⟩, TT.check s) := by
  unfold TT.makeOf
  rw [if_neg (by rw [h]; simp)]
  simp [h1]
theorem make_two_ok {c : UInt8} {s u : ByteArray} (h : ar c = 2) (h1 : TT.check s = 0) (h1' : TT.check u = 0) (h2 : TT.check (TT.strOf (c :: (s.data.toList ++ u.data.toList))) = 0) : TT.makeOf c [s, u] = (TT.strOf (c :: (s.data.toList ++ u.data.toList)), 0) := by
  unfold TT.makeOf
  rw [if_neg (by rw [h]; simp)]
  simp [h1, h1', h2]
theorem make_two_big {c : UInt8} {s u : ByteArray} (h : ar c = 2) (h1 : TT.check s = 0) (h1' : TT.check u = 0) (h2 : ¬ TT.check (TT.strOf (c :: (s.data.toList ++ u.data.toList))) = 0) : TT.makeOf c [s, u] = (⟨#[]⟩, 3) := by
  unfold TT.makeOf
  rw [if_neg (by rw [h]; simp)]
  simp [h1, h1', h2]
theorem make_two_bad1 {c : UInt8} {s u : ByteArray} (h : ar c = 2) (h1 : ¬ TT.check s = 0) : TT.makeOf c [s, u] = (⟨#[]⟩, TT.check s) := by
  unfold TT.makeOf
  rw [if_neg (by rw [h]; simp)]
  simp [h1]
theorem make_two_bad2 {c : UInt8} {s u : ByteArray} (h : ar c = 2) (h1 : TT.check s = 0) (h2 : ¬ TT.check u = 0) : TT.makeOf c [s, u] = (⟨#[]⟩, TT.check u) := by
  unfold TT.makeOf
  rw [if_neg (by rw [h]; simp)]
  simp [h1, h2]
theorem add_nil (a : Addr) : a.add 0 = a := by
  obtain ⟨b, o, s⟩ := a
  cases s <;> simp [Addr.add]

set_option maxHeartbeats 800000 in
theorem make_one (c : UInt8) (s : ByteArray) (A : Option Addr) (cp : Nat) (w : World) (h : ar c = 1) (hr : Kd.C Kd.string w A 1 [s]) :
    Calls Try.prog 24 #[.int .u8 c.toNat, .slice A 1 cp] w (MakePost c [s] w) := by
  obtain ⟨ad, rfl, hx⟩ := Kd.at_string hr 0 (by omega) (by omega)
  have hx0 : w.cell? ad = some (.string s) := by rw [← add_nil ad]; exact hx
  have HX := Lib.hid hx0; clear hx hx0 hr
  obtain ⟨m, hm⟩ : ∃ m, m = ar c := ⟨_, rfl⟩
  have HM := Lib.hid (show m = 1 by rw [hm, h])
  obtain rfl : m = 1 := HM.out
  have HA := Lib.hid h; clear h hm HM
  obtain ⟨W, hW⟩ : ∃ W, W = w.alloc (.cells #[.pointer none, .slice none 0 0] 71) := ⟨_, rfl⟩
  have hbu : Lib.IsBuilder 71 5 w.heap.size w.heap.size [] W := .inl ⟨Nat.le_refl _, .slice none 0 0, by rw [hW]; exact blk_new w _, own_nil _ _ _ _, by simp [Value.ownBlock]⟩
  have hBW : Below w.heap.size w W := by rw [hW]; exact (Below.refl _ w).alloc (Nat.le_refl _) _
  have HW := Lib.hid hW; have HBU := Lib.hid hbu; have HBW := Lib.hid hBW; clear hW hbu hBW
  go_enter Try.func24, Try.ntmps24
  go_wp2_with (go_at_call 38; refine (arity_any c w).mono ?_; rintro e w1 ⟨rfl, rfl⟩; rw [HA.out])
  rw [← HW.out]
  refine (Bld.write_byte _ _ [] c.toNat W HBU.out (by simp) HBW.out.size).mono ?_
  rintro e w2 ⟨rfl, hbu2, hb2⟩
  have HBU2 := Lib.hid hbu2; have HB2 := Lib.hid (HBW.out.trans hb2); clear hbu2 hb2 HBU HBW HW
  have hx2 := pw_cell_below HB2.out HX.out
  go_wp2_with fail
  refine wp_loop_rounds 2 ?_
  rw [rounds_succ]
  go_wp2_with fail
  refine (check_any s w2).mono ?_
  rintro e w3 ⟨rfl, hb3⟩
  have HB3 := Lib.hid (HB2.out.trans (hb3.mono HB2.out.size)); have HBU3 := Lib.hid (Bld.keep HBU2.out hb3); clear hb3 hx2
  by_cases h3 : TT.check s = 0
  · have HC := Lib.hid h3
    rw [h3]
    clear h3
    go_wp2_with fail
    refine (Bld.write_string _ _ _ s w3 (.inr HBU3.out) (by have := check_le HC.out; simp; omega) HB3.out.size).mono ?_
    rintro e w4 ⟨rfl, hbu4, hb4⟩
    have HBU4 := Lib.hid hbu4; have HB4 := Lib.hid (HB3.out.trans hb4); clear hbu4 hb4
    go_wp2_with fail
    rw [rounds_succ]
    go_wp2_with fail
    refine (Bld.told _ _ (c :: s.data.toList) _ w4 HBU4.out (by simp)).mono ?_
    rintro e w5 ⟨rfl, hb5⟩
    have HB5 := Lib.hid (HB4.out.trans hb5); clear hb5
    go_wp2_with fail
    refine (check_any (TT.strOf (c :: s.data.toList)) w5).mono ?_
    rintro e w6 ⟨rfl, hb6⟩
    have HB6 := Lib.hid (HB5.out.trans (hb6.mono HB5.out.size)); clear hb6
    by_cases h6 : TT.check (TT.strOf (c :: s.data.toList)) = 0
    · have hm := Lib.hid (make_one_ok HA.out HC.out h6)
      rw [h6]
      clear h6
      go_wp2_with fail
      go_ret2
      unfold MakePost
      exact ⟨by rw [hm.out]; rfl, HB6.out⟩
    · have hm := Lib.hid (make_one_big HA.out HC.out h6)
      have hb : (TT.check (TT.strOf (c :: s.data.toList)) != 0) = true := by simpa using h6
      clear h6
      go_wp2_with fail
      go_ret2
      unfold MakePost
      exact ⟨by rw [hm.out]; rfl, HB6.out⟩
  · have hm := Lib.hid (make_one_bad HA.out h3)
    have hb : (TT.check s != 0) = true := by simpa using h3
    clear h3
    go_wp2_with fail
    go_ret2
    unfold MakePost
    exact ⟨by rw [hm.out]; rfl, HB3.out⟩
theorem two_cells (c : UInt8) (s u : ByteArray) : [] ++ [Value.int .u8 (c.toNat : Int)] ++ Lib.strCells s ++ Lib.strCells u = Lib.byteCells (c :: (s.data.toList ++ u.data.toList)) := by
  simp [Lib.strCells, Lib.byteCells]

set_option maxHeartbeats 800000 in
theorem make_two (c : UInt8) (s u : ByteArray) (A : Option Addr) (cp : Nat) (w : World) (h : ar c = 2) (hr : Kd.C Kd.string w A 2 [s, u]) :
    Calls Try.prog 24 #[.int .u8 c.toNat, .slice A 2 cp] w (MakePost c [s, u] w) := by
  obtain ⟨ad, rfl, hx⟩ := Kd.at_string hr 0 (by omega) (by omega)
  obtain ⟨ad', had, hy⟩ := Kd.at_string hr 1 (by omega) (by omega)
  obtain rfl := Option.some.inj had
  have HY := Lib.hid (show w.cell? ⟨ad.block, ad.off + 1, none⟩ = some (.string u) from hy); clear hy had
  have hx0 : w.cell? ad = some (.string s) := by rw [← add_nil ad]; exact hx
  have HX := Lib.hid hx0; clear hx hx0 hr
  obtain ⟨m, hm⟩ : ∃ m, m = ar c := ⟨_, rfl⟩
  have HM := Lib.hid (show m = 2 by rw [hm, h])
  obtain rfl : m = 2 := HM.out
  have HA := Lib.hid h; clear h hm HM
  obtain ⟨W, hW⟩ : ∃ W, W = w.alloc (.cells #[.pointer none, .slice none 0 0] 71) := ⟨_, rfl⟩
  have hbu : Lib.IsBuilder 71 5 w.heap.size w.heap.size [] W := .inl ⟨Nat.le_refl _, .slice none 0 0, by rw [hW]; exact blk_new w _, own_nil _ _ _ _, by simp [Value.ownBlock]⟩
  have hBW : Below w.heap.size w W := by rw [hW]; exact (Below.refl _ w).alloc (Nat.le_refl _) _
  have HW := Lib.hid hW; have HBU := Lib.hid hbu; have HBW := Lib.hid hBW; clear hW hbu hBW
  go_enter Try.func24, Try.ntmps24
  go_wp2_with (go_at_call 38; refine (arity_any c w).mono ?_; rintro e w1 ⟨rfl, rfl⟩; rw [HA.out])
  rw [← HW.out]
  refine (Bld.write_byte _ _ [] c.toNat W HBU.out (by simp) HBW.out.size).mono ?_
  rintro e w2 ⟨rfl, hbu2, hb2⟩
  have HBU2 := Lib.hid hbu2; have HB2 := Lib.hid (HBW.out.trans hb2); clear hbu2 hb2 HBU HBW HW
  have hx2 := pw_cell_below HB2.out HX.out
  go_wp2_with fail
  refine wp_loop_rounds 3 ?_
  rw [rounds_succ]
  go_wp2_with fail
  refine (check_any s w2).mono ?_
  rintro e w3 ⟨rfl, hb3⟩
  have HB3 := Lib.hid (HB2.out.trans (hb3.mono HB2.out.size)); have HBU3 := Lib.hid (Bld.keep HBU2.out hb3); clear hb3 hx2
  by_cases h3 : TT.check s = 0
  · have HC := Lib.hid h3
    rw [h3]
    clear h3
    go_wp2_with fail
    refine (Bld.write_string _ _ _ s w3 (.inr HBU3.out) (by have := check_le HC.out; simp; omega) HB3.out.size).mono ?_
    rintro e w4 ⟨rfl, hbu4, hb4⟩
    have HBU4 := Lib.hid hbu4; have HB4 := Lib.hid (HB3.out.trans hb4); clear hbu4 hb4
    have hy4 := pw_cell_below HB4.out HY.out
    go_wp2_with fail
    rw [rounds_succ]
    go_wp2_with fail
    refine (check_any u w4).mono ?_
    rintro e w5 ⟨rfl, hb5⟩
    have HB5 := Lib.hid (HB4.out.trans (hb5.mono HB4.out.size)); have HBU5 := Lib.hid (Bld.keep HBU4.out hb5); clear hb5 hy4
    by_cases h5 : TT.check u = 0
    · have HD := Lib.hid h5
      rw [h5]
      clear h5
      go_wp2_with fail
      refine (Bld.write_string _ _ _ u w5 (.inr HBU5.out) (by have := check_le HC.out; have := check_le HD.out; simp [Lib.strCells_length]; omega) HB5.out.size).mono ?_
      rintro e w6 ⟨rfl, hbu6, hb6⟩
      have HBU6 := Lib.hid hbu6; have HB6 := Lib.hid (HB5.out.trans hb6); clear hbu6 hb6
      go_wp2_with fail
      rw [rounds_succ]
      go_wp2_with fail
      refine (Bld.told _ _ (c :: (s.data.toList ++ u.data.toList)) _ w6 (by rw [← two_cells]; exact HBU6.out) (by simp)).mono ?_
      rintro e w7 ⟨rfl, hb7⟩
      have HB7 := Lib.hid (HB6.out.trans hb7); clear hb7
      go_wp2_with fail
      refine (check_any (TT.strOf (c :: (s.data.toList ++ u.data.toList))) w7).mono ?_
      rintro e w8 ⟨rfl, hb8⟩
      have HB8 := Lib.hid (HB7.out.trans (hb8.mono HB7.out.size)); clear hb8
      by_cases h8 : TT.check (TT.strOf (c :: (s.data.toList ++ u.data.toList))) = 0
      · have hm := Lib.hid (make_two_ok HA.out HC.out HD.out h8)
        rw [h8]
        clear h8
        go_wp2_with fail
        go_ret2
        unfold MakePost
        exact ⟨by rw [hm.out]; rfl, HB8.out⟩
      · have hm := Lib.hid (make_two_big HA.out HC.out HD.out h8)
        have hb : (TT.check (TT.strOf (c :: (s.data.toList ++ u.data.toList))) != 0) = true := by simpa using h8
        clear h8
        go_wp2_with fail
        go_ret2
        unfold MakePost
        exact ⟨by rw [hm.out]; rfl, HB8.out⟩
    · have hm := Lib.hid (make_two_bad2 HA.out HC.out h5)
      have hb : (TT.check u != 0) = true := by simpa using h5
      clear h5
      go_wp2_with fail
      go_ret2
      unfold MakePost
      exact ⟨by rw [hm.out]; rfl, HB5.out⟩
  · have hm := Lib.hid (make_two_bad1 (u := u) HA.out h3)
    have hb : (TT.check s != 0) = true := by simpa using h3
    clear h3
    go_wp2_with fail
    go_ret2
    unfold MakePost
    exact ⟨by rw [hm.out]; rfl, HB3.out⟩

theorem make_any (c : UInt8) (l : List ByteArray) (A : Option Addr) (cp : Nat) (w : World) (hr : Kd.C Kd.string w A l.length l) :
    Calls Try.prog 24 #[.int .u8 c.toNat, .slice A l.length cp] w (MakePost c l w) := by
  by_cases h : ar c < 1 ∨ ar c ≠ (l.length : Int)
  · exact make_arg c l A cp w h
  · have hle := ar_lo c
    match l, h, hr with
    | [], h, _ => exact make_arg c [] A cp w (by simp; omega)
    | [s], h, hr => exact make_one c s A cp w (by simp at h; omega) hr
    | [s, u], h, hr => exact make_two c s u A cp w (by simp at h; omega) hr
    | s :: u :: v :: r, h, hr => exact make_arg c _ A cp w (.inr (by simp; omega))
end Rdr

def term_Check.f (a0 : ByteArray) : Option Int := some (TT.check a0)
theorem term_Check.calls (a0 : ByteArray) (r : Int) (w : World) (h : term_Check.f a0 = some r) : Calls Try.prog 40 #[.string a0] w fun e w' => e = .returned (.int .i64 r) ∧ Below w.heap.size w w' := by
  obtain rfl := Option.some.inj h
  exact Rdr.check_any a0 w
def term_Make.f (a0 : Int) (l1 : List ByteArray) : Option (ByteArray × Int) := if 0 ≤ a0 ∧ a0 ≤ 255 then some (TT.makeOf (UInt8.ofNat a0.toNat) l1) else none
theorem term_Make.calls (a0 : Int) (A1 : Option Addr) (c1 : Nat) (l1 : List ByteArray) (r1 : ByteArray) (r2 : Int) (w : World) (hr1 : Kd.C Kd.string w A1 l1.length l1) (hc1 : l1.length ≤ c1) (h : term_Make.f a0 l1 = some (r1, r2)) :
    Calls Try.prog 24 #[.int .u8 a0, .slice A1 l1.length c1] w fun e w' => e = .returned (.tuple #[.string r1, .int .i64 r2]) ∧ Below w.heap.size w w' := by
  unfold term_Make.f at h
  split at h
  · rename_i hb
    have h' := Option.some.inj h
    have e1 : (TT.makeOf (UInt8.ofNat a0.toNat) l1).1 = r1 := by rw [h']
    have e2 : (TT.makeOf (UInt8.ofNat a0.toNat) l1).2 = r2 := by rw [h']
    rw [← e1, ← e2]
    have e3 : a0 = ((UInt8.ofNat a0.toNat).toNat : Int) := by
      simp only [UInt8.toNat_ofNat']
      omega
    have := Rdr.make_any (UInt8.ofNat a0.toNat) l1 A1 c1 w hr1
    rw [← e3] at this
    exact this
  · cases h
end Go.Proofs.Ytinkkiglkjihmaa
