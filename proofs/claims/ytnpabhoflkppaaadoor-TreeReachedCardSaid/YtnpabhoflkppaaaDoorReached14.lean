/- TreeReached: the walk. -/
import Derived.Test.YtnpabhoflkppaaaDoorSteps14
import Derived.Test.YtnpabhoflkppaaaDoorParents14
import Derived.Test.YtnpabhoflkppaaaDoorBelowS14
set_option linter.unusedVariables false
set_option linter.unusedSimpArgs false
namespace Go.Proofs.YtnpabhoflkppaaaDoor.Pr
open Go.RowKit Go.Shelf Go.Proofs.YtnpabhoflkppaaaDoorW.PrintWords Go.Proofs.YtnpabhoflkppaaaDoorW.PrintLast

theorem run_idx (W : World) (A : Array Value) (j : Nat) (hj : j < 32) (hs : A.size = 32) (h : A[j]? = some (.int .u16 0)) : (Instr.index 40 (.agg A) (.int .i64 (j : Int))).run Tryd.prog W = .ok (.int .u16 0) W := by
  have hu40 := Tryd.underlying40
  have hk : (0 : Int) ≤ (j : Int) ∧ (j : Int) < 32 := ⟨by omega, by omega⟩
  have hlt : (j : Int) < 32 := hk.2
  obtain ⟨h1, h2⟩ := Array.getElem?_eq_some_iff.1 h
  unfold Instr.index
  rw [Sem.run_bind]
  simp only [asIntOf]
  go_simp
/-- What the steps have told of each node. -/
def tellN (s : Nat) (P : List (Int × Int)) (j : Nat) : Nat := P.foldl (fun acc p => if p.1 = (j : Int) then acc ||| belowN s p.2 else acc) 0
def Told (w : World) (b : Nat) (T : Nat → Nat) : Prop := ∀ j, j < 32 → w.cell? ⟨b, j, none⟩ = some (.int .u16 ((T j : Nat) : Int)) ∧ w.frozen? ⟨b, j, none⟩ = false
theorem Told.alloc {w : World} {b : Nat} {T : Nat → Nat} (h : Told w b T) (hb : b < w.heap.size) (o : Obj) : Told (w.alloc o) b T := fun j hj => by
  rw [World.cell?_alloc_past _ _ _ hb, World.frozen?_alloc_past _ _ _ hb]; exact h j hj
theorem Told.drewN {w : World} {b : Nat} {T : Nat → Nat} (h : Told w b T) (n : Nat) : Told (w.drewN n) b T := fun j hj => by
  have := h j hj; simpa using this
theorem Told.set {w : World} {b : Nat} {T T' : Nat → Nat} (h : Told w b T) (k : Nat) (hk : k < 32) (v : Nat) (hv : T' k = v) (ho : ∀ j, j < 32 → j ≠ k → T' j = T j) : Told (w.setCell ⟨b, k, none⟩ (.int .u16 (v : Int))) b T' := fun j hj => by
  rw [World.frozen?_setCell]
  refine ⟨?_, (h j hj).2⟩
  by_cases e : j = k
  · subst e
    rw [World.cell?_setCell_same (h := (h j hj).1), hv]
  · rw [World.cell?_setCell_other (h := fun q => e (by injection q with _ q _; exact q.symm)), (h j hj).1, ho j hj e]
theorem tell_lt (s : Nat) (hs : s < 65536) (P : List (Int × Int)) (j : Nat) : tellN s P j < 65536 := by
  have H : ∀ (P : List (Int × Int)) (acc : Nat), acc < 65536 → P.foldl (fun acc p => if p.1 = (j : Int) then acc ||| belowN s p.2 else acc) acc < 65536 := by
    intro P
    induction P with
    | nil => intro acc h; exact h
    | cons p P ih =>
      intro acc h
      rw [List.foldl_cons]
      refine ih _ ?_
      split
      · exact Nat.or_lt_two_pow (n := 16) h (belowN_lt hs _)
      · exact h
  exact H P 0 (by decide)
theorem tell_snoc (s : Nat) (P : List (Int × Int)) (p : Int × Int) (j : Nat) : tellN s (P ++ [p]) j = if p.1 = (j : Int) then tellN s P j ||| belowN s p.2 else tellN s P j := by
  unfold tellN
  rw [List.foldl_append]
  rfl
/-- What is true of the steps. -/
structure FreshOk (s : Nat) (L : List Int) (P : List (Int × Int)) : Prop where
  tell : ∀ n ∈ L, tellN s P n.toNat = belowN s n
  none : ∀ j : Nat, j < 32 → (j : Int) ∉ L → tellN s P j = 0
  fall : L.Pairwise (· > ·)
structure StepOk (s : Nat) (P : List (Int × Int)) : Prop where
  node : ∀ i (h : i < P.length), 1 ≤ P[i].1 ∧ P[i].1 ≤ 15
  child : ∀ i (h : i < P.length), P[i].2 / 2 = P[i].1 ∧ 2 ≤ P[i].2 ∧ P[i].2 ≤ 31
  some : ∀ i (h : i < P.length), belowI (s : Int) P[i].2 ≠ 0
  down : ∀ i (h : i + 1 < P.length), P[i + 1].1 ≤ P[i].1
set_option maxHeartbeats 8000000 in
set_option maxRecDepth 100000 in
theorem reached_any (a s : Nat) (ha : a < 65536) (hs : s < 65536) (hok : StepOk s (pairsL (s : Int) (freshI (a : Int) (s : Int)))) (hfo : FreshOk s (freshI (a : Int) (s : Int)) (pairsL (s : Int) (freshI (a : Int) (s : Int)))) (w : World) (HT0 : TabAt w) :
    Calls Tryd.prog 5 #[.int .u16 (a : Int), .int .u16 (s : Int)] w fun e w' => e = .returned (.bool true) ∧ RowKit.Below w.heap.size w w' := by
  obtain ⟨K1, hK1⟩ := alive_ev
  obtain ⟨K2, hK2⟩ := fresh_ev a s ha hs
  obtain ⟨K3, hK3⟩ := tsteps_f a s ha hs
  have hal : ∀ W, TabAt W → Calls Tryd.prog 9 #[] W _ := fun W hT => chantrylaw14_alive.calls K1 true W (hK1 K1 (Nat.le_refl _)) hT
  have hfr : ∀ W, TabAt W → Calls Tryd.prog 19 #[.int .u16 (a : Int), .int .u16 (s : Int)] W _ := fun W hT => tree_Fresh.calls K2 (a : Int) (s : Int) _ W (hK2 K2 (Nat.le_refl _)) hT
  have hst : ∀ W, TabAt W → Calls Tryd.prog 17 #[.int .u16 (a : Int), .int .u16 (s : Int)] W _ := fun W hT => tree_Steps.calls K3 (a : Int) (s : Int) _ W (hK3 K3 (Nat.le_refl _)) hT
  have HTA := Lib.hid HT0
  clear HT0 hK1 hK2 hK3
  have HLR := Lib.hid (fresh_range (a : Int) (s : Int))
  have HLL := fresh_len (a : Int) (s : Int)
  have hu38 := Tryd.underlying38
  have hu40 := Tryd.underlying40
  generalize freshI (a : Int) (s : Int) = L at hfr hst HLR HLL hok hfo
  have HPL := pairs_len (s : Int) L
  have hbs : ∀ nd W, Calls Tryd.prog 15 #[.int .u16 (s : Int), .int .i64 nd] W _ := fun nd W => below_same s hs nd W
  generalize pairsL (s : Int) L = P at hst hok hfo HPL
  have HFO := Lib.hid hfo
  clear hfo
  have HOK := Lib.hid hok
  clear hok
  go_enter Tryd.func5, Tryd.ntmps5
  go_wp2_with (first | (go_at_call 9; refine (hal _ HTA.out).mono ?_; rintro e w1 ⟨rfl, hb1⟩; have HB1 := Lib.hid hb1; have HT1 := Lib.hid (TabAt.below HTA.out (Nat.le_refl _) hb1); clear hb1) | (go_at_call 19; refine (hfr _ HT1.out).mono ?_; rintro e w2 ⟨vf, rfl, hr2, hb2⟩; have HT2 := Lib.hid (TabAt.below HT1.out (Nat.le_refl _) hb2); have HB2 := Lib.hid hb2; have HF := Lib.hid hr2; clear hb2 hr2) | (go_at_call 17; refine (hst _ HT2.out).mono ?_; rintro e w3 ⟨vs, rfl, hr3, hb3⟩; have HB3 := Lib.hid hb3; obtain ⟨As, cs, es⟩ := Kd.R_slice hr3; subst es; have HS := Lib.hid hr3; clear hb3 hr3))
  have HF3 := Lib.hid (Kd.R_below HF.out HB3.out)
  have HBw : RowKit.Below w.heap.size w w3 := (HB1.out.trans (HB2.out.mono HB1.out.size)).trans (HB3.out.mono (Nat.le_trans HB1.out.size HB2.out.size))
  obtain ⟨Af, cf, ef⟩ := Kd.R_slice HF3.out
  subst ef
  have HBW := Lib.hid HBw
  have HT0 : Told (w3.alloc (.cells #[.int .u16 0, .int .u16 0, .int .u16 0, .int .u16 0, .int .u16 0, .int .u16 0, .int .u16 0, .int .u16 0, .int .u16 0, .int .u16 0, .int .u16 0, .int .u16 0, .int .u16 0, .int .u16 0, .int .u16 0, .int .u16 0, .int .u16 0, .int .u16 0, .int .u16 0, .int .u16 0, .int .u16 0, .int .u16 0, .int .u16 0, .int .u16 0, .int .u16 0, .int .u16 0, .int .u16 0, .int .u16 0, .int .u16 0, .int .u16 0, .int .u16 0, .int .u16 0] 40)) w3.heap.size (tellN s []) := by
    intro j hj
    rw [World.cell?_alloc_new, World.frozen?_alloc_new]
    refine ⟨?_, rfl⟩
    rcases (by omega : j = 0 ∨ j = 1 ∨ j = 2 ∨ j = 3 ∨ j = 4 ∨ j = 5 ∨ j = 6 ∨ j = 7 ∨ j = 8 ∨ j = 9 ∨ j = 10 ∨ j = 11 ∨ j = 12 ∨ j = 13 ∨ j = 14 ∨ j = 15 ∨ j = 16 ∨ j = 17 ∨ j = 18 ∨ j = 19 ∨ j = 20 ∨ j = 21 ∨ j = 22 ∨ j = 23 ∨ j = 24 ∨ j = 25 ∨ j = 26 ∨ j = 27 ∨ j = 28 ∨ j = 29 ∨ j = 30 ∨ j = 31) with rfl | rfl | rfl | rfl | rfl | rfl | rfl | rfl | rfl | rfl | rfl | rfl | rfl | rfl | rfl | rfl | rfl | rfl | rfl | rfl | rfl | rfl | rfl | rfl | rfl | rfl | rfl | rfl | rfl | rfl | rfl | rfl <;> rfl
  have HT00 := Lib.hid HT0
  have HBA : RowKit.Below w3.heap.size w3 (w3.alloc (.cells #[.int .u16 0, .int .u16 0, .int .u16 0, .int .u16 0, .int .u16 0, .int .u16 0, .int .u16 0, .int .u16 0, .int .u16 0, .int .u16 0, .int .u16 0, .int .u16 0, .int .u16 0, .int .u16 0, .int .u16 0, .int .u16 0, .int .u16 0, .int .u16 0, .int .u16 0, .int .u16 0, .int .u16 0, .int .u16 0, .int .u16 0, .int .u16 0, .int .u16 0, .int .u16 0, .int .u16 0, .int .u16 0, .int .u16 0, .int .u16 0, .int .u16 0, .int .u16 0] 40)) := (RowKit.Below.refl _ _).alloc (Nat.le_refl _) _
  have HBA0 := Lib.hid HBA
  clear HBw HT0 HBA HF HB1 HB2 HB3 hal hfr hst HT1 HT2 HTA
  generalize hwa : w3.alloc (.cells #[.int .u16 0, .int .u16 0, .int .u16 0, .int .u16 0, .int .u16 0, .int .u16 0, .int .u16 0, .int .u16 0, .int .u16 0, .int .u16 0, .int .u16 0, .int .u16 0, .int .u16 0, .int .u16 0, .int .u16 0, .int .u16 0, .int .u16 0, .int .u16 0, .int .u16 0, .int .u16 0, .int .u16 0, .int .u16 0, .int .u16 0, .int .u16 0, .int .u16 0, .int .u16 0, .int .u16 0, .int .u16 0, .int .u16 0, .int .u16 0, .int .u16 0, .int .u16 0] 40) = wa at HT00 HBA0 ⊢
  obtain ⟨bt, hbt⟩ : ∃ bt, w3.heap.size = bt := ⟨_, rfl⟩
  have hszA : w3.heap.size < wa.heap.size := by rw [← hwa]; simp
  rw [hbt] at HT00 HBA0 hszA ⊢
  have HBT := Lib.hid hbt
  clear hbt hwa
  go_loopw [8, 24] (fun _ v24 wr => ∃ i : Nat, i ≤ P.length ∧ v24 = .int .i64 i ∧ RowKit.Below bt w3 wr ∧ bt < wr.heap.size ∧ Told wr bt (tellN s (P.take i))) (fun _ v24 _ => P.length - (intOf v24).toNat)
  case atStart => exact ⟨0, Nat.zero_le _, rfl, HBA0.out, hszA, HT00.out⟩
  case round =>
    obtain ⟨i, hi, rfl, hbel, hsz, htold⟩ := hrel
    have hrow := Kd.R_below HS.out (by rw [HBT.out]; exact hbel)
    by_cases hlt : i < P.length
    -- R1
    · obtain ⟨n1, n15⟩ := HOK.out.node i hlt
      obtain ⟨c2, c3, c4⟩ := HOK.out.child i hlt
      have cne := HOK.out.some i hlt
      have htk : P.take (i + 1) = P.take i ++ [P[i]] := List.take_succ_eq_append_getElem hlt
      have hprev : 0 < i → ∀ q, P[i - 1]? = some q → P[i].1 ≤ q.1 := by
        intro h0 q hq
        have h := HOK.out.down (i - 1) (by omega)
        obtain ⟨hq1, rfl⟩ := List.getElem?_eq_some_iff.1 hq
        have e : i - 1 + 1 = i := by omega
        simp only [e] at h
        exact h
      obtain ⟨ad, ead, hx0, hx1⟩ := at_T38 (Kd.R_reads' hrow).2.2 (i : Int) (by omega) (by rw [List.length_map]; omega)
      subst ead
      have hri : rd_T38 (P.map m38) (i : Int) = m38 P[i] := by unfold rd_T38; simp [hlt]
      rw [hri, Int.toNat_natCast] at hx0 hx1
      have hadb : ad.block < wr.heap.size := by
        have := World.block_lt_of_cell? _ _ hx0
        unfold Addr.add at this; split at this <;> exact this
      have HTK := Lib.hid htk
      obtain ⟨nd, hnd⟩ : ∃ nd, P[i].1 = nd := ⟨_, rfl⟩
      obtain ⟨ch, hch⟩ : ∃ ch, P[i].2 = ch := ⟨_, rfl⟩
      have hm0 : (m38 P[i]).f0 = nd := hnd
      have hm1 : (m38 P[i]).f1 = ch := hch
      rw [hm0] at hx0
      rw [hm1] at hx1
      rw [hnd] at n1 n15 c2
      rw [hch] at c2 c3 c4 cne
      rw [hnd] at hprev
      have HND := Lib.hid hnd; have HCH := Lib.hid hch
      clear htk hnd hch hm0 hm1 hri
      have hpv : 0 < i → ∃ q, nd ≤ q ∧ wr.cell? (ad.add ((i - 1) * 2)) = some (.int .i64 q) := by
        intro h0
        obtain ⟨ad2, e2, y0, _⟩ := at_T38 (Kd.R_reads' hrow).2.2 ((i - 1 : Nat) : Int) (by omega) (by rw [List.length_map]; omega)
        have e3 : ad = ad2 := by injection e2
        have hr2 : rd_T38 (P.map m38) ((i - 1 : Nat) : Int) = m38 (P[i - 1]'(by omega)) := by
          have : i - 1 < P.length := by omega
          unfold rd_T38; simp [this]
        rw [hr2, Int.toNat_natCast, ← e3] at y0
        exact ⟨(P[i - 1]'(by omega)).1, hprev h0 _ (List.getElem?_eq_getElem (by omega)), y0⟩
      have hbs2 : ∀ c W, Calls Tryd.prog 15 #[.int .u16 (s : Int), .int .i64 c] W fun e w' => e = .returned (.int .u16 (belowI (s : Int) c)) ∧ w' = W := fun c W => (hbs c W).mono fun e w' ⟨h1, h2⟩ => ⟨h1, h2.symm⟩
      have hcb := hbs2 ch
      obtain ⟨bv, hbv⟩ : ∃ bv, belowI (s : Int) ch = bv := ⟨_, rfl⟩
      rw [hbv] at hcb cne
      have z1 : (bv == 0) = false := beq_eq_false_iff_ne.mpr cne
      have HBV := Lib.hid hbv
      have d2 : (Int.tdiv ch 2) = nd := by rw [Int.tdiv_eq_ediv_of_nonneg (by omega)]; exact c2
      clear hbv c2 hbs2
      go_wp2_with fail
      generalize hwb : wr.alloc (Obj.cells #[Value.int IntKind.i64 nd, Value.int IntKind.i64 ch] 38) = wb
      have k0 : wb.cell? ⟨wr.heap.size, 0, none⟩ = some (.int .i64 nd) := by rw [← hwb]; exact World.cell?_alloc_at _ _ _ _ rfl
      have k1 : wb.cell? ⟨wr.heap.size, 1, none⟩ = some (.int .i64 ch) := by rw [← hwb]; exact World.cell?_alloc_at _ _ _ _ rfl
      have kb : wb.heap.size = wr.heap.size + 1 := by rw [← hwb]; simp
      have hbelb : RowKit.Below bt w3 wb := by rw [← hwb]; exact hbel.alloc (by omega) _
      have htb : Told wb bt (tellN s (P.take i)) := by rw [← hwb]; exact htold.alloc hsz _
      have HWB := Lib.hid hwb; have HBELB := Lib.hid hbelb; have HTB := Lib.hid htb
      obtain ⟨nb, hnb⟩ : ∃ nb, wr.heap.size = nb := ⟨_, rfl⟩
      rw [hnb] at k0 k1 kb hsz hadb ⊢
      have t1 : decide (nd < 1) = false := decide_eq_false (by omega)
      have t2 : decide (15 < nd) = false := decide_eq_false (by omega)
      have t4 : IntKind.i64.wrap nd = nd := by simp only [IntKind.wrap, IntKind.bits, IntKind.signed]; simp; omega
      have t3 : (IntKind.i64.wrap nd != nd) = false := by rw [t4]; simp
      clear hwb hbelb htb hbel htold hx0 hx1 hrow
      obtain ⟨kt, kf⟩ := HTB.out nd.toNat (by omega)
      obtain ⟨tv, htv⟩ : ∃ tv, tellN s (P.take i) nd.toNat = tv := ⟨_, rfl⟩
      rw [htv] at kt
      have HTV := Lib.hid htv
      obtain ⟨ov, hov⟩ : ∃ ov, Go.bits .or .u16 (tv : Int) bv = ov := ⟨_, rfl⟩
      have HOV := Lib.hid hov
      have i1 : (0 : Int) ≤ nd := by omega
      have i2 : nd < 32 := by omega
      have hnbt : bt ≠ nb := by omega
      have hovn : ov = ((tv ||| belowN s ch : Nat) : Int) := by
        rw [← HOV.out, ← HBV.out, belowI_eq, u16_or_nat _ _ (by rw [← HTV.out]; exact tell_lt s hs _ _) (belowN_lt hs _)]
      have hrel : ∀ m : Nat, ∃ k : Nat, k ≤ P.length ∧ Value.int .i64 ((i + 1 : Nat) : Int) = .int .i64 (k : Int) ∧ RowKit.Below bt w3 ((wb.drewN m).setCell ⟨bt, nd.toNat, none⟩ (.int .u16 ov)) ∧ bt < ((wb.drewN m).setCell ⟨bt, nd.toNat, none⟩ (.int .u16 ov)).heap.size ∧ Told ((wb.drewN m).setCell ⟨bt, nd.toNat, none⟩ (.int .u16 ov)) bt (tellN s (P.take k)) := by
        intro m
        refine ⟨i + 1, by omega, rfl, ?_, by simp; omega, ?_⟩
        · have h := below_set (j := nd.toNat) (v := .int .u16 ov) (pw_below_drewN (by rw [HBT.out]; exact HBELB.out) m) (Nat.le_of_eq HBT.out)
          rw [HBT.out] at h
          exact h
        · rw [hovn]
          refine (HTB.out.drewN m).set nd.toNat (by omega) _ ?_ fun j hj hne => ?_
          · rw [HTK.out, tell_snoc, HND.out, HCH.out, if_pos (by omega), HTV.out]
          · rw [HTK.out, tell_snoc, HND.out, if_neg (by omega)]
      have HREL := Lib.hid hrel
      clear hrel hovn
      by_cases hi0 : i = 0
      · subst hi0
        clear hpv hprev
        go_quiet (first | (go_at_call 15; refine Calls.quiet_of_same (hcb _)))
        go_wp2_with fail
        go_region_with (first | (go_at_call 15; refine (hcb _).mono ?_; rintro e w' ⟨rfl, rfl⟩))
        all_goals (go_wp2_with fail; go_roundw)
        all_goals first | exact HREL.out _ | (simp [intOf]; omega)
      · obtain ⟨q, q1, q2⟩ := hpv (by omega)
        clear hpv hprev
        have q3 : wb.cell? (ad.add ((i - 1) * 2)) = some (.int .i64 q) := by
          rw [← HWB.out, World.cell?_alloc_lt _ _ _ (by rw [hnb]; unfold Addr.add; split <;> exact hadb)]
          exact q2
        have q4 : decide (q < nd) = false := decide_eq_false (by omega)
        have e1 : IntKind.i64.wrap ((i : Int) - 1) = ((i - 1 : Nat) : Int) := by simp only [IntKind.wrap, IntKind.bits, IntKind.signed]; simp; omega
        have e2 : decide ((0 : Int) < (i : Int)) = true := decide_eq_true (by omega)
        have e3 : i - 1 < P.length := by omega
        have e4 : 0 < i := by omega
        go_quiet (first | (go_at_call 15; refine Calls.quiet_of_same (hcb _)))
        go_wp2_with fail
        go_region_with (first | (go_at_call 15; refine (hcb _).mono ?_; rintro e w' ⟨rfl, rfl⟩))
        all_goals (go_wp2_with fail; go_roundw)
        all_goals first | exact HREL.out _ | (simp [intOf]; omega)
    -- R1E
    · obtain rfl : i = P.length := by omega
      rw [List.take_length] at htold
      have HT1 := Lib.hid htold; have HB1 := Lib.hid hbel; have HZ1 := Lib.hid hsz
      clear htold hbel hrow hsz
      go_wp2_with fail
      go_loopw [10, 11, 80] (fun _ _ v80 wr => ∃ i : Nat, i ≤ L.length ∧ v80 = .int .i64 i ∧ RowKit.Below bt w3 wr ∧ bt < wr.heap.size ∧ Told wr bt (fun j => if (j : Int) ∈ L.take i then 0 else tellN s P j)) (fun _ _ v80 _ => L.length - (intOf v80).toNat)
      case atStart => exact ⟨0, Nat.zero_le _, rfl, HB1.out, HZ1.out, by simpa using HT1.out⟩
      case round =>
        obtain ⟨i, hi, rfl, hbel, hsz, htold⟩ := hrel
        have hrow := Kd.R_below HF3.out (by rw [HBT.out]; exact hbel)
        by_cases hlt : i < L.length
        · obtain ⟨n1, n15⟩ := HLR.out L[i] (List.getElem_mem _)
          have htell := HFO.out.tell L[i] (List.getElem_mem _)
          have htk : L.take (i + 1) = L.take i ++ [L[i]] := List.take_succ_eq_append_getElem hlt
          have hnot : L[i] ∉ L.take i := by
            intro hm
            obtain ⟨j, hj, e⟩ := List.mem_iff_getElem.1 hm
            have hj2 : j < i := by simpa using (List.length_take ▸ hj : j < min i L.length) |> fun h => Nat.lt_of_lt_of_le h (Nat.min_le_left _ _)
            have h := List.pairwise_iff_getElem.1 HFO.out.fall j i (by omega) hlt hj2
            rw [List.getElem_take] at e
            omega
          obtain ⟨ad, ead, hx0⟩ := Kd.at_int (Kd.R_reads' hrow).2.2 (i : Int) (by omega) (by omega)
          subst ead
          have hri : rd L (i : Int) = L[i] := by simp [rd, hlt]
          rw [hri, Int.toNat_natCast] at hx0
          have hpv : 0 < i → ∃ q, L[i] < q ∧ wr.cell? (ad.add (i - 1)) = some (.int .i64 q) := by
            intro h0
            obtain ⟨ad2, e2, y0⟩ := Kd.at_int (Kd.R_reads' hrow).2.2 ((i - 1 : Nat) : Int) (by omega) (by omega)
            have e3 : ad = ad2 := by injection e2
            have hl2 : i - 1 < L.length := by omega
            have hr2 : rd L ((i - 1 : Nat) : Int) = L[i - 1] := by simp [rd, hl2]
            rw [hr2, Int.toNat_natCast, ← e3] at y0
            exact ⟨L[i - 1], List.pairwise_iff_getElem.1 HFO.out.fall (i - 1) i hl2 hlt (by omega), y0⟩
          obtain ⟨kt, kf⟩ := htold L[i].toNat (by omega)
          have hcast : ((L[i].toNat : Nat) : Int) = L[i] := by omega
          have hkt : (if ((L[i].toNat : Nat) : Int) ∈ L.take i then 0 else tellN s P L[i].toNat) = belowN s L[i] := by
            rw [hcast, if_neg hnot, htell]
          simp only [hkt] at kt
          have HNX : ∀ m : Nat, Told ((wr.drewN m).setCell ⟨bt, L[i].toNat, none⟩ (.int .u16 ((0 : Nat) : Int))) bt (fun j => if (j : Int) ∈ L.take (i + 1) then 0 else tellN s P j) := fun m => by
            refine (htold.drewN m).set L[i].toNat (by omega) 0 ?_ fun j hj hne => ?_
            · simp only [htk, hcast]
              rw [if_pos (List.mem_append_right _ List.mem_cons_self)]
            · have : ((j : Int) ∈ L.take i ++ [L[i]]) ↔ (j : Int) ∈ L.take i := by
                rw [List.mem_append, List.mem_singleton]
                constructor
                · rintro (h | h)
                  · exact h
                  · exact absurd (by omega) hne
                · exact .inl
              simp only [htk]
              by_cases g : (j : Int) ∈ L.take i
              · rw [if_pos (this.2 g), if_pos g]
              · rw [if_neg (fun h => g (this.1 h)), if_neg g]
          obtain ⟨nd, hnd⟩ : ∃ nd, L[i] = nd := ⟨_, rfl⟩
          rw [hnd] at n1 n15 hx0 kt kf
          simp only [hnd] at hpv HNX
          have hbi : belowI (s : Int) nd = ((belowN s nd : Nat) : Int) := belowI_eq s nd
          have hcb : ∀ W, Calls Tryd.prog 15 #[.int .u16 (s : Int), .int .i64 nd] W fun e w' => e = .returned (.int .u16 (belowI (s : Int) nd)) ∧ w' = W := fun W => (hbs nd W).mono fun e w' ⟨h1, h2⟩ => ⟨h1, h2.symm⟩
          rw [hbi] at hcb
          generalize belowN s nd = bv at kt hcb
          have t1 : decide (nd < 1) = false := decide_eq_false (by omega)
          have t2 : decide (15 < nd) = false := decide_eq_false (by omega)
          have i1 : (0 : Int) ≤ nd := by omega
          have i2 : nd < 32 := by omega
          have HNXT := Lib.hid HNX
          have hbel2 : ∀ m : Nat, RowKit.Below bt w3 ((wr.drewN m).setCell ⟨bt, nd.toNat, none⟩ (.int .u16 ((0 : Nat) : Int))) := fun m => by
            have h := below_set (j := nd.toNat) (v := .int .u16 ((0 : Nat) : Int)) (pw_below_drewN (by rw [HBT.out]; exact hbel) m) (Nat.le_of_eq HBT.out)
            rw [HBT.out] at h
            exact h
          have HBEL2 := Lib.hid hbel2
          clear HNX hbel2 hbi hkt hcast hnot htk htell htold hrow hri hnd hbel
          go_wp2_with fail
          by_cases hi0 : i = 0
          · have e5 : decide ((0 : Int) < (i : Int)) = false := decide_eq_false (by omega)
            have e6 : ¬ 0 < i := by omega
            clear hpv
            go_quiet (first | (go_at_call 15; refine Calls.quiet_of_same (hcb _)))
            go_wp2_with fail
            go_roundw
            case rel => exact ⟨i + 1, by omega, by simp [*], HBEL2.out _, by simpa using hsz, HNXT.out _⟩
            case measure => simp [intOf]; omega
          · obtain ⟨q, q1, q2⟩ := hpv (by omega)
            clear hpv
            have q4 : decide (q ≤ nd) = false := decide_eq_false (by omega)
            have e1 : IntKind.i64.wrap ((i : Int) - 1) = ((i - 1 : Nat) : Int) := by simp only [IntKind.wrap, IntKind.bits, IntKind.signed]; simp; omega
            have e2 : decide ((0 : Int) < (i : Int)) = true := decide_eq_true (by omega)
            have e3 : i - 1 < L.length := by omega
            have e4 : 0 < i := by omega
            go_quiet (first | (go_at_call 15; refine Calls.quiet_of_same (hcb _)))
            go_wp2_with fail
            go_roundw
            case rel => exact ⟨i + 1, by omega, by simp, HBEL2.out _, by simpa using hsz, HNXT.out _⟩
            case measure => simp [intOf]; omega
        · obtain rfl : i = L.length := by omega
          rw [List.take_length] at htold
          have hzero : ∀ j, j < 32 → wr.cell? ⟨bt, j, none⟩ = some (.int .u16 0) := fun j hj => by
            have h := (htold j hj).1
            by_cases g : (j : Int) ∈ L
            · simp only [if_pos g] at h; exact h
            · simp only [if_neg g, HFO.out.none j hj g] at h; exact h
          have hrng : wr.rangeAt bt 0 (List.replicate 32 (.int .u16 0)) := by
            intro j v hv
            rw [List.getElem?_replicate] at hv
            split at hv
            · rename_i hj
              rw [Nat.zero_add, ← Option.some.inj hv]
              exact hzero j hj
            · cases hv
          have HB2 := Lib.hid hbel
          clear hzero htold hbel hrow
          obtain ⟨A, hA⟩ : ∃ A, (List.replicate 32 (Value.int .u16 0)).toArray = A := ⟨_, rfl⟩
          have hAj : ∀ j : Nat, j < 32 → A[j]? = some (.int .u16 0) := fun j hj => by
            rw [← hA, List.getElem?_toArray, List.getElem?_replicate, if_pos hj]
          have hAs : A.size = 32 := by rw [← hA]; simp
          -- Z
          · go_wp2_with ((with_reducible refine gate_dst (N := 116) rfl ?_); refine wpList_load_mid rfl 40 (.tmp 7) rfl bt 0 rfl (List.replicate 32 (.int .u16 0)) _ hrng hu40 rfl rfl ?_; rw [hA]; clear hA)
            go_loop [13, 117] (fun _ v => ∃ j : Nat, j ≤ 32 ∧ v = .int .i64 j) (fun _ v => 32 - (intOf v).toNat)
            case atStart => exact ⟨0, Nat.zero_le _, rfl⟩
            case round =>
              obtain ⟨j, hj, rfl⟩ := hrel
              by_cases hj2 : j < 32
              · have ha := hAj j hj2
                have hidx := fun W => run_idx W A j hj2 hAs ha
                go_wp2_with fail
                go_round
                case rel => exact ⟨j + 1, by omega, by simp⟩
                case measure => simp [intOf]; omega
              · obtain rfl : j = 32 := by omega
                go_wp2_with fail
                go_ret
                exact ⟨rfl, HBW.out.trans (HB2.out.mono (by rw [← HBT.out]; exact HBW.out.size))⟩
          -- ZE

/-! ### The plain facts -/
theorem kid_pair {is n c : Int} {p : Int × Int} (h : p ∈ kid is n c) : p = (n, c) ∧ belowI is c ≠ 0 := by
  unfold kid at h
  split at h
  · cases h
  · rename_i hz
    exact ⟨List.mem_singleton.1 h, hz⟩
theorem kids_pair {is n : Int} {p : Int × Int} (h : p ∈ kidsL is n) : p.1 = n ∧ (p.2 = 2 * n ∨ p.2 = 2 * n + 1) ∧ belowI is p.2 ≠ 0 := by
  unfold kidsL at h
  rcases List.mem_append.1 h with h | h
  · obtain ⟨rfl, h2⟩ := kid_pair h; exact ⟨rfl, .inl rfl, h2⟩
  · obtain ⟨rfl, h2⟩ := kid_pair h; exact ⟨rfl, .inr rfl, h2⟩
theorem down_falls : ∀ n : Nat, (downN n).Pairwise (· > ·) ∧ ∀ x ∈ downN n, x ≤ n
  | 0 => ⟨List.Pairwise.nil, fun x h => by cases h⟩
  | n + 1 => by
    obtain ⟨h1, h2⟩ := down_falls n
    refine ⟨List.pairwise_cons.2 ⟨fun x hx => by have := h2 x hx; omega, h1⟩, fun x hx => ?_⟩
    rcases List.mem_cons.1 hx with rfl | hx
    · exact Nat.le_refl _
    · have := h2 x hx; omega
theorem fresh_falls (a s : Nat) : (freshI (a : Int) (s : Int)).Pairwise (· > ·) := by
  unfold freshI
  rw [List.pairwise_map]
  refine List.Pairwise.imp (fun {x y} h => ?_) (List.Pairwise.filter _ (down_falls 15).1)
  omega
theorem step_ok (s : Nat) (L : List Int) (hr : ∀ n ∈ L, 1 ≤ n ∧ n ≤ 15) (hf : L.Pairwise (· > ·)) : StepOk s (pairsL (s : Int) L) := by
  have hm : ∀ p ∈ pairsL (s : Int) L, p.1 ∈ L ∧ (p.2 = 2 * p.1 ∨ p.2 = 2 * p.1 + 1) ∧ belowI (s : Int) p.2 ≠ 0 := by
    intro p hp
    unfold pairsL at hp
    obtain ⟨n, hn, hp⟩ := List.mem_flatMap.1 hp
    obtain ⟨e1, e2, e3⟩ := kids_pair hp
    rw [e1]
    exact ⟨hn, e2, e3⟩
  have hfall : (pairsL (s : Int) L).Pairwise fun p q => q.1 ≤ p.1 := by
    unfold pairsL
    rw [List.pairwise_flatMap]
    refine ⟨fun n _ => ?_, ?_⟩
    · refine List.pairwise_iff_getElem.2 fun i j hi hj _ => ?_
      rw [(kids_pair (List.getElem_mem hi)).1, (kids_pair (List.getElem_mem hj)).1]
      exact Int.le_refl _
    · refine hf.imp fun {x y} hxy p hp q hq => ?_
      rw [(kids_pair hp).1, (kids_pair hq).1]
      omega
  refine ⟨fun i h => hr _ (hm _ (List.getElem_mem h)).1, fun i h => ?_, fun i h => (hm _ (List.getElem_mem h)).2.2, fun i h => List.pairwise_iff_getElem.1 hfall i (i + 1) (by omega) h (by omega)⟩
  obtain ⟨h1, h2, _⟩ := hm _ (List.getElem_mem h)
  have := hr _ h1
  omega
theorem tell_acc (s : Nat) (j : Nat) : ∀ (P : List (Int × Int)) (acc : Nat), P.foldl (fun acc p => if p.1 = (j : Int) then acc ||| belowN s p.2 else acc) acc = acc ||| tellN s P j
  | [], acc => by unfold tellN; simp
  | p :: P, acc => by
    unfold tellN
    rw [List.foldl_cons, List.foldl_cons, tell_acc s j P, tell_acc s j P]
    by_cases h : p.1 = (j : Int)
    · rw [if_pos h, if_pos h, Nat.zero_or, Nat.or_assoc]
    · rw [if_neg h, if_neg h, Nat.zero_or]
theorem tell_append (s : Nat) (P Q : List (Int × Int)) (j : Nat) : tellN s (P ++ Q) j = tellN s P j ||| tellN s Q j := by
  show (P ++ Q).foldl _ 0 = _
  rw [List.foldl_append, tell_acc]
  rfl
theorem tell_other (s : Nat) (P : List (Int × Int)) (j : Nat) (h : ∀ p ∈ P, p.1 ≠ (j : Int)) : tellN s P j = 0 := by
  induction P with
  | nil => rfl
  | cons p P ih =>
    rw [show p :: P = [p] ++ P from rfl, tell_append, ih fun q hq => h q (List.mem_cons_of_mem _ hq), Nat.or_zero]
    unfold tellN
    rw [List.foldl_cons, if_neg (h p List.mem_cons_self)]
    rfl
theorem tell_kid (s : Nat) (n : Nat) (c : Int) : tellN s (kid (s : Int) (n : Int) c) n = belowN s c := by
  unfold kid
  split
  · rename_i hz
    rw [belowI_eq] at hz
    have : belowN s c = 0 := by omega
    rw [this]; rfl
  · unfold tellN
    rw [List.foldl_cons, List.foldl_nil, if_pos rfl, Nat.zero_or]
theorem belowN_nat (s n : Nat) (h1 : 1 ≤ n) (h2 : n ≤ 31) : belowN s (n : Int) = s &&& maskN n := by
  unfold belowN
  rw [if_pos ⟨by omega, by omega⟩, Int.toNat_natCast]
theorem tell_kids (s n : Nat) (h1 : 1 ≤ n) (h2 : n ≤ 15) : tellN s (kidsL (s : Int) (n : Int)) n = belowN s (n : Int) := by
  unfold kidsL
  rw [tell_append, tell_kid, tell_kid, show (2 * (n : Int)) = ((2 * n : Nat) : Int) by omega, show (((2 * n : Nat) : Int) + 1) = ((2 * n + 1 : Nat) : Int) by omega, belowN_nat s (2 * n) (by omega) (by omega), belowN_nat s (2 * n + 1) (by omega) (by omega), belowN_nat s n h1 (by omega), ← Nat.and_or_distrib_left, (kids n h1 (by omega)).1]
theorem fresh_ok (s : Nat) : ∀ (L : List Int), (∀ n ∈ L, 1 ≤ n ∧ n ≤ 15) → L.Pairwise (· > ·) → FreshOk s L (pairsL (s : Int) L)
  | [], _, h => ⟨fun n hn => (by cases hn), fun _ _ _ => rfl, h⟩
  | n :: L, hr, hf => by
    obtain ⟨f1, f2⟩ := List.pairwise_cons.1 hf
    have ih := fresh_ok s L (fun m hm => hr m (List.mem_cons_of_mem _ hm)) f2
    obtain ⟨r1, r2⟩ := hr n List.mem_cons_self
    have hp : pairsL (s : Int) (n :: L) = kidsL (s : Int) n ++ pairsL (s : Int) L := rfl
    have hout : ∀ j : Nat, (j : Int) ≠ n → tellN s (kidsL (s : Int) n) j = 0 := fun j hj => tell_other s _ j fun p hq e => hj (by rw [← e, (kids_pair hq).1])
    have hnot : n ∉ L := fun h => by have := f1 n h; omega
    have hL : ∀ j : Nat, (j : Int) ∉ L → tellN s (pairsL (s : Int) L) j = 0 := fun j hj => tell_other s _ j fun p hq e => by
      unfold pairsL at hq
      obtain ⟨m, hm, hq⟩ := List.mem_flatMap.1 hq
      rw [(kids_pair hq).1] at e
      exact hj (e ▸ hm)
    refine ⟨fun m hm => ?_, fun j hj hn => ?_, hf⟩
    · rw [hp, tell_append]
      rcases List.mem_cons.1 hm with rfl | hm
      · obtain ⟨k, rfl⟩ := Int.eq_ofNat_of_zero_le (show 0 ≤ m by omega)
        rw [Int.toNat_natCast, tell_kids s k (by omega) (by omega), hL k hnot, Nat.or_zero]
      · have := hr m (List.mem_cons_of_mem _ hm)
        rw [ih.tell m hm, hout m.toNat (fun e => hnot (by rw [← e, Int.toNat_of_nonneg (by omega)]; exact hm)), Nat.zero_or]
    · rw [hp, tell_append, hout j (fun e => hn (e ▸ List.mem_cons_self)), hL j (fun h => hn (List.mem_cons_of_mem _ h)), Nat.or_zero]
theorem TreeReached (a0 a1 : Int) (w : World) (h0 : (Lit.int .u16 a0).wf = true) (h1 : (Lit.int .u16 a1).wf = true) (HT0 : TabAt w) :
    Calls Tryd.prog 5 #[.int .u16 a0, .int .u16 a1] w fun e w' => e = .returned (.bool true) ∧ RowKit.Below w.heap.size w w' := by
  obtain ⟨a, rfl, ha⟩ := wf16 h0
  obtain ⟨s, rfl, hs⟩ := wf16 h1
  exact reached_any a s ha hs (step_ok s _ (fresh_range _ _) (fresh_falls a s)) (fresh_ok s _ (fresh_range _ _) (fresh_falls a s)) w HT0
end Go.Proofs.YtnpabhoflkppaaaDoor.Pr
