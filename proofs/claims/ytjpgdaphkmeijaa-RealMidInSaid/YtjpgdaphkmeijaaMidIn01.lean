/- RealMidIn: the walk. -/
import Derived.Test.YtjpgdaphkmeijaaMids01
import Derived.Test.YtjpgdaphkmeijaaClamp01
set_option linter.unusedVariables false
set_option linter.unusedSimpArgs false
namespace Go.Proofs.Ytjpgdaphkmeijaa.Rl
open Go.RowKit Go.Shelf Go.Proofs.YtjpgdaphkmeijaaW.PrintWords

theorem isNaN_g (a : Nat) (w : World) : Calls Try.prog 38 #[.float .f64 a] w fun e w' => e = .returned (.bool (fNaN a)) ∧ w = w' := by
  go_enter Try.func38, Try.ntmps38
  go_wp2
  go_ret
  exact ⟨rfl, rfl⟩
theorem compare_g (a b : Nat) (w : World) : Calls Try.prog 34 #[.float .f64 a, .float .f64 b] w fun e w' => e = .returned (.int .i64 (cmpF a b)) ∧ w = w' := by
  go_enter Try.func34, Try.ntmps34
  go_wp2_with (go_at_call 38; refine (isNaN_g _ _).mono ?_; rintro e w' ⟨rfl, rfl⟩)
  all_goals (go_ret; refine ⟨?_, rfl⟩; simp_all [cmpF, ford])
theorem order_g0 (a b : Nat) (w : World) : Calls Try.prog 16 #[.float .f64 a, .float .f64 b] w fun e w' => e = .returned (.int .i64 (orderF a b)) ∧ w = w' := by
  have hr : -1 ≤ cmpF a b ∧ cmpF a b ≤ 1 := by unfold cmpF; repeat' split <;> omega
  go_enter Try.func16, Try.ntmps16
  go_wp2_with (go_at_call 34; refine (compare_g _ _ _).mono ?_; rintro e w' ⟨rfl, rfl⟩)
  all_goals (go_ret; refine ⟨?_, rfl⟩; simp_all [orderF, fNaN, ford])
theorem less_succ (zs : List Nat) (c j : Nat) (h : j < zs.length) : less (zs.take (j + 1)) c = less (zs.take j) c + if codeR (zs.getD j 0) < c then 1 else 0 := by
  have := take_countP zs (fun x => codeR x < c) j h
  simp only [decide_eq_true_eq] at this
  exact this
theorem more_succ (zs : List Nat) (c j : Nat) (h : j < zs.length) : more (zs.take (j + 1)) c = more (zs.take j) c + if c < codeR (zs.getD j 0) then 1 else 0 := by
  have := take_countP zs (fun x => c < codeR x) j h
  simp only [decide_eq_true_eq] at this
  exact this
theorem same_succ (zs : List Nat) (c j : Nat) (h : j < zs.length) : same (zs.take (j + 1)) c = same (zs.take j) c + if codeR (zs.getD j 0) = c then 1 else 0 := by
  have := take_countP zs (fun x => codeR x == c) j h
  simp only [beq_iff_eq] at this
  exact this

set_option maxRecDepth 100000 in
set_option maxHeartbeats 4000000 in
theorem midin_any (ad : Addr) (cp : Nat) (zs : List Nat) (hz : ∀ x ∈ zs, x < 18446744073709551616) (hne : zs ≠ []) (hlen : zs.length ≤ 200) (w : World) (hb : ad.block < w.heap.size)
    (hc : ∀ j, j < zs.length → w.cell? (ad.add j) = some (.int .u64 ((zs.getD j 0 : Nat) : Int))) :
    Calls Try.prog 6 #[.slice (some ad) zs.length cp] w (True1 w) := by
  obtain ⟨i0, hi, hz0, hz1, hz2⟩ := info_parts infoF
  have hmid : ∀ (g cap : Nat) (W : World), g < W.heap.size → FCells W g 0 zs → Calls Try.prog 13 #[.slice (some ⟨g, 0, none⟩) zs.length cap] W (MidPost zs W) := fun g cap W hg hI => mid_some g 0 cap zs hz hne (by omega) W hg hI
  have hpos : 0 < zs.length := List.length_pos_iff.2 hne
  have HIN := Lib.hid (mid_in zs hz hne)
  have HML := Lib.hid (midF_lt zs hz)
  obtain ⟨len, hl⟩ : ∃ len, len = zs.length := ⟨_, rfl⟩
  rw [← hl] at hpos hlen hc hmid ⊢
  have HZ := Lib.hid hz; have HN := Lib.hid hne; have HL := Lib.hid hl
  clear hz hne hl
  have d1 : ((len : Int) == 0) = false := by simp; omega
  have d2 : ¬ (200 : Int) < (len : Int) := by omega
  go_enter Try.func6, Try.ntmps6
  go_wp2_with (go_at_call 11; refine (alive_f _).mono ?_; rintro e w1 ⟨rfl, hb1⟩)
  have hB1 := hb1
  go_loopw [3, 24] (fun f i wr => ∃ k : Nat, k ≤ len ∧ i = .int .i64 k ∧ FRow w.heap.size wr f (zs.take k) ∧ RowKit.Below w.heap.size w wr) (fun _ i _ => len - (intOf i).toNat)
  case atStart => exact ⟨0, Nat.zero_le _, rfl, by unfold FRow; exact World.ownsRow_nil _ _ _ _, hb1⟩
  case round =>
    obtain ⟨k, hk, rfl, hrow, hbel⟩ := hrel
    by_cases hlt : k < len
    · have hcx : wr.cell? (ad.add k) = some (.int .u64 ((zs.getD k 0 : Nat) : Int)) := (hbel.cell (p := ad.add k) (by unfold Addr.add; split <;> exact hb)).trans (hc k hlt)
      have hlt2 : k < zs.length := by have := HL.out; omega
      have hts : zs.take (k + 1) = zs.take k ++ [zs.getD k 0] := by
        rw [List.take_succ_eq_append_getElem hlt2, List.getD_eq_getElem?_getD, List.getElem?_eq_getElem hlt2, Option.getD_some]
      obtain ⟨z, hzk⟩ : ∃ z, zs.getD k 0 = z := ⟨_, rfl⟩
      rw [hzk] at hcx hts
      have hrow2 : wr.ownsRow w.heap.size 26 1 u3 k ((zs.take k).map (Value.float .f64)) := by
        have h := hrow
        unfold FRow at h
        rw [List.length_take, Nat.min_eq_left (by omega)] at h
        exact h
      have HTS := Lib.hid hts
      have HM := Lib.hid hmid; have HC := Lib.hid hc
      clear hzk hc hts hrow hmid hlt2
      go_wp2_with (first | (go_at_call 12; refine (of_g _ _).mono ?_; rintro e w' ⟨rfl, rfl⟩) | (at_builtin; refine wpList_append_own _ rfl _ _ 24 rfl w.heap.size 26 i0 (.float .f64 0) 1 8 Try.underlying24 hi hz0 hz1 hz2 rfl (by decide) _ _ _ rfl (hrow2.alloc _) ⟨wr.heap.size, 0, none⟩ 1 1 [.float .f64 z] rfl rfl (cell_one_new _ _ _) (by simp [Value.oneCell']) (by unfold maxLen; omega) (by omega) (by have := hbel.size; simp; omega) ?_; intro v' w2 hown hgrow _; have HO := Lib.hid hown; have HG := Lib.hid hgrow; have HB2 := Lib.hid (own_base (hrow2.alloc (.cells #[.float .f64 z] 26))); clear hown hgrow hrow2))
      go_roundw
      case rel =>
        refine ⟨k + 1, by omega, by simp, ?_, ?_⟩
        · unfold FRow
          rw [HTS.out, List.length_append, List.length_take, Nat.min_eq_left (by have := HL.out; omega), List.map_append]
          exact HO.out
        · exact (hbel.alloc (by have := hbel.size; omega) _).grown HG.out (by have := hbel.size; simp; omega) (fun j hj => HB2.out j hj)
      case measure => simp [intOf]; omega
    · obtain rfl : k = len := by omega
      have hl := HL.out
      have he : zs.take k = zs := by rw [hl, List.take_length]
      rw [he] at hrow
      obtain ⟨g, cap, rfl, hg, hcells⟩ := hrow.some HN.out
      rw [← hl]
      have hcell : ∀ (W : World), RowKit.Below wr.heap.size wr W → FCells W g 0 zs := fun W hW => hcells.below hW hg
      clear hl he
      have HC := Lib.hid hc
      clear hc
      go_wp2_with (go_at_call 13; refine (hmid g cap _ hg hcells).mono ?_; rintro e w2 ⟨rfl, hb2⟩)
      have hcell2 := hcell w2 hb2
      have hbel2 := hbel.trans (hb2.mono hbel.size)
      clear hmid hcell hcells
      have HB2 := Lib.hid hbel2
      have hcf : ∀ j, j < k → w2.cell? ⟨g, j, none⟩ = some (.float .f64 (zs.getD j 0)) := fun j hj => by
        have h := hcell2 j (by have := HL.out; omega)
        rw [Nat.zero_add] at h
        rw [h, List.getD_eq_getElem?_getD]
      have HCF := Lib.hid hcf
      have HROW := Lib.hid hrow
      clear hcf hcell2 hbel2 hrow hb2 hB1 hb1 hbel
      obtain ⟨m, hmm⟩ : ∃ m, midF zs = m := ⟨_, rfl⟩
      have HIN' := HIN.out
      have HML' := HML.out
      rw [hmm] at HIN' HML'
      rw [hmm]
      have HI2 := Lib.hid HIN'; have HM2 := Lib.hid HML'
      clear hmm HIN' HML' HIN HML
      go_loop [7, 8, 9, 38] (fun a b c i => ∃ j : Nat, j ≤ k ∧ i = .int .i64 j ∧ a = .int .i64 (less (zs.take j) (codeR m) : Nat) ∧ b = .int .i64 (more (zs.take j) (codeR m) : Nat) ∧ c = .bool (decide (0 < same (zs.take j) (codeR m)))) (fun _ _ _ i => k - (intOf i).toNat)
      case atStart => exact ⟨0, Nat.zero_le _, rfl, rfl, rfl, rfl⟩
      case round =>
        obtain ⟨j, hj, rfl, rfl, rfl, rfl⟩ := hrel
        by_cases hjt : j < k
        · have c2 := HCF.out j hjt
          have hjl : j < zs.length := by have := HL.out; omega
          have hz := HZ.out (zs.getD j 0) (by rw [List.getD_eq_getElem?_getD, List.getElem?_eq_getElem hjl, Option.getD_some]; exact List.getElem_mem _)
          have e1 := less_succ zs (codeR m) j hjl
          have e2 := more_succ zs (codeR m) j hjl
          have e3 := same_succ zs (codeR m) j hjl
          have l1 : less (zs.take j) (codeR m) ≤ j := Nat.le_trans List.countP_le_length (by rw [List.length_take]; omega)
          have l2 : more (zs.take j) (codeR m) ≤ j := Nat.le_trans List.countP_le_length (by rw [List.length_take]; omega)
          obtain ⟨z, hzk⟩ : ∃ z, zs.getD j 0 = z := ⟨_, rfl⟩
          rw [hzk] at c2 hz e1 e2 e3
          have ho := orderF_eq hz HM2.out
          unfold orderR at ho
          generalize less (zs.take j) (codeR m) = L at *
          generalize more (zs.take j) (codeR m) = O at *
          generalize same (zs.take j) (codeR m) = S at *
          rcases Nat.lt_trichotomy (codeR z) (codeR m) with q | q | q
          · rw [if_pos q] at ho e1
            rw [if_neg (by omega)] at e2 e3
            have E1 := Lib.hid e1; have E2 := Lib.hid e2; have E3 := Lib.hid e3
            clear hzk e1 e2 e3 hjl hz q
            go_wp2_with (go_at_call 16; refine (order_g0 _ _ _).mono ?_; rintro e w' ⟨rfl, rfl⟩)
            go_round
            case rel => exact ⟨j + 1, by omega, by simp, by rw [E1.out]; simp, by rw [E2.out]; rfl, by rw [E3.out]; rfl⟩
            case measure => simp [intOf]; omega
          · rw [if_neg (by omega), if_neg (by omega)] at ho
            rw [if_neg (by omega)] at e1 e2
            rw [if_pos q] at e3
            have E1 := Lib.hid e1; have E2 := Lib.hid e2; have E3 := Lib.hid e3
            clear hzk e1 e2 e3 hjl hz q
            go_wp2_with (go_at_call 16; refine (order_g0 _ _ _).mono ?_; rintro e w' ⟨rfl, rfl⟩)
            go_round
            case rel => exact ⟨j + 1, by omega, by simp, by rw [E1.out]; rfl, by rw [E2.out]; rfl, by rw [E3.out]; simp⟩
            case measure => simp [intOf]; omega
          · rw [if_neg (by omega), if_pos q] at ho
            rw [if_pos q] at e2
            rw [if_neg (by omega)] at e1 e3
            have E1 := Lib.hid e1; have E2 := Lib.hid e2; have E3 := Lib.hid e3
            clear hzk e1 e2 e3 hjl hz q
            go_wp2_with (go_at_call 16; refine (order_g0 _ _ _).mono ?_; rintro e w' ⟨rfl, rfl⟩)
            go_round
            case rel => exact ⟨j + 1, by omega, by simp, by rw [E1.out]; rfl, by rw [E2.out]; simp, by rw [E3.out]; rfl⟩
            case measure => simp [intOf]; omega
        · obtain rfl : j = k := by omega
          have hl := HL.out
          have he : zs.take j = zs := by rw [hl, List.take_length]
          rw [he]
          obtain ⟨i1, i2, i3⟩ := HI2.out
          rw [← hl] at i2 i3
          have b1 : decide (0 < same zs (codeR m)) = true := decide_eq_true i1
          clear hl he
          generalize less zs (codeR m) = L at *
          generalize more zs (codeR m) = O at *
          generalize same zs (codeR m) = S at *
          have t1 : 2 * (L : Int) ≤ (j : Int) := by omega
          have t2 : 2 * (O : Int) ≤ (j : Int) := by omega
          clear i1 i2 i3
          go_wp2
          go_ret
          exact ⟨rfl, HB2.out⟩

set_option maxRecDepth 100000 in
set_option maxHeartbeats 4000000 in
theorem midin_none (A : Option Addr) (n cp : Nat) (hn : 200 < n ∨ n = 0) (w : World) : Calls Try.prog 6 #[.slice A n cp] w (True1 w) := by
  rcases hn with hn | rfl
  · have h1 : (200 : Int) < (n : Int) := by omega
    go_enter Try.func6, Try.ntmps6
    go_wp2_with (go_at_call 11; refine (alive_f _).mono ?_; rintro e w1 ⟨rfl, hb1⟩)
    go_ret
    exact ⟨rfl, hb1⟩
  · go_enter Try.func6, Try.ntmps6
    go_wp2_with (go_at_call 11; refine (alive_f _).mono ?_; rintro e w1 ⟨rfl, hb1⟩)
    go_ret
    exact ⟨rfl, hb1⟩
end Go.Proofs.Ytjpgdaphkmeijaa.Rl
