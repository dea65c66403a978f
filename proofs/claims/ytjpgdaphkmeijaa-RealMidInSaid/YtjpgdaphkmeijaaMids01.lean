/- RealMids and RealMidIn: the walks: numbers told by their bits, collected in a slice. -/
import Derived.Test.YtjpgdaphkmeijaaMidPlain
import Derived.Deep.LoopGhost
import Derived.OwnWalk
set_option linter.unusedVariables false
set_option linter.unusedSimpArgs false
namespace Go.Proofs.Ytjpgdaphkmeijaa.Rl
open Go.RowKit Go.Shelf Go.Proofs.YtjpgdaphkmeijaaW.PrintWords

theorem of_g (n : Nat) (w : World) : Calls Try.prog 12 #[.int .u64 n] w fun e w' => e = .returned (.float .f64 n) ∧ w = w' := by
  have h0 := e30
  go_enter Try.func12, Try.ntmps12
  go_wp2
  all_goals (go_ret; exact ⟨rfl, rfl⟩)
theorem bits_g (n : Nat) (w : World) : Calls Try.prog 14 #[.float .f64 n] w fun e w' => e = .returned (.int .u64 n) ∧ w = w' := by
  have h0 := e33
  go_enter Try.func14, Try.ntmps14
  go_wp2
  all_goals (go_ret; exact ⟨rfl, rfl⟩)

/-- A row of numbers of the call's own. -/
def FRow (base : Nat) (w : World) (v : Value) (zs : List Nat) : Prop := w.ownsRow base 26 1 v zs.length (zs.map (Value.float .f64))
theorem FRow.some {base : Nat} {w : World} {v : Value} {zs : List Nat} (h : FRow base w v zs) (hne : zs ≠ []) : ∃ g cap, v = .slice (some ⟨g, 0, none⟩) zs.length cap ∧ g < w.heap.size ∧ FCells w g 0 zs := by
  rcases h.2 with ⟨_, hz⟩ | ⟨g, cap, cur, rfl, hb, hg, h1, h2, h3, h4⟩
  · exact absurd (List.eq_nil_of_length_eq_zero hz) hne
  · refine ⟨g, cap, rfl, (Array.getElem?_eq_some_iff.1 hg).1, fun j hj => ?_⟩
    rw [Nat.mul_one] at h4
    have e1 : (cur.toList.take zs.length)[j]? = (zs.map (Value.float .f64))[j]? := by rw [h4]
    rw [List.getElem?_take_of_lt hj, List.getElem?_map, List.getElem?_eq_getElem hj] at e1
    simp only [World.cell?, hg, Nat.zero_add]
    simp only [Option.isSome_none, Bool.false_eq_true, if_false]
    rw [← Array.getElem?_toList, e1, List.getElem?_eq_getElem hj]; rfl
theorem FRow.nil {base : Nat} {w : World} {v : Value} (h : FRow base w v []) : ∃ A cap, v = .slice A 0 cap := by
  rcases h.2 with ⟨rfl, _⟩ | ⟨g, cap, cur, rfl, _⟩
  · exact ⟨_, _, rfl⟩
  · exact ⟨_, _, rfl⟩
theorem FRow.kept {base : Nat} {w w' : World} {v : Value} {zs : List Nat} (h : FRow base w v zs) (hb : RowKit.Below w.heap.size w w') : FRow base w' v zs := by
  refine own_move h (fun k hk => hb.block k ?_)
  rcases h.2 with ⟨rfl, _⟩ | ⟨g, cap, cur, rfl, _, hg, _⟩
  · simp [Value.ownBlock] at hk
  · have : g = k := by simpa [Value.ownBlock] using hk
    subst this
    exact (Array.getElem?_eq_some_iff.1 hg).1
/-- The slice of bits that came in. -/
def UCells (w : World) (A : Option Addr) (zs : List Nat) : Prop := ∀ j, j < zs.length → ∃ ad, A = some ad ∧ ad.block < w.heap.size ∧ w.cell? (ad.add j) = some (.int .u64 ((zs.getD j 0 : Nat) : Int))

set_option maxRecDepth 100000 in
set_option maxHeartbeats 4000000 in
theorem mids_any (ad : Addr) (cp : Nat) (zs : List Nat) (hz : ∀ x ∈ zs, x < 18446744073709551616) (hne : zs ≠ []) (hlen : zs.length ≤ 200) (w : World) (hb : ad.block < w.heap.size)
    (hc : ∀ j, j < zs.length → w.cell? (ad.add j) = some (.int .u64 ((zs.getD j 0 : Nat) : Int)))
    (hR : ∀ W : World, RowKit.Below w.heap.size w W → Calls Try.prog 15 #[.slice (some ad) zs.length cp] W fun e w' => e = .returned (.int .u64 (midF zs : Nat)) ∧ Drawn0 W w') :
    Calls Try.prog 3 #[.slice (some ad) zs.length cp] w (True1 w) := by
  obtain ⟨i0, hi, hz0, hz1, hz2⟩ := info_parts infoF
  have hmid : ∀ (g cap : Nat) (W : World), g < W.heap.size → FCells W g 0 zs → Calls Try.prog 13 #[.slice (some ⟨g, 0, none⟩) zs.length cap] W (MidPost zs W) := fun g cap W hg hI => mid_some g 0 cap zs hz hne (by omega) W hg hI
  obtain ⟨len, hl⟩ : ∃ len, len = zs.length := ⟨_, rfl⟩
  rw [← hl] at hlen hc hR hmid ⊢
  have HZ := Lib.hid hz; have HN := Lib.hid hne; have HL := Lib.hid hl
  clear hz hne hl
  go_enter Try.func3, Try.ntmps3
  go_wp2_with (go_at_call 11; refine (alive_f _).mono ?_; rintro e w1 ⟨rfl, hb1⟩)
  have hB1 := hb1
  go_loopw [3, 16] (fun f i wr => ∃ k : Nat, k ≤ len ∧ i = .int .i64 k ∧ FRow w.heap.size wr f (zs.take k) ∧ RowKit.Below w.heap.size w wr) (fun _ i _ => len - (intOf i).toNat)
  case atStart => exact ⟨0, Nat.zero_le _, rfl, by unfold FRow; exact World.ownsRow_nil _ _ _ _, hb1⟩
  case round =>
    obtain ⟨k, hk, rfl, hrow, hbel⟩ := hrel
    by_cases hlt : k < len
    · have hcx : wr.cell? (ad.add k) = some (.int .u64 ((zs.getD k 0 : Nat) : Int)) := (hbel.cell (p := ad.add k) (by unfold Addr.add; split <;> exact hb)).trans (hc k hlt)
      have hlt2 : k < zs.length := by have := HL.out; omega
      have hts : zs.take (k + 1) = zs.take k ++ [zs.getD k 0] := by
        rw [List.take_succ_eq_append_getElem hlt2, List.getD_eq_getElem?_getD, List.getElem?_eq_getElem hlt2, Option.getD_some]
      obtain ⟨z, hzk⟩ : ∃ z, zs.getD k 0 = z := ⟨_, rfl⟩
      rw [hzk] at hcx hts
      have hrow2 : wr.ownsRow w.heap.size 26 1 u3 k ((zs.take k).map (Value.float .f64)) := by
        have h := hrow
        unfold FRow at h
        rw [List.length_take, Nat.min_eq_left (by omega)] at h
        exact h
      have HTS := Lib.hid hts
      have HR := Lib.hid hR; have HM := Lib.hid hmid; have HC := Lib.hid hc
      clear hzk hc hts hrow hR hmid hlt2
      go_wp2_with (first | (go_at_call 12; refine (of_g _ _).mono ?_; rintro e w' ⟨rfl, rfl⟩) | (at_builtin; refine wpList_append_own _ rfl _ _ 24 rfl w.heap.size 26 i0 (.float .f64 0) 1 8 Try.underlying24 hi hz0 hz1 hz2 rfl (by decide) _ _ _ rfl (hrow2.alloc _) ⟨wr.heap.size, 0, none⟩ 1 1 [.float .f64 z] rfl rfl (cell_one_new _ _ _) (by simp [Value.oneCell']) (by unfold maxLen; omega) (by omega) (by have := hbel.size; simp; omega) ?_; intro v' w2 hown hgrow _; have HO := Lib.hid hown; have HG := Lib.hid hgrow; have HB2 := Lib.hid (own_base (hrow2.alloc (.cells #[.float .f64 z] 26))); clear hown hgrow hrow2))
      go_roundw
      case rel =>
        refine ⟨k + 1, by omega, by simp, ?_, ?_⟩
        · unfold FRow
          rw [HTS.out, List.length_append, List.length_take, Nat.min_eq_left (by have := HL.out; omega), List.map_append]
          exact HO.out
        · exact (hbel.alloc (by have := hbel.size; omega) _).grown HG.out (by have := hbel.size; simp; omega) (fun j hj => HB2.out j hj)
      case measure => simp [intOf]; omega
    · obtain rfl : k = len := by omega
      have hl := HL.out
      have he : zs.take k = zs := by rw [hl, List.take_length]
      rw [he] at hrow
      obtain ⟨g, cap, rfl, hg, hcells⟩ := hrow.some HN.out
      rw [← hl]
      have hcell : ∀ (W : World), RowKit.Below wr.heap.size wr W → FCells W g 0 zs := fun W hW => hcells.below hW hg
      clear hl he
      have HC := Lib.hid hc; have HR := Lib.hid hR
      clear hc hR
      go_wp2_with (go_at_call 13; refine (hmid g cap _ hg hcells).mono ?_; rintro e w2 ⟨rfl, hb2⟩)
      have hcell2 := hcell w2 hb2
      have hbel2 := hbel.trans (hb2.mono hbel.size)
      clear hmid hcell hcells
      have HB2 := Lib.hid hbel2
      have hcu : ∀ j, j < k → w2.cell? (ad.add j) = some (.int .u64 ((zs.getD j 0 : Nat) : Int)) := fun j hj => (hbel2.cell (p := ad.add j) (by unfold Addr.add; split <;> exact hb)).trans (HC.out j hj)
      have hcf : ∀ j, j < k → w2.cell? ⟨g, j, none⟩ = some (.float .f64 (zs.getD j 0)) := fun j hj => by
        have h := hcell2 j (by have := HL.out; omega)
        rw [Nat.zero_add] at h
        rw [h, List.getD_eq_getElem?_getD]
      have HCU := Lib.hid hcu; have HCF := Lib.hid hcf
      have HROW := Lib.hid hrow
      clear hcu hcf hcell2 hbel2 hrow hb2 hB1 hb1 hbel
      go_loop [30] (fun i => ∃ j : Nat, j ≤ k ∧ i = .int .i64 j) (fun i => k - (intOf i).toNat)
      case atStart => exact ⟨0, Nat.zero_le _, rfl⟩
      case round =>
        obtain ⟨j, hj, rfl⟩ := hrel
        by_cases hjt : j < k
        · have c1 := HCU.out j hjt
          have c2 := HCF.out j hjt
          obtain ⟨z, hzk⟩ : ∃ z, zs.getD j 0 = z := ⟨_, rfl⟩
          rw [hzk] at c1 c2
          clear hzk
          go_wp2_with (go_at_call 14; refine (bits_g _ _).mono ?_; rintro e w' ⟨rfl, rfl⟩)
          go_round
          case rel => exact ⟨j + 1, by omega, by simp⟩
          case measure => simp [intOf]; omega
        · obtain rfl : j = k := by omega
          have hR2 := HR.out w2 HB2.out
          go_wp2_with (first | (go_at_call 14; refine (bits_g _ _).mono ?_; rintro e w' ⟨rfl, rfl⟩) | (go_at_call 15; refine hR2.mono ?_; rintro e w' ⟨rfl, hd⟩; have HD := Lib.hid hd; clear hd))
          go_ret
          exact ⟨rfl, HB2.out.trans (HD.out.below.mono HB2.out.size)⟩

set_option maxRecDepth 100000 in
set_option maxHeartbeats 4000000 in
theorem mids_none (A : Option Addr) (cp : Nat) (w : World) (hR : ∀ W : World, Calls Try.prog 15 #[.slice A 0 cp] W fun e w' => e = .returned (.int .u64 (midF [] : Nat)) ∧ Drawn0 W w') :
    Calls Try.prog 3 #[.slice A 0 cp] w (True1 w) := by
  go_enter Try.func3, Try.ntmps3
  go_wp2_with (go_at_call 11; refine (alive_f _).mono ?_; rintro e w1 ⟨rfl, hb1⟩)
  refine wp_loop_rounds 1 ?_
  rw [rounds_succ]
  go_wp2_with (go_at_call 13; refine (mid_none _ _ _).mono ?_; rintro e w2 ⟨rfl, hb2⟩)
  refine wp_loop_rounds 1 ?_
  rw [rounds_succ]
  go_wp2_with (first | (go_at_call 14; refine (bits_g _ _).mono ?_; rintro e w' ⟨rfl, rfl⟩) | (go_at_call 15; refine (hR _).mono ?_; rintro e w' ⟨rfl, hd⟩; have HD := Lib.hid hd; clear hd))
  go_ret
  exact ⟨rfl, (hb1.trans (hb2.mono hb1.size)).trans (HD.out.below.mono (by have := hb1.size; have := hb2.size; omega))⟩

set_option maxRecDepth 100000 in
set_option maxHeartbeats 4000000 in
theorem mids_many (A : Option Addr) (n cp : Nat) (hn : 200 < n) (w : World) : Calls Try.prog 3 #[.slice A n cp] w (True1 w) := by
  have h1 : (200 : Int) < (n : Int) := by omega
  go_enter Try.func3, Try.ntmps3
  go_wp2_with (go_at_call 11; refine (alive_f _).mono ?_; rintro e w1 ⟨rfl, hb1⟩)
  go_ret
  exact ⟨rfl, hb1⟩
end Go.Proofs.Ytjpgdaphkmeijaa.Rl
