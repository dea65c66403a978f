import Derived.Test.YtecimagjeelgbaaDoorCRefWalk15
import Derived.Test.YtecimagjeelgbaaDoorCPrxR
/- PathRekeys: its walk. Printed by genrek15.py. -/
set_option linter.unusedVariables false
set_option linter.unusedSimpArgs false
namespace Go.Proofs.YtecimagjeelgbaaDoor.Ev03
open Go.RowKit Go.Proofs.YtecimagjeelgbaaDoor.Pr Go.Proofs.YtecimagjeelgbaaDoorW.PrintWords Go.Proofs.YtecimagjeelgbaaDoorW.PrintLast Go.Proofs.YtecimagjeelgbaaDoorW.PrintMore Go.Proofs.YtecimagjeelgbaaDoor.TT
theorem same_loop (l : List ByteArray) (hl : l.length ≤ 100000) : ∀ (d k i : Nat), l.length - i = d → i ≤ l.length → d < k → chantrylaw03_Same.l0 k l l (l.length : Int) (i : Int) = some true := by
  intro d
  induction d with
  | zero =>
    intro k i hd hi hk
    obtain ⟨k, rfl⟩ : ∃ m, k = m + 1 := ⟨k - 1, by omega⟩
    simp only [chantrylaw03_Same.l0]
    rw [if_neg (by omega)]
  | succ d ih =>
    intro k i hd hi hk
    obtain ⟨k, rfl⟩ : ∃ m, k = m + 1 := ⟨k - 1, by omega⟩
    have E : Hid (wrap64 ((i : Int) + 1) = ((i + 1 : Nat) : Int)) := by apply Lib.hid; rw [wr (by omega) (by omega)]; omega
    simp only [chantrylaw03_Same.l0]
    rw [if_pos (by omega), if_pos (by omega), if_pos (by omega), if_pos (by omega), if_pos trivial, E.out]
    exact ih k (i + 1) (by omega) (by omega) (by omega)
theorem same_self (k : Nat) (l : List ByteArray) (hl : l.length ≤ 100000) (hk : l.length < k) : chantrylaw03_Same.f k l l = some true := by
  unfold chantrylaw03_Same.f
  rw [if_pos rfl]
  exact same_loop l hl l.length k 0 (by omega) (by omega) hk

end Go.Proofs.YtecimagjeelgbaaDoor.Ev03
namespace Go.Proofs.YtecimagjeelgbaaDoor.Pr
open Go.RowKit Go.Proofs.YtecimagjeelgbaaDoorW.PrintWords Go.Proofs.YtecimagjeelgbaaDoorW.PrintLast Go.Proofs.YtecimagjeelgbaaDoorW.PrintMore Go.Proofs.YtecimagjeelgbaaDoor.TT
attribute [local go_sem] beq_self_eq_true   -- for this text's walk alone
theorem rekeyF_small (was is : Int) (ks : List ByteArray) (first : Int) : (rekeyF was is ks first).2.1.length ≤ 1000 := by
  unfold rekeyF
  split
  · simp
  · split
    · simp
    · split
      · simp
      · have h1 := pairs_len is (freshI was is)
        have h2 := fresh_len was is
        simp only [List.length_map]
        omega
set_option maxHeartbeats 4000000 in
set_option maxRecDepth 100000 in
theorem PathRekeys (was is : Nat) (hw : was < 65536) (hi : is < 65536) (ks : List ByteArray) (hl : ks.length = 32) (first : Nat) (hf : first < 65536) (w : World) (HT0 : TabAt w) :
    Calls Tryd.prog 3 #[.agg #[.int .u16 (was : Int), .int .u16 (is : Int)], KV ks, .int .u16 (first : Int)] w fun e w' => e = .returned (.bool true) ∧ RowKit.Below w.heap.size w w' := by
  have hca := cells_agg ks
  have hz := zero30
  have hz2 := zero27
  have hcz := cellsZ
  have hal := alive_any
  have hfw := few_any ks hl
  have hrk := fun w HT => rekey_any ks hl was is hw hi first hf w HT
  have hrr := fun w => rrekey_any ks hl was is hw hi first hf w
  have lx := rekeyF_len (was : Int) (is : Int) ks (first : Int)
  have ll := rekeyF_small (was : Int) (is : Int) ks (first : Int)
  generalize rekeyF (was : Int) (is : Int) ks (first : Int) = X at hrk hrr lx ll
  obtain ⟨x, l, er⟩ := X
  dsimp only at hrk hrr lx ll
  have hsm := fun A0 c0 A1 c1 w h0 h1 h2 h3 => chantrylaw03_Same.calls 2000 A0 c0 l A1 c1 l true w h0 h1 h2 h3 (Ev03.same_self 2000 l (by omega) (by omega))
  unfold KV at hfw ⊢
  have HT1 := Lib.hid HT0
  clear HT0
  go_enter Tryd.func3, Tryd.ntmps3
  have HS := Lib.hid (show ((w.alloc (.cells #[.int .u16 (was : Int), .int .u16 (is : Int)] 24)).alloc (.cells (ks.map Value.string).toArray 27)).heap[w.heap.size]? = some (.cells #[.int .u16 (was : Int), .int .u16 (is : Int)] 24 (0, 0)) from (Below.heap_alloc _ _ _ (by simp)).trans (heap_alloc_new w _))
  have HK := Lib.hid (show KA 27 ((w.alloc (.cells #[.int .u16 (was : Int), .int .u16 (is : Int)] 24)).alloc (.cells (ks.map Value.string).toArray 27)) (w.heap.size + 1) ks from by
    have := KA.new 27 (w.alloc (.cells #[.int .u16 (was : Int), .int .u16 (is : Int)] 24)) ks hl (ks.map Value.string).toArray rfl
    simpa using this)
  have HB := Lib.hid (((RowKit.Below.refl w.heap.size w).alloc (Nat.le_refl _) (.cells #[.int .u16 (was : Int), .int .u16 (is : Int)] 24)).alloc (by simp) (.cells (ks.map Value.string).toArray 27))
  go_wp2_with fail
  generalize (w.alloc (.cells #[.int .u16 (was : Int), .int .u16 (is : Int)] 24)).alloc (.cells (ks.map Value.string).toArray 27) = W at HS HK HB ⊢
  refine (hal W (TabAt.below HT1.out (Nat.le_refl _) HB.out)).mono ?_
  rintro e w2 ⟨rfl, hb⟩
  replace HS := Lib.hid (cell_kept HS.out hb); replace HK := Lib.hid (HK.out.after hb); replace HB := Lib.hid (HB.out.trans (hb.mono HB.out.size))
  clear hb hal
  go_wp2_with (first | refine wpList_load_row rfl 27 (.tmp 4) rfl _ rfl _ _ _ _ HK.out.1 Tryd.underlying27 rfl (size_info _ _ hl s27) ?_)
  refine (hfw w2).mono ?_
  rintro e w3 ⟨rfl, hb⟩
  replace HS := Lib.hid (cell_kept HS.out hb); replace HK := Lib.hid (HK.out.after hb); replace HB := Lib.hid (HB.out.trans (hb.mono HB.out.size))
  clear hb hfw
  cases hfb : fewB ks with
  | false =>
    go_wp2_with fail
    go_ret
    exact ⟨rfl, HB.out⟩
  | true =>
    clear hfb
    have c0 := cell_of_row w3 w.heap.size 0 _ 24 (0, 0) HS.out
    have c1 := cell_of_row w3 w.heap.size 1 _ 24 (0, 0) HS.out
    simp only [List.getElem?_toArray, List.getElem?_cons_succ, List.getElem?_cons_zero] at c0 c1
    go_wp2_with (first | refine wpList_load_row rfl 27 (.tmp 4) rfl _ rfl _ _ _ _ HK.out.1 Tryd.underlying27 rfl (size_info _ _ hl s27) ?_)
    refine (hrk w3 (TabAt.below HT1.out (Nat.le_refl _) HB.out)).mono ?_
    rintro e w4 ⟨v, rfl, hr, hb⟩
    have HL := Lib.hid (Kd.R_lower hr HB.out.size)
    replace HS := Lib.hid (cell_kept HS.out hb); replace HK := Lib.hid (HK.out.after hb); replace HB := Lib.hid (HB.out.trans (hb.mono HB.out.size))
    clear hb hr hrk c0 c1
    obtain ⟨A, cp, ev⟩ := Kd.R_slice HL.out
    subst ev
    have HX0 := Lib.hid (KA.new 30 w4 noKeys noKeys_len Z32 rfl)
    have hszx := HB.out.size
    have hkx : w.heap.size + 1 < w4.heap.size := HK.out.lt
    have HB5 := Lib.hid (HB.out.alloc HB.out.size (.cells Z32 30))
    have HS5 := Lib.hid (cell_kept HS.out ((RowKit.Below.refl _ _).alloc (Nat.le_refl _) (.cells Z32 30)))
    have HK5 := Lib.hid (HK.out.alloc (.cells Z32 30))
    have HL5 := Lib.hid (Kd.R_alloc HL.out (.cells Z32 30))
    clear HB HS HK HL
    go_wp2_with (first | (refine wpList_store_row rfl 30 (.tmp 7) (.tmp 26) rfl _ _ rfl rfl _ _ HX0.out.1 (size_info _ x lx s30) (by rw [KA.rowSize HX0.out.2, KA.rowSize lx]) (one_string _) ?_; have HX := Lib.hid (HX0.out.row x lx); have HB := Lib.hid (below_setRow HB5.out hszx (x.map Value.string).toArray); have HK := Lib.hid (HK5.out.setRow_other (show w.heap.size + 1 ≠ w4.heap.size by omega) (x.map Value.string).toArray); have HL := Lib.hid (rowR_setRow HL5.out HX0.out.1 (x.map Value.string).toArray); have HS := Lib.hid (show ((w4.alloc (.cells Z32 30)).setRow w4.heap.size (x.map Value.string).toArray).heap[w.heap.size]? = some (.cells #[.int .u16 (was : Int), .int .u16 (is : Int)] 24 (0, 0)) by simp only [World.setRow, Array.getElem?_modify]; rw [if_neg (by omega)]; exact HS5.out); clear HX0 HB5 HS5 HK5 HL5; generalize (w4.alloc (.cells Z32 30)).setRow w4.heap.size (x.map Value.string).toArray = V at HX HB HK HL HS ⊢; have c0 := cell_of_row V w.heap.size 0 _ 24 (0, 0) HS.out; have c1 := cell_of_row V w.heap.size 1 _ 24 (0, 0) HS.out; simp only [List.getElem?_toArray, List.getElem?_cons_succ, List.getElem?_cons_zero] at c0 c1) | refine wpList_load_row rfl 27 (.tmp 4) rfl _ rfl _ _ _ _ HK.out.1 Tryd.underlying27 rfl (size_info _ _ hl s27) ?_)
    refine (hrr V).mono ?_
    rintro e w5 ⟨v, rfl, hr, hb⟩
    have HM := Lib.hid (Kd.R_lower hr HB.out.size)
    replace HX := Lib.hid (HX.out.after hb); replace HL := Lib.hid (Kd.R_below HL.out hb); replace HB := Lib.hid (HB.out.trans (hb.mono HB.out.size))
    clear hb hr hrr c0 c1 HK HS
    obtain ⟨A1, cp1, ev⟩ := Kd.R_slice HM.out
    subst ev
    have HY0 := Lib.hid (KA.new 27 w5 noKeys noKeys_len Z32 rfl)
    have hszy := HB.out.size
    have hxy : w4.heap.size < w5.heap.size := HX.out.lt
    have HB6 := Lib.hid (HB.out.alloc HB.out.size (.cells Z32 27))
    have HX6 := Lib.hid (HX.out.alloc (.cells Z32 27))
    have HL6 := Lib.hid (Kd.R_alloc HL.out (.cells Z32 27)); have HM6 := Lib.hid (Kd.R_alloc HM.out (.cells Z32 27))
    clear HB HX HL HM
    have hE := eq_ks 27 Tryd.underlying27 x lx
    have hG := guard27
    go_wp2_with (first | (refine wpList_store_row rfl 27 (.tmp 10) (.tmp 37) rfl _ _ rfl rfl _ _ HY0.out.1 (size_info _ x lx s27) (by rw [KA.rowSize HY0.out.2, KA.rowSize lx]) (one_string _) ?_; have HY := Lib.hid (HY0.out.row x lx); have HB := Lib.hid (below_setRow HB6.out hszy (x.map Value.string).toArray); have HX := Lib.hid (HX6.out.setRow_other (show w4.heap.size ≠ w5.heap.size by omega) (x.map Value.string).toArray); have HL := Lib.hid (rowR_setRow27 HL6.out HY0.out.1 (x.map Value.string).toArray); have HM := Lib.hid (rowR_setRow27 HM6.out HY0.out.1 (x.map Value.string).toArray); clear HY0 HB6 HX6 HL6 HM6; generalize (w5.alloc (.cells Z32 27)).setRow w5.heap.size (x.map Value.string).toArray = V2 at HY HB HX HL HM ⊢) | refine wpList_load_row rfl 30 (.tmp 7) rfl _ rfl _ _ _ _ HX.out.1 Tryd.underlying30 rfl (size_info _ _ HX.out.2 s30) ?_ | refine wpList_load_row rfl 27 (.tmp 10) rfl _ rfl _ _ _ _ HY.out.1 Tryd.underlying27 rfl (size_info _ _ HY.out.2 s27) ?_)
    refine (hsm A cp A1 cp1 V2 (Kd.R_reads' HL.out).2.2 (Kd.R_reads' HL.out).2.1 (Kd.R_reads' HM.out).2.2 (Kd.R_reads' HM.out).2.1).mono ?_
    rintro e w6 ⟨rfl, hd⟩
    have HB7 := Lib.hid (HB.out.trans (hd.below.mono HB.out.size))
    clear hd
    go_wp2_with fail
    go_ret
    exact ⟨rfl, HB7.out⟩
end Go.Proofs.YtecimagjeelgbaaDoor.Pr
