import Derived.Test.YtecimagjeelgbaaDoorCMine15
/- PathChain: its walk. Printed by genchain15.py. -/
set_option linter.unusedVariables false
set_option linter.unusedSimpArgs false
namespace Go.Proofs.YtecimagjeelgbaaDoor.Pr
open Go.RowKit Go.Proofs.YtecimagjeelgbaaDoorW.PrintWords Go.Proofs.YtecimagjeelgbaaDoorW.PrintLast Go.Proofs.YtecimagjeelgbaaDoorW.PrintMore Go.Proofs.YtecimagjeelgbaaDoor.TT

/-- The sets lie in block b. -/
def Sets4 (w : World) (b : Nat) (s : Nat → Nat) : Prop := w.heap[b]? = some (.cells #[.int .u16 (s 0 : Int), .int .u16 (s 1 : Int), .int .u16 (s 2 : Int), .int .u16 (s 3 : Int)] 49 (0, 0))
theorem Sets4.cell {w : World} {b : Nat} {s : Nat → Nat} (h : Sets4 w b s) (j : Nat) (hj : j < 4) : w.cell? ⟨b, j, none⟩ = some (.int .u16 (s j : Int)) := by
  rw [cell_of_row w b j _ 49 (0, 0) h]
  rcases (show j = 0 ∨ j = 1 ∨ j = 2 ∨ j = 3 by omega) with rfl | rfl | rfl | rfl <;> rfl
theorem Sets4.lt {w : World} {b : Nat} {s : Nat → Nat} (h : Sets4 w b s) : b < w.heap.size := (Array.getElem?_eq_some_iff.1 h).1
theorem Sets4.after {w w' : World} {b : Nat} {s : Nat → Nat} (h : Sets4 w b s) (hb : RowKit.Below w.heap.size w w') : Sets4 w' b s := cell_kept h hb
def Z512 : Array Value := ((List.replicate 512 ByteArray.empty).map Value.string).toArray
theorem zero50 (w : World) : (zeroValue 50).run Tryd.prog w = .ok (.agg Z512) w := by kernel_rfl
theorem cells512 : Value.cells (.agg Z512) = Z512 := cells_agg _
theorem size512 : Z512.size = 512 := by unfold Z512; rw [List.size_toArray, List.length_map, List.length_replicate]
theorem KM.new (w : World) : KM (w.alloc (.cells Z512 50 (0, 0))) w.heap.size (fun _ => noKeys) := by
  have hh := heap_alloc_new w (.cells Z512 50 (0, 0))
  refine ⟨⟨Z512, hh, size512⟩, fun _ _ => noKeys_len, fun i hi j v hv => ?_⟩
  rw [cell_of_row _ _ _ _ 50 (0, 0) hh]
  have hj : j < 32 := by have := (List.getElem?_eq_some_iff.1 hv).1; simpa [noKeys] using this
  unfold noKeys at hv
  rw [List.map_replicate, List.getElem?_replicate, if_pos hj] at hv
  unfold Z512
  rw [List.map_replicate, List.getElem?_toArray, List.getElem?_replicate, if_pos (by omega)]
  exact hv
theorem KM.cell {w : World} {b : Nat} {mine : Nat → List ByteArray} (h : KM w b mine) (i : Nat) (hi : i < 16) (j : Nat) (hj : j < 32) : w.cell? ⟨b, i * 32 + j, none⟩ = some (.string (key (mine i) j)) := by
  refine h.lies i hi j _ ?_
  have hl := h.len i hi
  unfold key
  rw [List.getElem?_map, List.getElem?_eq_getElem (by omega), List.getD_eq_getElem?_getD, List.getElem?_eq_getElem (by omega)]
  rfl
/-- What lies in one block is not touched by a store into another. -/
theorem KA.cells_other {T : TypeId} {w : World} {b c : Nat} {ks : List ByteArray} (h : KA T w b ks) (hne : b ≠ c) (o : Nat) (vs : List Value) : KA T (w.setCells c o vs) b ks := h.same (setCells_other c b hne vs o w)
theorem Sets4.cells_other {w : World} {b c : Nat} {s : Nat → Nat} (h : Sets4 w b s) (hne : b ≠ c) (o : Nat) (vs : List Value) : Sets4 (w.setCells c o vs) b s := (setCells_other c b hne vs o w).trans h
theorem KM.setRow_other {w : World} {b g : Nat} {mine : Nat → List ByteArray} (h : KM w b mine) (hne : b ≠ g) (cs : Array Value) : KM (w.setRow g cs) b mine :=
  h.same (by simp only [World.setRow, Array.getElem?_modify]; rw [if_neg (fun e => hne e.symm)])
theorem Sets4.setRow_other {w : World} {b g : Nat} {s : Nat → Nat} (h : Sets4 w b s) (hne : b ≠ g) (cs : Array Value) : Sets4 (w.setRow g cs) b s := by
  unfold Sets4; simp only [World.setRow, Array.getElem?_modify]; rw [if_neg (fun e => hne e.symm)]; exact h
theorem KM.other {w : World} {b : Nat} {mine : Nat → List ByteArray} (h : KM w b mine) (a : Addr) (v : Value) (hne : b ≠ a.block) : KM (w.setCell a v) b mine := h.same (Below.heap_setCell w a v b hne)
theorem Sets4.other {w : World} {b : Nat} {s : Nat → Nat} (h : Sets4 w b s) (a : Addr) (v : Value) (hne : b ≠ a.block) : Sets4 (w.setCell a v) b s := (Below.heap_setCell w a v b hne).trans h
theorem rowR_setCells {base g : Nat} {v : Value} {xs : List ByteArray} : ∀ (vs : List Value) (o : Nat) (w : World) {c : Array Value} {T : TypeId}, Kd.R Kd.string 25 w base (fun _ => True) v xs → w.heap[g]? = some (.cells c T (0, 0)) → (∀ q, q ∈ 25 :: Kd.string.E → q ≠ T) → Kd.R Kd.string 25 (w.setCells g o vs) base (fun _ => True) v xs
  | [], _, _, _, _, h, _, _ => h
  | x :: vs, o, w, c, T, h, hg, hT => by
    rw [World.setCells]
    exact rowR_setCells vs (o + 1) _ (Kd.R_mono (Kd.R_set h hg hT o x) (fun _ _ => trivial)) (heap_setCell_same w g o _ T x hg) hT
/-- A member's keys behind a change. -/
theorem own_next {k : List ByteArray} {was is : Nat} (hg : Good k was) (hw : was < 65536) (hi : is < 65536) {first : Int} (h0 : 0 ≤ first) (hf : first + 15 ≤ 65535) {id : Nat} (hid : id < 16) (hb : bit is id = true) :
    ownF (leafUp (rekeyF (was : Int) (is : Int) k first).1 16) (pathI (id : Int)) = ownF (rekeyF (was : Int) (is : Int) k first).1 (pathI (id : Int)) := by
  have hP : ∀ n ∈ pathI (id : Int), 0 ≤ n ∧ n ≤ 31 := fun n hn => by have := path_small hn; omega
  refine key_ext (ownF_len _ _) (ownF_len _ _) (fun j hj => ?_)
  rw [ownF_key _ _ hP j hj, ownF_key _ _ hP j hj]
  by_cases hon : (pathI (id : Int)).contains (j : Int) = true
  · rw [if_pos hon, if_pos hon]
    have hlx : (rekeyF (was : Int) (is : Int) k first).1.length = 32 := rekeyF_len _ _ _ _
    rw [leafUp_key _ hlx j hj 16 (Nat.le_refl _)]
    by_cases h16 : 16 ≤ j ∧ j < 16 + 16
    · rw [if_pos h16, rekey_good hg hw hi h0 hf]
      dsimp only
      rw [new_key _ _ (fresh_range _ _) (fresh_nodup _ _) k first j hj]
      have hnf : ¬ (j : Int) ∈ freshI (was : Int) (is : Int) := fun hm => by have := fresh_range (was : Int) (is : Int) _ hm; omega
      have hA : belowI (is : Int) (j : Int) ≠ 0 := any_path hi hid hb (by omega) hj (show onP id j = true from hon)
      rw [if_neg hnf, if_pos ⟨by omega, hA⟩, hg.leaf j h16.1 hj]
    · rw [if_neg h16]
  · rw [if_neg hon, if_neg hon]
theorem root_all : ((List.range 16).all fun id => (pathI (id : Int)).contains ((1 : Nat) : Int)) = true := by decide +kernel
theorem own_root (x : List ByteArray) {id : Nat} (hid : id < 16) : key (ownF x (pathI (id : Int))) 1 = key x 1 := by
  rw [ownF_key _ _ (fun n hn => by have := path_small hn; omega) 1 (by omega), if_pos (List.all_eq_true.1 root_all id (List.mem_range.2 hid))]
/-- One round of the members: what each has behind it. -/
structure Mb (x : List ByteArray) (is : Nat) (mine mine' : Nat → List ByteArray) (q : Nat) : Prop where
  rest : ∀ id, id < 16 → q ≤ id → mine' id = mine id
  got : ∀ id, id < q → bit is id = true → mine' id = ownF x (pathI (id : Int))
attribute [local go_sem] beq_self_eq_true bne_self_eq_false   -- for this text's walk alone
set_option maxHeartbeats 16000000 in
set_option maxRecDepth 100000 in
theorem PathChain (s : Nat → Nat) (hs : ∀ j, s j < 65536) (w : World) (HT0 : TabAt w) :
    Calls Tryd.prog 5 #[.agg #[.int .u16 (s 0 : Int), .int .u16 (s 1 : Int), .int .u16 (s 2 : Int), .int .u16 (s 3 : Int)]] w fun e w' => e = .returned (.bool true) ∧ RowKit.Below w.heap.size w w' := by
  have hz := zero30
  have hcz := cellsZ
  have HT1 := Lib.hid HT0
  clear HT0
  go_enter Tryd.func5, Tryd.ntmps5
  have HS := Lib.hid (show Sets4 (w.alloc (.cells #[.int .u16 (s 0 : Int), .int .u16 (s 1 : Int), .int .u16 (s 2 : Int), .int .u16 (s 3 : Int)] 49)) w.heap.size s from heap_alloc_new w _)
  have HB := Lib.hid ((RowKit.Below.refl w.heap.size w).alloc (Nat.le_refl _) (.cells #[.int .u16 (s 0 : Int), .int .u16 (s 1 : Int), .int .u16 (s 2 : Int), .int .u16 (s 3 : Int)] 49))
  go_wp2_with fail
  generalize w.alloc (.cells #[.int .u16 (s 0 : Int), .int .u16 (s 1 : Int), .int .u16 (s 2 : Int), .int .u16 (s 3 : Int)] 49) = W at HS HB ⊢
  refine (alive_any W (TabAt.below HT1.out (Nat.le_refl _) HB.out)).mono ?_
  rintro e w1 ⟨rfl, hb⟩
  replace HS := Lib.hid (HS.out.after hb); replace HB := Lib.hid (HB.out.trans (hb.mono HB.out.size))
  clear hb
  have c0 := HS.out.cell 0 (by omega)
  obtain ⟨g2, hgood⟩ := grown_good (s 0) (hs 0)
  have hgr := fun w HT => grown_any (s 0) (hs 0) w HT
  rw [g2] at hgr
  have lg := hgood.len
  clear g2
  generalize (grownF (s 0 : Int)).1 = g at hgr hgood lg
  go_wp2_with fail
  refine (hgr w1 (TabAt.below HT1.out (Nat.le_refl _) HB.out)).mono ?_
  rintro e w2 ⟨rfl, hb⟩
  replace HS := Lib.hid (HS.out.after hb); replace HB := Lib.hid (HB.out.trans (hb.mono HB.out.size))
  clear hb hgr c0
  have HN := Lib.hid (KA.new 30 w2 noKeys noKeys_len Z32 rfl)
  have hsz2 := HB.out.size
  have hlt2 : w.heap.size < w2.heap.size := HS.out.lt
  have HB3 := Lib.hid (HB.out.alloc HB.out.size (.cells Z32 30))
  have HS3 := Lib.hid (HS.out.after ((RowKit.Below.refl _ _).alloc (Nat.le_refl _) (.cells Z32 30)))
  clear HB HS
  have hz50 := zero50
  have hc50 := cells512
  go_wp2_with (first | (refine wpList_store_row rfl 30 (.tmp 3) (.tmp 19) rfl _ _ rfl rfl _ _ HN.out.1 (size_info _ g lg s30) (by rw [KA.rowSize HN.out.2, KA.rowSize lg]) (one_string _) ?_; have HG := Lib.hid (HN.out.row g lg); have HB := Lib.hid (below_setRow HB3.out hsz2 (g.map Value.string).toArray); have HS := Lib.hid (HS3.out.setRow_other (show w.heap.size ≠ w2.heap.size by omega) (g.map Value.string).toArray); clear HN HB3 HS3; generalize (w2.alloc (.cells Z32 30)).setRow w2.heap.size (g.map Value.string).toArray = V at HG HB HS ⊢))
  have HM4 := Lib.hid (KM.new V)
  have HG4 := Lib.hid (HG.out.alloc (.cells Z512 50))
  have HB4 := Lib.hid (HB.out.alloc HB.out.size (.cells Z512 50))
  have HS4 := Lib.hid (HS.out.after ((RowKit.Below.refl _ _).alloc (Nat.le_refl _) (.cells Z512 50)))
  have hgm : w2.heap.size < V.heap.size := HG.out.lt
  clear HG HB HS hz50 hc50
  generalize V.alloc (.cells Z512 50) = V2 at HM4 HG4 HB4 HS4 ⊢
  generalize V.heap.size = bm at HM4 hgm ⊢
  have hlen0 : w.heap.size < bm := by omega
  have hown := fun (id : Nat) (h : id < 16) => own_any g lg (id : Int) (by omega) (by omega)
  go_loopw [23] (fun i wl => ∃ j : Nat, j ≤ 16 ∧ i = .int .u8 j ∧ RowKit.Below w.heap.size w wl ∧ Sets4 wl w.heap.size s ∧ KA 30 wl w2.heap.size g ∧ ∃ mine, KM wl bm mine ∧ ∀ id, id < j → mine id = ownF g (pathI (id : Int))) (fun i _ => 16 - (intOf i).toNat)
  case atStart => exact ⟨0, Nat.zero_le _, rfl, HB4.out, HS4.out, HG4.out, _, HM4.out, fun id h => absurd h (by omega)⟩
  case round =>
    clear HM4 HG4 HB4 HS4
    obtain ⟨j, hj, rfl, hbel, hse, hg, mine, hmn, hmi⟩ := hrel
    have HB := Lib.hid hbel; have HS := Lib.hid hse; have HG := Lib.hid hg; have HM := Lib.hid hmn; have HMI := Lib.hid hmi
    clear hbel hse hg hmn hmi
    by_cases hlt : j < 16
    · have ho := hown j hlt
      unfold KV at ho
      go_wp2_with (first | refine wpList_load_row rfl 30 (.tmp 3) rfl _ rfl _ _ _ _ HG.out.1 Tryd.underlying30 rfl (size_info _ _ HG.out.2 s30) ?_)
      refine (ho wr).mono ?_
      rintro e w5 ⟨rfl, hb⟩
      have HB5 := Lib.hid (HB.out.trans (hb.mono HB.out.size)); have HG5 := Lib.hid (HG.out.after hb); have HM5 := Lib.hid (HM.out.after hb)
      have HS5 := Lib.hid (HS.out.after hb)
      clear hb ho HB HG HM HS
      have lo := ownF_len g (pathI (j : Int))
      go_wp2_with (first | refine wpList_store_mid rfl 30 (.tmp 30) (.tmp 29) rfl bm (j * 32) _ rfl rfl (by rw [KA.rowSize lo]; exact HM5.out.there j hlt) (size_info _ _ lo s30) (one_string _) ?_)
      go_roundw
      case rel => exact ⟨j + 1, by omega, by simp, below_setCells (show w.heap.size ≤ bm by omega) _ _ _ HB5.out, HS5.out.cells_other (by omega) _ _, HG5.out.cells_other (by omega) _ _, putM mine j (ownF g (pathI (j : Int))), HM5.out.put j hlt _ lo, fun id h => by
        unfold putM
        split
        · rename_i e; rw [e]
        · exact HMI.out id (by omega)⟩
      case measure => simp [intOf]; omega
    · obtain rfl : j = 16 := by omega
      clear hown hj hlt
      go_wp2_with fail

      have HGD := Lib.hid hgood
      clear hgood lg
      go_loopw [7] (fun i wl => ∃ m : Nat, m ≤ 3 ∧ i = .int .i64 ((1 + m : Nat) : Int) ∧ RowKit.Below w.heap.size w wl ∧ Sets4 wl w.heap.size s ∧ ∃ k mine, KA 30 wl w2.heap.size k ∧ KM wl bm mine ∧ Good k (s m) ∧ ∀ id, id < 16 → bit (s m) id = true → mine id = ownF k (pathI (id : Int))) (fun i _ => 4 - (intOf i).toNat)
      case atStart => exact ⟨0, Nat.zero_le _, rfl, HB.out, HS.out, g, mine, HG.out, HM.out, HGD.out, fun id h _ => HMI.out id h⟩
      case round =>
        clear HB HS HG HM HMI HGD
        obtain ⟨m, hm, rfl, hbel, hse, k, mine, hg, hmn, hgood, hmi⟩ := hrel
        have HB := Lib.hid hbel; have HS := Lib.hid hse; have HG := Lib.hid hg; have HM := Lib.hid hmn; have HMI := Lib.hid hmi
        clear hbel hse hg hmn hmi
        by_cases hlt : m < 3
        · skip
          have lk := hgood.len
          have hrk := fun w HT => rekey_any k lk (s m) (s (m + 1)) (hs m) (hs (m + 1)) (100 * (1 + m)) (by omega) w HT
          have hf15 : ((100 * (1 + m) : Nat) : Int) + 15 ≤ 65535 := by omega
          have hrg := rekey_good (first := ((100 * (1 + m) : Nat) : Int)) hgood (hs m) (hs (m + 1)) (by omega) hf15
          have hml := fun (id : Nat) (h16 : id < 16) hb mine hm => members_learn (first := ((100 * (1 + m) : Nat) : Int)) hgood (hs m) (hs (m + 1)) (by omega) hf15 h16 hb mine hm
          have hnx := good_next (first := ((100 * (1 + m) : Nat) : Int)) hgood (hs m) (hs (m + 1)) (by omega) hf15
          have hon := fun (id : Nat) (h16 : id < 16) hb => own_next (first := ((100 * (1 + m) : Nat) : Int)) hgood (hs m) (hs (m + 1)) (by omega) hf15 (id := id) h16 hb
          have lx := rekeyF_len (s m : Int) (s (m + 1) : Int) k ((100 * (1 + m) : Nat) : Int)
          have he0 : (rekeyF (s m : Int) (s (m + 1) : Int) k ((100 * (1 + m) : Nat) : Int)).2.2 = 0 := by rw [hrg]
          have hll : (rekeyF (s m : Int) (s (m + 1) : Int) k ((100 * (1 + m) : Nat) : Int)).2.1.length ≤ 1000000 := by
            rw [hrg]
            have h1 := pairs_len (s (m + 1) : Int) (freshI (s m : Int) (s (m + 1) : Int))
            have h2 := fresh_len (s m : Int) (s (m + 1) : Int)
            simp only [List.length_map]
            omega
          have hxe : (rekeyF (s m : Int) (s (m + 1) : Int) k ((100 * (1 + m) : Nat) : Int)).1 = newKeys (s (m + 1) : Int) (freshI (s m : Int) (s (m + 1) : Int)) k ((100 * (1 + m) : Nat) : Int) := by rw [hrg]
          rw [← hxe] at hnx
          clear hrg hxe
          generalize rekeyF (s m : Int) (s (m + 1) : Int) k ((100 * (1 + m) : Nat) : Int) = X at hrk hml lx he0 hll hnx hon
          obtain ⟨x, l, er⟩ := X
          dsimp only at hrk hml lx he0 hll hnx hon
          subst he0
          have HML := Lib.hid hml; have HNX := Lib.hid hnx; have HON := Lib.hid hon
          clear hml hnx hon hgood
          unfold KV at hrk
          obtain ⟨i1, hi1⟩ : ∃ i1 : Nat, i1 = 1 + m := ⟨_, rfl⟩
          have hfi : ((100 * (1 + m) : Nat) : Int) = 100 * (i1 : Int) := by rw [hi1]; omega
          have hm1 : s (m + 1) = s i1 := by rw [hi1, Nat.add_comm]
          rw [hfi, hm1] at hrk
          rw [← hi1]
          have c1 := HS.out.cell m (by omega)
          have c2 := HS.out.cell i1 (by omega)
          have hsub : IntKind.i64.wrap ((i1 : Int) - 1) = (m : Int) := by rw [hi1]; simp only [IntKind.wrap, IntKind.bits, IntKind.signed]; simp; omega
          have hmul : IntKind.i64.wrap (100 * (i1 : Int)) = 100 * (i1 : Int) := by simp only [IntKind.wrap, IntKind.bits, IntKind.signed]; simp; omega
          have hcv : IntKind.u16.wrap (100 * (i1 : Int)) = 100 * (i1 : Int) := by simp only [IntKind.wrap, IntKind.bits, IntKind.signed]; simp; omega
          have hib : (i1 : Int) < 4 := by omega
          have hi0 : (0 : Int) ≤ (i1 : Int) := by omega
          have hmb : (m : Int) < 4 := by omega
          have HI1 := Lib.hid hi1
          clear hi1 hfi hm1 hf15
          go_wp2_with fail
          have crk : wr.rangeAt w2.heap.size 0 (k.map Value.string) := HG.out.range
          have hlak : (Tryd.prog.info? 30).map (·.size) = some (k.map Value.string).length := by rw [List.length_map, lk]; exact s30
          have hua := Tryd.underlying30
          have hB0 := RowKit.Below.refl wr.heap.size wr
          have HSt : ∀ w' : World, RowKit.Below wr.heap.size wr w' → (RowKit.Below wr.heap.size wr w' ∧ w'.cell? ⟨w.heap.size, m, none⟩ = some (.int .u16 (s m : Int)) ∧ w'.cell? ⟨w.heap.size, i1, none⟩ = some (.int .u16 (s i1 : Int)) ∧ w'.rangeAt w2.heap.size 0 (k.map Value.string)) := by
            intro w' h6
            exact ⟨h6, (h6.cell (p := ⟨w.heap.size, m, none⟩) HS.out.lt).trans c1, (h6.cell (p := ⟨w.heap.size, i1, none⟩) HS.out.lt).trans c2, (HG.out.after h6).range⟩
          refine wp_region_noPanic ?_
          refine wp_region_held_drew (S := (fun w' => RowKit.Below wr.heap.size wr w' ∧ w'.cell? ⟨w.heap.size, m, none⟩ = some (.int .u16 (s m : Int)) ∧ w'.cell? ⟨w.heap.size, i1, none⟩ = some (.int .u16 (s i1 : Int)) ∧ w'.rangeAt w2.heap.size 0 (k.map Value.string))) (by kernel_rfl) (HSt _ ((RowKit.Below.refl _ _).drew)) (fun hHeld => ?_)
          refine wpAnyH_take (oi := ⟨_, _, _, _, _, _⟩) (i := 0) (v := ?_) rfl (by kernel_rfl) (by kernel_rfl) (by kernel_rfl) (fun _ _ _ h => h) (Or.inl ⟨by rfl, ?_⟩) (by assumption) ?_
          rotate_left
          · intro w hSw; (try dsimp only at hSw); first | (go_simp; done) | (go_simp; with_reducible rfl)
          try simp only [Act.put, List.setIfInBounds_toArray, List.set_cons_zero, List.set_cons_succ]
          refine wpAnyH_take (oi := ⟨_, _, _, _, _, _⟩) (i := 1) (v := .int .i64 (m : Int)) rfl (by kernel_rfl) (by kernel_rfl) (by kernel_rfl) (fun _ _ _ h => h) (Or.inl ⟨by rfl, ?_⟩) (by assumption) ?_
          · intro w hSw; (try dsimp only at hSw); first | (go_simp; done) | (go_simp; simp [hsub]; done) | (simp [hsub]; done)
          try simp only [Act.put, List.setIfInBounds_toArray, List.set_cons_zero, List.set_cons_succ]
          refine wpAnyH_take (oi := ⟨_, _, _, _, _, _⟩) (i := 2) (v := ?_) rfl (by kernel_rfl) (by kernel_rfl) (by kernel_rfl) (fun _ _ _ h => h) (Or.inl ⟨by rfl, ?_⟩) (by assumption) ?_
          rotate_left
          · intro w hSw; (try dsimp only at hSw); first | (go_simp; done) | (go_simp; with_reducible rfl)
          try simp only [Act.put, List.setIfInBounds_toArray, List.set_cons_zero, List.set_cons_succ]
          refine wpAnyH_take (oi := ⟨_, _, _, _, _, _⟩) (i := 3) (v := ?_) rfl (by kernel_rfl) (by kernel_rfl) (by kernel_rfl) (fun _ _ _ h => h) (Or.inl ⟨by rfl, ?_⟩) (by assumption) ?_
          rotate_left
          · intro w hSw; (try dsimp only at hSw); first | (go_simp; done) | (go_simp; with_reducible rfl)
          try simp only [Act.put, List.setIfInBounds_toArray, List.set_cons_zero, List.set_cons_succ]
          refine wpAnyH_take (oi := ⟨_, _, _, _, _, _⟩) (i := 4) (v := ?_) rfl (by kernel_rfl) (by kernel_rfl) (by kernel_rfl) (fun _ _ _ h => h) (Or.inl ⟨by rfl, ?_⟩) (by assumption) ?_
          rotate_left
          · intro w hSw; (try dsimp only at hSw); first | (go_simp; done) | (go_simp; with_reducible rfl)
          try simp only [Act.put, List.setIfInBounds_toArray, List.set_cons_zero, List.set_cons_succ]
          refine wpAnyH_take (oi := ⟨_, _, _, _, _, _⟩) (i := 5) (v := ?_) rfl (by kernel_rfl) (by kernel_rfl) (by kernel_rfl) (fun _ _ _ h => h) (Or.inl ⟨by rfl, ?_⟩) (by assumption) ?_
          rotate_left
          · intro w hSw; (try dsimp only at hSw); first | (go_simp; done) | (go_simp; with_reducible rfl)
          try simp only [Act.put, List.setIfInBounds_toArray, List.set_cons_zero, List.set_cons_succ]
          refine wpAnyH_take (oi := ⟨_, _, _, _, _, _⟩) (i := 6) (v := ?_) rfl (by kernel_rfl) (by kernel_rfl) (by kernel_rfl) (fun _ _ _ h => h) (Or.inl ⟨by rfl, ?_⟩) (by assumption) ?_
          rotate_left
          · intro w hSw; (try dsimp only at hSw); first | (go_simp; done) | (go_simp; with_reducible rfl)
          try simp only [Act.put, List.setIfInBounds_toArray, List.set_cons_zero, List.set_cons_succ]
          refine wpAnyH_take (oi := ⟨_, _, _, _, _, _⟩) (i := 7) rfl (by kernel_rfl) (by kernel_rfl) (by kernel_rfl) (fun _ _ _ h => h) (yieldsIf_load_mid (by rfl) 30 (.tmp 3) rfl w2.heap.size 0 rfl (k.map Value.string) _ (fun w h => h.2.2.2) hua rfl hlak) (by assumption) ?_
          try simp only [Act.put, List.setIfInBounds_toArray, List.set_cons_zero, List.set_cons_succ]
          refine wpAnyH_take (oi := ⟨_, _, _, _, _, _⟩) (i := 8) (v := ?_) rfl (by kernel_rfl) (by kernel_rfl) (by kernel_rfl) (fun _ _ _ h => h) (Or.inl ⟨by rfl, ?_⟩) (by assumption) ?_
          rotate_left
          · intro w hSw; (try dsimp only at hSw); first | (go_simp; done) | (go_simp; with_reducible rfl)
          try simp only [Act.put, List.setIfInBounds_toArray, List.set_cons_zero, List.set_cons_succ]
          refine wpAnyH_take (oi := ⟨_, _, _, _, _, _⟩) (i := 9) (v := .int .i64 (100 * (i1 : Int))) rfl (by kernel_rfl) (by kernel_rfl) (by kernel_rfl) (fun _ _ _ h => h) (Or.inl ⟨by rfl, ?_⟩) (by assumption) ?_
          · intro w hSw; (try dsimp only at hSw); first | (go_simp; done) | (go_simp; simp [hmul]; done) | (simp [hmul]; done)
          try simp only [Act.put, List.setIfInBounds_toArray, List.set_cons_zero, List.set_cons_succ]
          refine wpAnyH_take (oi := ⟨_, _, _, _, _, _⟩) (i := 10) (v := .int .u16 (100 * (i1 : Int))) rfl (by kernel_rfl) (by kernel_rfl) (by kernel_rfl) (fun _ _ _ h => h) (Or.inl ⟨by rfl, ?_⟩) (by assumption) ?_
          · intro w hSw; (try dsimp only at hSw); first | (go_simp; done) | (go_simp; simp [hcv]; done) | (simp [hcv]; done)
          try simp only [Act.put, List.setIfInBounds_toArray, List.set_cons_zero, List.set_cons_succ]
          refine' (fun (HJ : ∀ (bx : Nat) (A : Option Addr) (cp : Nat) (Wx : World), (KA 30 Wx bx x ∧ Kd.R Kd.string 25 Wx w.heap.size (fun _ => True) (.slice A l.length cp) l ∧ wr.heap.size ≤ bx ∧ RowKit.Below wr.heap.size wr Wx) → (_ : Nat → Option Addr → Nat → World → Prop) bx A cp Wx) => ?_) ?_
          rotate_left
          · skip
            refine wpAnyH_ready (rs := [11, 16]) (by kernel_rfl) (by simp) ?_
            refine AllReadyH.cons (o := ⟨_, _, _, _, _, _⟩) rfl (fun K hK => ?_) ?_
            · skip
              go_simp
              have hbt := HB.out.trans (hHeld.1.mono HB.out.size)
              refine (hrk _ (TabAt.below HT1.out (Nat.le_refl _) hbt)).mono ?_
              rintro e w' ⟨v, rfl, hr, hb⟩
              have HL := Lib.hid (Kd.R_lower hr hbt.size)
              clear hr hbt
              obtain ⟨A, cp, ev⟩ := Kd.R_slice HL.out
              subst ev
              go_wp2_with fail
              refine hK.out _ _ (HSt _ (hHeld.1.trans (hb.mono hHeld.1.size))) (fun hHeld => ?_)
              clear hK K hb
              try simp only [Act.put, List.setIfInBounds_toArray, List.set_cons_zero, List.set_cons_succ]
              refine wpAnyH_take (oi := ⟨_, _, _, _, _, _⟩) (i := 12) (v := ?_) rfl (by kernel_rfl) (by kernel_rfl) (by kernel_rfl) (fun _ _ _ h => h) (Or.inl ⟨by rfl, ?_⟩) (by assumption) ?_
              rotate_left
              · intro w hSw; (try dsimp only at hSw); first | (go_simp; done) | (go_simp; with_reducible rfl)
              try simp only [Act.put, List.setIfInBounds_toArray, List.set_cons_zero, List.set_cons_succ]
              refine wpAnyH_take (oi := ⟨_, _, _, _, _, _⟩) (i := 13) (v := ?_) rfl (by kernel_rfl) (by kernel_rfl) (by kernel_rfl) (fun _ _ _ h => h) (Or.inl ⟨by rfl, ?_⟩) (by assumption) ?_
              rotate_left
              · intro w hSw; (try dsimp only at hSw); first | (go_simp; done) | (go_simp; with_reducible rfl)
              try simp only [Act.put, List.setIfInBounds_toArray, List.set_cons_zero, List.set_cons_succ]
              refine wpAnyH_take (oi := ⟨_, _, _, _, _, _⟩) (i := 14) (v := ?_) rfl (by kernel_rfl) (by kernel_rfl) (by kernel_rfl) (fun _ _ _ h => h) (Or.inl ⟨by rfl, ?_⟩) (by assumption) ?_
              rotate_left
              · intro w hSw; (try dsimp only at hSw); first | (go_simp; done) | (go_simp; with_reducible rfl)
              try simp only [Act.put, List.setIfInBounds_toArray, List.set_cons_zero, List.set_cons_succ]
              refine wpAnyH_take (oi := ⟨_, _, _, _, _, _⟩) (i := 15) (v := ?_) rfl (by kernel_rfl) (by kernel_rfl) (by kernel_rfl) (fun _ _ _ h => h) (Or.inl ⟨by rfl, ?_⟩) (by assumption) ?_
              rotate_left
              · intro w hSw; (try dsimp only at hSw); first | (go_simp; done) | (go_simp; with_reducible rfl)
              try simp only [Act.put, List.setIfInBounds_toArray, List.set_cons_zero, List.set_cons_succ]
              refine wpAnyH_ready (rs := [16]) (by kernel_rfl) (by simp) ?_
              refine AllReadyH.cons (o := ⟨_, _, _, _, _, _⟩) rfl (fun K hK => ?_) AllReadyH.nil
              go_simp
              have HX := Lib.hid (KA.new 30 (w') noKeys noKeys_len Z32 rfl)
              have hbx : wr.heap.size ≤ (w').heap.size := hHeld.1.size
              replace HL := Lib.hid (Kd.R_alloc HL.out (.cells Z32 30))
              refine hK.out _ _ (HSt _ (hHeld.1.alloc hHeld.1.size (.cells Z32 30))) (fun hHeld => ?_)
              clear hK K
              try simp only [Act.put, List.setIfInBounds_toArray, List.set_cons_zero, List.set_cons_succ]
              generalize (w').alloc (.cells Z32 30) = Wa at HX hHeld HL ⊢
              generalize (w').heap.size = bx at HX hbx ⊢
              refine wpAnyH_ready (rs := [17]) (by kernel_rfl) (by simp) ?_
              refine AllReadyH.cons (o := ⟨_, _, _, _, _, _⟩) rfl (fun K hK => ?_) AllReadyH.nil
              rw [if_pos (by rfl)]
              refine wp_store_row 30 (.tmp 8) (.tmp 49) rfl (bx) _ rfl rfl _ _ HX.out.1 (size_info _ x lx s30) (by rw [KA.rowSize HX.out.2, KA.rowSize lx]) (one_string _) ?_
              try simp only [Act.put, List.setIfInBounds_toArray, List.set_cons_zero, List.set_cons_succ]
              replace HL := Lib.hid (rowR_setRow HL.out HX.out.1 (x.map Value.string).toArray)
              replace HX := Lib.hid (HX.out.row x lx)
              refine hK.out _ _ (HSt _ (below_setRow hHeld.1 hbx (x.map Value.string).toArray)) (fun hHeld => ?_)
              clear hK K
              generalize (Wa).setRow (bx) (x.map Value.string).toArray = Wx at HL HX hHeld ⊢
              try simp only [Act.put, List.setIfInBounds_toArray, List.set_cons_zero, List.set_cons_succ]
              refine wpAnyH_take (oi := ⟨_, _, _, _, _, _⟩) (i := 18) (v := ?_) rfl (by kernel_rfl) (by kernel_rfl) (by kernel_rfl) (fun _ _ _ h => h) (Or.inl ⟨by rfl, ?_⟩) (by assumption) ?_
              rotate_left
              · intro w hSw; (try dsimp only at hSw); first | (go_simp; done) | (go_simp; with_reducible rfl)
              try simp only [Act.put, List.setIfInBounds_toArray, List.set_cons_zero, List.set_cons_succ]
              refine wpAnyH_take (oi := ⟨_, _, _, _, _, _⟩) (i := 19) (v := ?_) rfl (by kernel_rfl) (by kernel_rfl) (by kernel_rfl) (fun _ _ _ h => h) (Or.inl ⟨by rfl, ?_⟩) (by assumption) ?_
              rotate_left
              · intro w hSw; (try dsimp only at hSw); first | (go_simp; done) | (go_simp; with_reducible rfl)
              try simp only [Act.put, List.setIfInBounds_toArray, List.set_cons_zero, List.set_cons_succ]
              refine wpAnyH_done (by kernel_rfl) ?_ _
              refine NoPanic.normal ?_
              exact HJ _ A cp Wx ⟨HX.out, HL.out, hbx, hHeld.1⟩
            · refine AllReadyH.cons (o := ⟨_, _, _, _, _, _⟩) rfl (fun K hK => ?_) AllReadyH.nil
              go_simp
              have HX := Lib.hid ((KA.new 30 wr noKeys noKeys_len Z32 rfl).after ((RowKit.Below.refl _ _).drew))
              have hbA := ((RowKit.Below.refl wr.heap.size wr).alloc (Nat.le_refl _) (.cells Z32 30)).drew
              refine hK.out _ _ (HSt _ hbA) (fun hHeld => ?_)
              clear hK K hbA
              try simp only [Act.put, List.setIfInBounds_toArray, List.set_cons_zero, List.set_cons_succ]
              generalize (wr.alloc (.cells Z32 30)).drew = Wa at HX hHeld ⊢
              have hbx : wr.heap.size ≤ wr.heap.size := Nat.le_refl _
              refine wpAnyH_ready (rs := [11]) (by kernel_rfl) (by simp) ?_
              refine AllReadyH.cons (o := ⟨_, _, _, _, _, _⟩) rfl (fun K hK => ?_) AllReadyH.nil
              go_simp
              have hbt := HB.out.trans (hHeld.1.mono HB.out.size)
              refine (hrk _ (TabAt.below HT1.out (Nat.le_refl _) hbt)).mono ?_
              rintro e w' ⟨v, rfl, hr, hb⟩
              have HL := Lib.hid (Kd.R_lower hr hbt.size)
              clear hr hbt
              obtain ⟨A, cp, ev⟩ := Kd.R_slice HL.out
              subst ev
              go_wp2_with fail
              replace HX := Lib.hid (HX.out.after hb)
              refine hK.out _ _ (HSt _ (hHeld.1.trans (hb.mono hHeld.1.size))) (fun hHeld => ?_)
              clear hK K hb
              try simp only [Act.put, List.setIfInBounds_toArray, List.set_cons_zero, List.set_cons_succ]
              refine wpAnyH_take (oi := ⟨_, _, _, _, _, _⟩) (i := 12) (v := ?_) rfl (by kernel_rfl) (by kernel_rfl) (by kernel_rfl) (fun _ _ _ h => h) (Or.inl ⟨by rfl, ?_⟩) (by assumption) ?_
              rotate_left
              · intro w hSw; (try dsimp only at hSw); first | (go_simp; done) | (go_simp; with_reducible rfl)
              try simp only [Act.put, List.setIfInBounds_toArray, List.set_cons_zero, List.set_cons_succ]
              refine wpAnyH_take (oi := ⟨_, _, _, _, _, _⟩) (i := 13) (v := ?_) rfl (by kernel_rfl) (by kernel_rfl) (by kernel_rfl) (fun _ _ _ h => h) (Or.inl ⟨by rfl, ?_⟩) (by assumption) ?_
              rotate_left
              · intro w hSw; (try dsimp only at hSw); first | (go_simp; done) | (go_simp; with_reducible rfl)
              try simp only [Act.put, List.setIfInBounds_toArray, List.set_cons_zero, List.set_cons_succ]
              refine wpAnyH_take (oi := ⟨_, _, _, _, _, _⟩) (i := 14) (v := ?_) rfl (by kernel_rfl) (by kernel_rfl) (by kernel_rfl) (fun _ _ _ h => h) (Or.inl ⟨by rfl, ?_⟩) (by assumption) ?_
              rotate_left
              · intro w hSw; (try dsimp only at hSw); first | (go_simp; done) | (go_simp; with_reducible rfl)
              try simp only [Act.put, List.setIfInBounds_toArray, List.set_cons_zero, List.set_cons_succ]
              refine wpAnyH_take (oi := ⟨_, _, _, _, _, _⟩) (i := 15) (v := ?_) rfl (by kernel_rfl) (by kernel_rfl) (by kernel_rfl) (fun _ _ _ h => h) (Or.inl ⟨by rfl, ?_⟩) (by assumption) ?_
              rotate_left
              · intro w hSw; (try dsimp only at hSw); first | (go_simp; done) | (go_simp; with_reducible rfl)
              try simp only [Act.put, List.setIfInBounds_toArray, List.set_cons_zero, List.set_cons_succ]
              refine wpAnyH_ready (rs := [17]) (by kernel_rfl) (by simp) ?_
              refine AllReadyH.cons (o := ⟨_, _, _, _, _, _⟩) rfl (fun K hK => ?_) AllReadyH.nil
              rw [if_pos (by rfl)]
              refine wp_store_row 30 (.tmp 8) (.tmp 49) rfl (wr.heap.size) _ rfl rfl _ _ HX.out.1 (size_info _ x lx s30) (by rw [KA.rowSize HX.out.2, KA.rowSize lx]) (one_string _) ?_
              try simp only [Act.put, List.setIfInBounds_toArray, List.set_cons_zero, List.set_cons_succ]
              replace HL := Lib.hid (rowR_setRow HL.out HX.out.1 (x.map Value.string).toArray)
              replace HX := Lib.hid (HX.out.row x lx)
              refine hK.out _ _ (HSt _ (below_setRow hHeld.1 hbx (x.map Value.string).toArray)) (fun hHeld => ?_)
              clear hK K
              generalize (w').setRow (wr.heap.size) (x.map Value.string).toArray = Wx at HL HX hHeld ⊢
              try simp only [Act.put, List.setIfInBounds_toArray, List.set_cons_zero, List.set_cons_succ]
              refine wpAnyH_take (oi := ⟨_, _, _, _, _, _⟩) (i := 18) (v := ?_) rfl (by kernel_rfl) (by kernel_rfl) (by kernel_rfl) (fun _ _ _ h => h) (Or.inl ⟨by rfl, ?_⟩) (by assumption) ?_
              rotate_left
              · intro w hSw; (try dsimp only at hSw); first | (go_simp; done) | (go_simp; with_reducible rfl)
              try simp only [Act.put, List.setIfInBounds_toArray, List.set_cons_zero, List.set_cons_succ]
              refine wpAnyH_take (oi := ⟨_, _, _, _, _, _⟩) (i := 19) (v := ?_) rfl (by kernel_rfl) (by kernel_rfl) (by kernel_rfl) (fun _ _ _ h => h) (Or.inl ⟨by rfl, ?_⟩) (by assumption) ?_
              rotate_left
              · intro w hSw; (try dsimp only at hSw); first | (go_simp; done) | (go_simp; with_reducible rfl)
              try simp only [Act.put, List.setIfInBounds_toArray, List.set_cons_zero, List.set_cons_succ]
              refine wpAnyH_done (by kernel_rfl) ?_ _
              refine NoPanic.normal ?_
              exact HJ _ A cp Wx ⟨HX.out, HL.out, hbx, hHeld.1⟩
          · rintro bx A cp Wx ⟨hx, hlr, hbx, hbe⟩
            have HX := Lib.hid hx; have HL := Lib.hid hlr
            replace HB := Lib.hid (HB.out.trans (hbe.mono HB.out.size)); replace HG := Lib.hid (HG.out.after hbe); replace HS := Lib.hid (HS.out.after hbe)
            have hbl : w.heap.size < bx ∧ w2.heap.size < bx ∧ bm < bx := by
              have := HM.out.lt
              omega
            replace HM := Lib.hid (HM.out.after hbe)
            clear hx hlr hbe HSt hB0 crk hlak c1 c2 hrk hmul hcv hbx
            go_wp2_with fail
            go_loopw [54] (fun i wl => ∃ q : Nat, q ≤ 16 ∧ i = .int .u8 q ∧ RowKit.Below w.heap.size w wl ∧ Sets4 wl w.heap.size s ∧ KA 30 wl w2.heap.size k ∧ KA 30 wl bx x ∧ Kd.R Kd.string 25 wl w.heap.size (fun _ => True) (.slice A l.length cp) l ∧ ∃ mine', KM wl bm mine' ∧ Mb x (s (m + 1)) mine mine' q) (fun i _ => 16 - (intOf i).toNat)
            case atStart => exact ⟨0, Nat.zero_le _, rfl, HB.out, HS.out, HG.out, HX.out, HL.out, mine, HM.out, ⟨fun _ _ _ => rfl, fun id h => absurd h (by omega)⟩⟩
            case round =>
              clear HB HS HG HX HL HM
              obtain ⟨q, hq, rfl, hbel, hse, hg, hx, hlr, mine', hmn, hmb'⟩ := hrel
              have HB := Lib.hid hbel; have HS := Lib.hid hse; have HG := Lib.hid hg; have HX := Lib.hid hx; have HL := Lib.hid hlr; have HM := Lib.hid hmn; have HMB := Lib.hid hmb'
              clear hbel hse hg hx hlr hmn hmb'
              by_cases hqt : q < 16
              · skip
                have c1 := HS.out.cell m (by omega)
                have hhw := has_calls (s m) q (hs m) (by omega)
                have hbw : hasB (s m) q = bit (s m) q := by unfold hasB; simp [hqt]
                rw [hbw] at hhw
                clear hbw
                go_wp2_with fail
                refine (hhw _).mono ?_
                rintro e w6 ⟨rfl, hb⟩
                replace HS := Lib.hid (HS.out.after hb); replace HG := Lib.hid (HG.out.after hb); replace HX := Lib.hid (HX.out.after hb); replace HL := Lib.hid (Kd.R_below HL.out hb); replace HM := Lib.hid (HM.out.after hb); replace HB := Lib.hid (HB.out.trans (hb.mono HB.out.size)); clear hb
                clear c1 hhw
                obtain ⟨bt, hbt⟩ : ∃ bt, bt = bit (s m) q := ⟨_, rfl⟩
                rw [← hbt]
                have HBT := Lib.hid hbt
                clear hbt
                go_upto_if 63 with (fail)
                go_cut [] (fun wc => ∃ mine2 : Nat → List ByteArray, (RowKit.Below w.heap.size w wc ∧ Sets4 wc w.heap.size s ∧ KA 30 wc w2.heap.size k ∧ KA 30 wc bx x ∧ Kd.R Kd.string 25 wc w.heap.size (fun _ => True) (.slice A l.length cp) l ∧ KM wc bm mine2) ∧ (bit (s (m + 1)) q = true → (learnF (mine2 q) l).1 = ownF x (pathI (q : Int))) ∧ ∀ id, id ≠ q → mine2 id = mine' id)
                case first =>
                  cases bt with
                  | true =>
                    go_wp2_with fail
                    go_meet
                    case rel => exact ⟨mine', ⟨HB.out, HS.out, HG.out, HX.out, HL.out, HM.out⟩, fun hb => (HML.out q hqt hb _ (.inl ⟨(HMB.out.rest q hqt (Nat.le_refl _)).trans (HMI.out q hqt HBT.out.symm), HBT.out.symm⟩)).1, fun _ _ => rfl⟩
                  | false =>
                    go_wp2_with fail
                    refine (leaves_any _).mono ?_
                    rintro e w7 ⟨rfl, hb⟩
                    replace HS := Lib.hid (HS.out.after hb); replace HG := Lib.hid (HG.out.after hb); replace HX := Lib.hid (HX.out.after hb); replace HL := Lib.hid (Kd.R_below HL.out hb); replace HM := Lib.hid (HM.out.after hb); replace HB := Lib.hid (HB.out.trans (hb.mono HB.out.size)); clear hb
                    have hol := own_any leavesL leaves_len (q : Int) (by omega) (by omega)
                    unfold KV at hol ⊢
                    go_wp2_with fail
                    refine (hol _).mono ?_
                    rintro e w8 ⟨rfl, hb⟩
                    replace HS := Lib.hid (HS.out.after hb); replace HG := Lib.hid (HG.out.after hb); replace HX := Lib.hid (HX.out.after hb); replace HL := Lib.hid (Kd.R_below HL.out hb); replace HM := Lib.hid (HM.out.after hb); replace HB := Lib.hid (HB.out.trans (hb.mono HB.out.size)); clear hb
                    have lo := ownF_len leavesL (pathI (q : Int))
                    clear hol
                    go_wp2_with (first | (refine wpList_store_mid rfl 30 (.tmp 68) (.tmp 67) rfl bm (q * 32) _ rfl rfl (by rw [KA.rowSize lo]; exact HM.out.there q hqt) (size_info _ _ lo s30) (one_string _) ?_; replace HL := Lib.hid (rowR_setCells ((ownF leavesL (pathI (q : Int))).map Value.string) (q * 32) w8 HL.out HM.out.row.choose_spec.1 (by decide)); replace HM := Lib.hid (HM.out.put q hqt (ownF leavesL (pathI (q : Int))) lo); replace HS := Lib.hid (HS.out.cells_other (show w.heap.size ≠ bm by omega) (q * 32) ((ownF leavesL (pathI (q : Int))).map Value.string)); replace HG := Lib.hid (HG.out.cells_other (show w2.heap.size ≠ bm by omega) (q * 32) ((ownF leavesL (pathI (q : Int))).map Value.string)); replace HX := Lib.hid (HX.out.cells_other (show bx ≠ bm by omega) (q * 32) ((ownF leavesL (pathI (q : Int))).map Value.string)); replace HB := Lib.hid (below_setCells (show w.heap.size ≤ bm by omega) ((ownF leavesL (pathI (q : Int))).map Value.string) (q * 32) _ HB.out); generalize w8.setCells bm (q * 32) ((ownF leavesL (pathI (q : Int))).map Value.string) = V8 at HL HM HS HG HX HB ⊢))
                    go_meet
                    case rel => exact ⟨_, ⟨HB.out, HS.out, HG.out, HX.out, HL.out, HM.out⟩, fun hb => by
                      unfold putM; rw [if_pos rfl]; exact (HML.out q hqt hb _ (.inr ⟨rfl, HBT.out.symm⟩)).1, fun id hne => by unfold putM; rw [if_neg hne]⟩
                case rest =>
                  clear HB HS HG HX HL HM
                  obtain ⟨mine2, ⟨hbel, hse, hg, hx, hlr, hmn⟩, hm2q, hm2o⟩ := hcut
                  have HB := Lib.hid hbel; have HS := Lib.hid hse; have HG := Lib.hid hg; have HX := Lib.hid hx; have HL := Lib.hid hlr; have HM := Lib.hid hmn
                  clear hbel hse hg hx hlr hmn
                  have lm : (mine2 q).length = 32 := HM.out.len q hqt
                  have HM2Q := Lib.hid hm2q; have HM2O := Lib.hid hm2o
                  clear hm2q hm2o
                  have hln := fun w hc => learn_any (mine2 q) lm A cp l hll w hc (Kd.R_reads' HL.out).2.1
                  have lr := learnF_len lm l
                  unfold KV at hln
                  go_wp2_with (first | (refine wpList_load_mid rfl 30 (.tmp 72) rfl bm (q * 32) rfl ((mine2 q).map Value.string) _ (HM.out.lies q hqt) Tryd.underlying30 rfl (by rw [List.length_map, lm]; exact s30) ?_))
                  refine (hln _ (Kd.R_reads' HL.out).2.2).mono ?_
                  clear hln
                  rintro e w9 ⟨rfl, hb⟩
                  replace HS := Lib.hid (HS.out.after hb); replace HG := Lib.hid (HG.out.after hb); replace HX := Lib.hid (HX.out.after hb); replace HL := Lib.hid (Kd.R_below HL.out hb); replace HM := Lib.hid (HM.out.after hb); replace HB := Lib.hid (HB.out.trans (hb.mono HB.out.size)); clear hb
                  have hmq := HM2Q.out
                  generalize (learnF (mine2 q) l).2 = nn
                  generalize (learnF (mine2 q) l).1 = r at hmq lr ⊢
                  have HMQ := Lib.hid hmq
                  clear hmq HM2Q
                  go_wp2_with (first | (refine wpList_store_mid rfl 30 (.tmp 78) (.tmp 76) rfl bm (q * 32) _ rfl rfl (by rw [KA.rowSize lr]; exact HM.out.there q hqt) (size_info _ _ lr s30) (one_string _) ?_; replace HL := Lib.hid (rowR_setCells (r.map Value.string) (q * 32) w9 HL.out HM.out.row.choose_spec.1 (by decide)); replace HM := Lib.hid (HM.out.put q hqt r lr); replace HS := Lib.hid (HS.out.cells_other (show w.heap.size ≠ bm by omega) (q * 32) (r.map Value.string)); replace HG := Lib.hid (HG.out.cells_other (show w2.heap.size ≠ bm by omega) (q * 32) (r.map Value.string)); replace HX := Lib.hid (HX.out.cells_other (show bx ≠ bm by omega) (q * 32) (r.map Value.string)); replace HB := Lib.hid (below_setCells (show w.heap.size ≤ bm by omega) (r.map Value.string) (q * 32) _ HB.out); generalize w9.setCells bm (q * 32) (r.map Value.string) = V9 at HL HM HS HG HX HB ⊢))
                  have hhi := has_calls (s i1) q (hs i1) (by omega)
                  have hbw : hasB (s i1) q = bit (s (m + 1)) q := by unfold hasB; rw [HI1.out, Nat.add_comm 1 m]; simp [hqt]
                  rw [hbw] at hhi
                  clear hbw
                  have c2 := HS.out.cell i1 (by omega)
                  have cx1 := HX.out.cell (j := 1) (by omega)
                  have cm1 := HM.out.cell q hqt 1 (by omega)
                  have hkm : putM mine2 q r q = r := by unfold putM; rw [if_pos rfl]
                  rw [hkm] at cm1
                  clear hkm
                  have hB0 := RowKit.Below.refl V9.heap.size V9
                  have hqi : (q : Int) < 16 := by omega
                  generalize hkx : key x 1 = x1 at cx1
                  generalize hkr : key r 1 = r1 at cm1
                  have HKX := Lib.hid hkx; have HKR := Lib.hid hkr
                  clear hkx hkr
                  cases hbi : bit (s (m + 1)) q with
                  | false =>
                    rw [hbi] at hhi
                    have HSt : ∀ w' : World, RowKit.Below V9.heap.size V9 w' → (RowKit.Below V9.heap.size V9 w' ∧ w'.cell? ⟨w.heap.size, i1, none⟩ = some (.int .u16 (s i1 : Int))) := by
                      intro w' h6
                      exact ⟨h6, (h6.cell (p := ⟨w.heap.size, i1, none⟩) HS.out.lt).trans c2⟩
                    go_wp2_with fail
                    refine wp_region_noPanic ?_
                    refine wp_region_held_drew (S := (fun w' => RowKit.Below V9.heap.size V9 w' ∧ w'.cell? ⟨w.heap.size, i1, none⟩ = some (.int .u16 (s i1 : Int)))) (by kernel_rfl) (HSt _ ((RowKit.Below.refl _ _).drew)) (fun hHeld => ?_)
                    refine wpAnyH_take (oi := ⟨_, _, _, _, _, _⟩) (i := 0) (v := ?_) rfl (by kernel_rfl) (by kernel_rfl) (by kernel_rfl) (fun _ _ _ h => h) (Or.inl ⟨by rfl, ?_⟩) (by assumption) ?_
                    rotate_left
                    · intro w hSw; (try dsimp only at hSw); first | (go_simp; done) | (go_simp; with_reducible rfl)
                    try simp only [Act.put, List.setIfInBounds_toArray, List.set_cons_zero, List.set_cons_succ]
                    refine wpAnyH_take (oi := ⟨_, _, _, _, _, _⟩) (i := 1) (v := ?_) rfl (by kernel_rfl) (by kernel_rfl) (by kernel_rfl) (fun _ _ _ h => h) (Or.inl ⟨by rfl, ?_⟩) (by assumption) ?_
                    rotate_left
                    · intro w hSw; (try dsimp only at hSw); first | (go_simp; done) | (go_simp; with_reducible rfl)
                    try simp only [Act.put, List.setIfInBounds_toArray, List.set_cons_zero, List.set_cons_succ]
                    refine wpAnyH_take (oi := ⟨_, _, _, _, _, _⟩) (i := 2) (v := ?_) rfl (by kernel_rfl) (by kernel_rfl) (by kernel_rfl) (fun _ _ _ h => h) (Or.inl ⟨by rfl, ?_⟩) (by assumption) ?_
                    rotate_left
                    · intro w hSw; (try dsimp only at hSw); first | (go_simp; done) | (go_simp; with_reducible rfl)
                    try simp only [Act.put, List.setIfInBounds_toArray, List.set_cons_zero, List.set_cons_succ]
                    refine wpAnyH_take (oi := ⟨_, _, _, _, _, _⟩) (i := 3) (v := ?_) rfl (by kernel_rfl) (by kernel_rfl) (by kernel_rfl) (fun _ _ _ h => h) (Or.inl ⟨by rfl, ?_⟩) (by assumption) ?_
                    rotate_left
                    · intro w hSw; (try dsimp only at hSw); first | (go_simp; done) | (go_simp; with_reducible rfl)
                    try simp only [Act.put, List.setIfInBounds_toArray, List.set_cons_zero, List.set_cons_succ]
                    refine wpAnyH_ready (rs := [4]) (by kernel_rfl) (by simp) ?_
                    refine AllReadyH.cons (o := ⟨_, _, _, _, _, _⟩) rfl (fun K hK => ?_) AllReadyH.nil
                    go_simp
                    refine (hhi _).mono ?_; rintro e w' ⟨rfl, hb⟩; (try go_wp2_with fail)
                    refine hK.out _ _ (HSt _ (hHeld.1.trans (hb.mono hHeld.1.size))) (fun hHeld => ?_)
                    clear hK K
                    try simp only [Act.put, List.setIfInBounds_toArray, List.set_cons_zero, List.set_cons_succ]
                    refine wpAnyH_take (oi := ⟨_, _, _, _, _, _⟩) (i := 5) (v := ?_) rfl (by kernel_rfl) (by kernel_rfl) (by kernel_rfl) (fun _ _ _ h => h) (Or.inl ⟨by rfl, ?_⟩) (by assumption) ?_
                    rotate_left
                    · intro w hSw; (try dsimp only at hSw); first | (go_simp; done) | (go_simp; with_reducible rfl)
                    try simp only [Act.put, List.setIfInBounds_toArray, List.set_cons_zero, List.set_cons_succ]
                    refine wpAnyH_take (oi := ⟨_, _, _, _, _, _⟩) (i := 6) rfl (by kernel_rfl) (by kernel_rfl) (by kernel_rfl) (fun _ _ _ h => h) (Or.inr ⟨by rfl, rfl⟩) (by assumption) ?_
                    try simp only [Act.put, List.setIfInBounds_toArray, List.set_cons_zero, List.set_cons_succ]
                    refine wpAnyH_take (oi := ⟨_, _, _, _, _, _⟩) (i := 7) rfl (by kernel_rfl) (by kernel_rfl) (by kernel_rfl) (fun _ _ _ h => h) (Or.inr ⟨by rfl, rfl⟩) (by assumption) ?_
                    try simp only [Act.put, List.setIfInBounds_toArray, List.set_cons_zero, List.set_cons_succ]
                    refine wpAnyH_take (oi := ⟨_, _, _, _, _, _⟩) (i := 8) rfl (by kernel_rfl) (by kernel_rfl) (by kernel_rfl) (fun _ _ _ h => h) (Or.inr ⟨by rfl, rfl⟩) (by assumption) ?_
                    try simp only [Act.put, List.setIfInBounds_toArray, List.set_cons_zero, List.set_cons_succ]
                    refine wpAnyH_take (oi := ⟨_, _, _, _, _, _⟩) (i := 9) rfl (by kernel_rfl) (by kernel_rfl) (by kernel_rfl) (fun _ _ _ h => h) (Or.inr ⟨by rfl, rfl⟩) (by assumption) ?_
                    try simp only [Act.put, List.setIfInBounds_toArray, List.set_cons_zero, List.set_cons_succ]
                    refine wpAnyH_take (oi := ⟨_, _, _, _, _, _⟩) (i := 10) rfl (by kernel_rfl) (by kernel_rfl) (by kernel_rfl) (fun _ _ _ h => h) (Or.inr ⟨by rfl, rfl⟩) (by assumption) ?_
                    try simp only [Act.put, List.setIfInBounds_toArray, List.set_cons_zero, List.set_cons_succ]
                    refine wpAnyH_take (oi := ⟨_, _, _, _, _, _⟩) (i := 11) rfl (by kernel_rfl) (by kernel_rfl) (by kernel_rfl) (fun _ _ _ h => h) (Or.inr ⟨by rfl, rfl⟩) (by assumption) ?_
                    try simp only [Act.put, List.setIfInBounds_toArray, List.set_cons_zero, List.set_cons_succ]
                    refine wpAnyH_take (oi := ⟨_, _, _, _, _, _⟩) (i := 12) rfl (by kernel_rfl) (by kernel_rfl) (by kernel_rfl) (fun _ _ _ h => h) (Or.inr ⟨by rfl, rfl⟩) (by assumption) ?_
                    try simp only [Act.put, List.setIfInBounds_toArray, List.set_cons_zero, List.set_cons_succ]
                    refine wpAnyH_take (oi := ⟨_, _, _, _, _, _⟩) (i := 13) (v := ?_) rfl (by kernel_rfl) (by kernel_rfl) (by kernel_rfl) (fun _ _ _ h => h) (Or.inl ⟨by rfl, ?_⟩) (by assumption) ?_
                    rotate_left
                    · intro w hSw; (try dsimp only at hSw); first | (go_simp; done) | (go_simp; with_reducible rfl)
                    try simp only [Act.put, List.setIfInBounds_toArray, List.set_cons_zero, List.set_cons_succ]
                    refine wpAnyH_done (by kernel_rfl) ?_ _
                    refine NoPanic.normal ?_
                    replace HB := Lib.hid (HB.out.trans (hHeld.1.mono HB.out.size)); replace HG := Lib.hid (HG.out.after hHeld.1); replace HS := Lib.hid (HS.out.after hHeld.1); replace HX := Lib.hid (HX.out.after hHeld.1); replace HM := Lib.hid (HM.out.after hHeld.1); replace HL := Lib.hid (Kd.R_below HL.out hHeld.1)
                    clear hHeld HSt hB0 c2 cx1 cm1 hhi
                    go_wp2_with fail
                    go_roundw
                    case rel => exact ⟨q + 1, by omega, by simp, HB.out, HS.out, HG.out, HX.out, HL.out, putM mine2 q r, HM.out, ⟨fun id h1 h2 => by
                      unfold putM
                      rw [if_neg (by omega), HM2O.out id (by omega)]
                      exact HMB.out.rest id h1 (by omega), fun id h1 hb => by
                      unfold putM
                      by_cases e : id = q
                      · rw [if_pos e, e]; rw [e] at hb; exact HMQ.out hb
                      · rw [if_neg e, HM2O.out id e]; exact HMB.out.got id (by omega) hb⟩⟩
                    case measure => simp [intOf]; omega
                  | true =>
                    rw [hbi] at hhi
                    have he := HMQ.out hbi
                    obtain rfl : r1 = x1 := by rw [← HKR.out, ← HKX.out, he]; exact own_root x hqt
                    clear he
                    have HSt : ∀ w' : World, RowKit.Below V9.heap.size V9 w' → (RowKit.Below V9.heap.size V9 w' ∧ w'.cell? ⟨w.heap.size, i1, none⟩ = some (.int .u16 (s i1 : Int)) ∧ w'.cell? ⟨bm, q * 32 + 1, none⟩ = some (.string r1) ∧ w'.cell? ⟨bx, 1, none⟩ = some (.string r1)) := by
                      intro w' h6
                      exact ⟨h6, (h6.cell (p := ⟨w.heap.size, i1, none⟩) HS.out.lt).trans c2, (h6.cell (p := ⟨bm, q * 32 + 1, none⟩) HM.out.lt).trans cm1, (h6.cell (p := ⟨bx, 1, none⟩) HX.out.lt).trans cx1⟩
                    go_wp2_with fail
                    refine wp_region_noPanic ?_
                    refine wp_region_held_drew (S := (fun w' => RowKit.Below V9.heap.size V9 w' ∧ w'.cell? ⟨w.heap.size, i1, none⟩ = some (.int .u16 (s i1 : Int)) ∧ w'.cell? ⟨bm, q * 32 + 1, none⟩ = some (.string r1) ∧ w'.cell? ⟨bx, 1, none⟩ = some (.string r1))) (by kernel_rfl) (HSt _ ((RowKit.Below.refl _ _).drew)) (fun hHeld => ?_)
                    refine wpAnyH_take (oi := ⟨_, _, _, _, _, _⟩) (i := 0) (v := ?_) rfl (by kernel_rfl) (by kernel_rfl) (by kernel_rfl) (fun _ _ _ h => h) (Or.inl ⟨by rfl, ?_⟩) (by assumption) ?_
                    rotate_left
                    · intro w hSw; (try dsimp only at hSw); first | (go_simp; done) | (go_simp; with_reducible rfl)
                    try simp only [Act.put, List.setIfInBounds_toArray, List.set_cons_zero, List.set_cons_succ]
                    refine wpAnyH_take (oi := ⟨_, _, _, _, _, _⟩) (i := 1) (v := ?_) rfl (by kernel_rfl) (by kernel_rfl) (by kernel_rfl) (fun _ _ _ h => h) (Or.inl ⟨by rfl, ?_⟩) (by assumption) ?_
                    rotate_left
                    · intro w hSw; (try dsimp only at hSw); first | (go_simp; done) | (go_simp; with_reducible rfl)
                    try simp only [Act.put, List.setIfInBounds_toArray, List.set_cons_zero, List.set_cons_succ]
                    refine wpAnyH_take (oi := ⟨_, _, _, _, _, _⟩) (i := 2) (v := ?_) rfl (by kernel_rfl) (by kernel_rfl) (by kernel_rfl) (fun _ _ _ h => h) (Or.inl ⟨by rfl, ?_⟩) (by assumption) ?_
                    rotate_left
                    · intro w hSw; (try dsimp only at hSw); first | (go_simp; done) | (go_simp; with_reducible rfl)
                    try simp only [Act.put, List.setIfInBounds_toArray, List.set_cons_zero, List.set_cons_succ]
                    refine wpAnyH_take (oi := ⟨_, _, _, _, _, _⟩) (i := 3) (v := ?_) rfl (by kernel_rfl) (by kernel_rfl) (by kernel_rfl) (fun _ _ _ h => h) (Or.inl ⟨by rfl, ?_⟩) (by assumption) ?_
                    rotate_left
                    · intro w hSw; (try dsimp only at hSw); first | (go_simp; done) | (go_simp; with_reducible rfl)
                    try simp only [Act.put, List.setIfInBounds_toArray, List.set_cons_zero, List.set_cons_succ]
                    refine wpAnyH_ready (rs := [4]) (by kernel_rfl) (by simp) ?_
                    refine AllReadyH.cons (o := ⟨_, _, _, _, _, _⟩) rfl (fun K hK => ?_) AllReadyH.nil
                    go_simp
                    refine (hhi _).mono ?_; rintro e w' ⟨rfl, hb⟩; (try go_wp2_with fail)
                    refine hK.out _ _ (HSt _ (hHeld.1.trans (hb.mono hHeld.1.size))) (fun hHeld => ?_)
                    clear hK K
                    try simp only [Act.put, List.setIfInBounds_toArray, List.set_cons_zero, List.set_cons_succ]
                    refine wpAnyH_take (oi := ⟨_, _, _, _, _, _⟩) (i := 5) (v := ?_) rfl (by kernel_rfl) (by kernel_rfl) (by kernel_rfl) (fun _ _ _ h => h) (Or.inl ⟨by rfl, ?_⟩) (by assumption) ?_
                    rotate_left
                    · intro w hSw; (try dsimp only at hSw); first | (go_simp; done) | (go_simp; with_reducible rfl)
                    try simp only [Act.put, List.setIfInBounds_toArray, List.set_cons_zero, List.set_cons_succ]
                    refine wpAnyH_take (oi := ⟨_, _, _, _, _, _⟩) (i := 6) (v := ?_) rfl (by kernel_rfl) (by kernel_rfl) (by kernel_rfl) (fun _ _ _ h => h) (Or.inl ⟨by rfl, ?_⟩) (by assumption) ?_
                    rotate_left
                    · intro w hSw; (try dsimp only at hSw); first | (go_simp; done) | (go_simp; with_reducible rfl)
                    try simp only [Act.put, List.setIfInBounds_toArray, List.set_cons_zero, List.set_cons_succ]
                    refine wpAnyH_take (oi := ⟨_, _, _, _, _, _⟩) (i := 7) (v := ?_) rfl (by kernel_rfl) (by kernel_rfl) (by kernel_rfl) (fun _ _ _ h => h) (Or.inl ⟨by rfl, ?_⟩) (by assumption) ?_
                    rotate_left
                    · intro w hSw; (try dsimp only at hSw); first | (go_simp; done) | (go_simp; with_reducible rfl)
                    try simp only [Act.put, List.setIfInBounds_toArray, List.set_cons_zero, List.set_cons_succ]
                    refine wpAnyH_take (oi := ⟨_, _, _, _, _, _⟩) (i := 8) (v := ?_) rfl (by kernel_rfl) (by kernel_rfl) (by kernel_rfl) (fun _ _ _ h => h) (Or.inl ⟨by rfl, ?_⟩) (by assumption) ?_
                    rotate_left
                    · intro w hSw; (try dsimp only at hSw); first | (go_simp; done) | (go_simp; with_reducible rfl)
                    try simp only [Act.put, List.setIfInBounds_toArray, List.set_cons_zero, List.set_cons_succ]
                    refine wpAnyH_take (oi := ⟨_, _, _, _, _, _⟩) (i := 9) (v := ?_) rfl (by kernel_rfl) (by kernel_rfl) (by kernel_rfl) (fun _ _ _ h => h) (Or.inl ⟨by rfl, ?_⟩) (by assumption) ?_
                    rotate_left
                    · intro w hSw; (try dsimp only at hSw); first | (go_simp; done) | (go_simp; with_reducible rfl)
                    try simp only [Act.put, List.setIfInBounds_toArray, List.set_cons_zero, List.set_cons_succ]
                    refine wpAnyH_take (oi := ⟨_, _, _, _, _, _⟩) (i := 10) (v := ?_) rfl (by kernel_rfl) (by kernel_rfl) (by kernel_rfl) (fun _ _ _ h => h) (Or.inl ⟨by rfl, ?_⟩) (by assumption) ?_
                    rotate_left
                    · intro w hSw; (try dsimp only at hSw); first | (go_simp; done) | (go_simp; with_reducible rfl)
                    try simp only [Act.put, List.setIfInBounds_toArray, List.set_cons_zero, List.set_cons_succ]
                    refine wpAnyH_take (oi := ⟨_, _, _, _, _, _⟩) (i := 11) (v := ?_) rfl (by kernel_rfl) (by kernel_rfl) (by kernel_rfl) (fun _ _ _ h => h) (Or.inl ⟨by rfl, ?_⟩) (by assumption) ?_
                    rotate_left
                    · intro w hSw; (try dsimp only at hSw); first | (go_simp; done) | (go_simp; with_reducible rfl)
                    try simp only [Act.put, List.setIfInBounds_toArray, List.set_cons_zero, List.set_cons_succ]
                    refine wpAnyH_take (oi := ⟨_, _, _, _, _, _⟩) (i := 12) (v := ?_) rfl (by kernel_rfl) (by kernel_rfl) (by kernel_rfl) (fun _ _ _ h => h) (Or.inl ⟨by rfl, ?_⟩) (by assumption) ?_
                    rotate_left
                    · intro w hSw; (try dsimp only at hSw); first | (go_simp; done) | (go_simp; with_reducible rfl)
                    try simp only [Act.put, List.setIfInBounds_toArray, List.set_cons_zero, List.set_cons_succ]
                    refine wpAnyH_take (oi := ⟨_, _, _, _, _, _⟩) (i := 13) (v := ?_) rfl (by kernel_rfl) (by kernel_rfl) (by kernel_rfl) (fun _ _ _ h => h) (Or.inl ⟨by rfl, ?_⟩) (by assumption) ?_
                    rotate_left
                    · intro w hSw; (try dsimp only at hSw); first | (go_simp; done) | (go_simp; with_reducible rfl)
                    try simp only [Act.put, List.setIfInBounds_toArray, List.set_cons_zero, List.set_cons_succ]
                    refine wpAnyH_done (by kernel_rfl) ?_ _
                    refine NoPanic.normal ?_
                    replace HB := Lib.hid (HB.out.trans (hHeld.1.mono HB.out.size)); replace HG := Lib.hid (HG.out.after hHeld.1); replace HS := Lib.hid (HS.out.after hHeld.1); replace HX := Lib.hid (HX.out.after hHeld.1); replace HM := Lib.hid (HM.out.after hHeld.1); replace HL := Lib.hid (Kd.R_below HL.out hHeld.1)
                    clear hHeld HSt hB0 c2 cx1 cm1 hhi
                    go_wp2_with fail
                    go_roundw
                    case rel => exact ⟨q + 1, by omega, by simp, HB.out, HS.out, HG.out, HX.out, HL.out, putM mine2 q r, HM.out, ⟨fun id h1 h2 => by
                      unfold putM
                      rw [if_neg (by omega), HM2O.out id (by omega)]
                      exact HMB.out.rest id h1 (by omega), fun id h1 hb => by
                      unfold putM
                      by_cases e : id = q
                      · rw [if_pos e, e]; rw [e] at hb; exact HMQ.out hb
                      · rw [if_neg e, HM2O.out id e]; exact HMB.out.got id (by omega) hb⟩⟩
                    case measure => simp [intOf]; omega
              · obtain rfl : q = 16 := by omega
                clear hq hqt
                go_wp2_with (first | refine wpList_load_row rfl 30 (.tmp 8) rfl _ rfl _ _ _ _ HX.out.1 Tryd.underlying30 rfl (size_info _ _ HX.out.2 s30) ?_ | (refine wpList_store_row rfl 30 (.tmp 3) (.tmp 94) rfl _ _ rfl rfl _ _ HG.out.1 (size_info _ x lx s30) (by rw [KA.rowSize HG.out.2, KA.rowSize lx]) (one_string _) ?_; replace HG := Lib.hid (HG.out.row x lx); replace HS := Lib.hid (HS.out.setRow_other (show w.heap.size ≠ w2.heap.size by omega) (x.map Value.string).toArray); replace HM := Lib.hid (HM.out.setRow_other (show bm ≠ w2.heap.size by omega) (x.map Value.string).toArray); replace HB := Lib.hid (below_setRow HB.out hsz2 (x.map Value.string).toArray); clear HX HL; generalize wr.setRow w2.heap.size (x.map Value.string).toArray = Vx at HG HS HM HB ⊢))
                go_loopw [12] (fun i wl => ∃ j : Nat, j ≤ 16 ∧ i = .int .i64 ((16 + j : Nat) : Int) ∧ RowKit.Below w.heap.size w wl ∧ Sets4 wl w.heap.size s ∧ KM wl bm mine' ∧ KA 30 wl w2.heap.size (leafUp x j)) (fun i _ => 32 - (intOf i).toNat)
                case atStart => exact ⟨0, Nat.zero_le _, rfl, HB.out, HS.out, HM.out, HG.out⟩
                case round =>
                  clear HB HS HM HG
                  obtain ⟨j, hj, rfl, hbel, hse, hmn, hg⟩ := hrel
                  have HB := Lib.hid hbel; have HS := Lib.hid hse; have HG := Lib.hid hg; have HM := Lib.hid hmn
                  clear hbel hse hg hmn
                  by_cases hjt : j < 16
                  · go_wp2_with fail
                    rw [show ((1000 : Int) + (16 + (j : Int))) = ((1016 + j : Nat) : Int) by omega]
                    refine (nonce_calls _ _).mono ?_
                    rintro e w7 ⟨rfl, hb⟩
                    replace HS := Lib.hid (HS.out.after hb); replace HG := Lib.hid (HG.out.after hb); replace HM := Lib.hid (HM.out.after hb); replace HB := Lib.hid (HB.out.trans (hb.mono HB.out.size)); clear hb
                    have htk := Lib.hid (leafUp_succ x j)
                    have hfo := HG.out.frozen (16 + j)
                    have hco := HG.out.cell (j := 16 + j) (by omega)
                    go_wp2_with fail
                    go_roundw
                    case rel => exact ⟨j + 1, by omega, by simp; omega, HB.out.setCell (p := ⟨w2.heap.size, 16 + j, none⟩) (show w.heap.size ≤ w2.heap.size by omega) _, HS.out.other _ _ (show w.heap.size ≠ w2.heap.size by omega), HM.out.other _ _ (show bm ≠ w2.heap.size by omega), by rw [htk.out]; exact HG.out.set (16 + j) _⟩
                    case measure => simp [intOf]; omega
                  · obtain rfl : j = 16 := by omega
                    clear hj hjt
                    go_wp2_with fail
                    go_roundw
                    case rel => (repeat apply Exists.intro); exact ⟨⟨m + 1, by omega, by rw [HI1.out]; simp; omega, HB.out, HS.out, leafUp x 16, mine', HG.out, HM.out, HNX.out, fun id h1 hb => (HMB.out.got id h1 hb).trans (HON.out id h1 hb).symm⟩, rfl⟩
                    case measure => have := HI1.out; simp [intOf]; omega
        · obtain rfl : m = 3 := by omega
          go_wp2_with fail
          go_ret
          exact ⟨rfl, HB.out⟩
end Go.Proofs.YtecimagjeelgbaaDoor.Pr
