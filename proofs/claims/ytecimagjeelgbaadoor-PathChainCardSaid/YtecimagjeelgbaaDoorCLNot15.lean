import Derived.Test.YtecimagjeelgbaaDoorCLMem15
/- PathNothing: its walk. Printed by gennot15.py. -/
set_option linter.unusedVariables false
set_option linter.unusedSimpArgs false
namespace Go.Proofs.YtecimagjeelgbaaDoor.Pr
open Go.RowKit Go.Proofs.YtecimagjeelgbaaDoorW.PrintWords Go.Proofs.YtecimagjeelgbaaDoorW.PrintLast Go.Proofs.YtecimagjeelgbaaDoorW.PrintMore Go.Proofs.YtecimagjeelgbaaDoor.TT

theorem fresh_none (m : Nat) : freshI (m : Int) (m : Int) = [] := by
  rw [List.eq_nil_iff_forall_not_mem]
  intro x hx
  obtain ⟨n, _, _, _, h, _⟩ := mem_fresh.1 hx
  rw [Nat.xor_self, Nat.zero_and] at h
  exact h rfl
theorem rekey_none (m : Nat) (g : List ByteArray) (first : Nat) (hf : first < 65536) : rekeyF (m : Int) (m : Int) g (first : Int) = (newKeys (m : Int) [] g (first : Int), [], 0) := by
  unfold rekeyF
  rw [fresh_none]
  have : pairsL (m : Int) [] = [] := rfl
  rw [this]
  simp only [List.any_nil, List.length_nil, List.map_nil]
  rw [if_neg (by decide), if_neg (by omega), if_neg (by decide)]
theorem none_key (m : Nat) (g : List ByteArray) (first : Int) (n : Nat) (h1 : 1 ≤ n) (hn : n < 32) : key (newKeys (m : Int) [] g first) n = if belowI (m : Int) (n : Int) ≠ 0 then key g n else ByteArray.empty := by
  rw [new_key (m : Int) [] (fun n h => by cases h) List.nodup_nil g first n hn, if_neg (by simp)]
  by_cases hb : belowI (m : Int) (n : Int) ≠ 0
  · rw [if_pos hb, if_pos ⟨h1, hb⟩]
  · rw [if_neg hb, if_neg (fun h => hb h.2)]
theorem rbelow_calls (s : Nat) (hs : s < 65536) (node : Int) (w : World) :
    Calls Tryd.prog 21 #[.int .u16 (s : Int), .int .i64 node] w fun e w' => e = .returned (.int .u16 (belowI (s : Int) node)) ∧ RowKit.Below w.heap.size w w' := by
  obtain ⟨K, hK⟩ := rbelow_f s hs node
  exact (chantryref14_Below.calls K _ _ _ w (hK K (Nat.le_refl _))).mono (fun e w' h => ⟨h.1, by first | exact h.2 | exact h.2.below⟩)
attribute [local go_sem] beq_self_eq_true bne_self_eq_false   -- for this text's walk alone
set_option maxHeartbeats 8000000 in
set_option maxRecDepth 100000 in
theorem PathNothing (m first id : Nat) (hm : m < 65536) (hfi : first < 65536) (hid : id ≤ 255) (w : World) (HT0 : TabAt w) :
    Calls Tryd.prog 7 #[.int .u16 (m : Int), .int .u16 (first : Int), .int .u8 (id : Int)] w fun e w' => e = .returned (.bool true) ∧ RowKit.Below w.heap.size w w' := by
  have hz := zero30
  have hcz := cellsZ
  obtain ⟨g2, hgood⟩ := grown_good m hm
  have hgr := fun w HT => grown_any m hm w HT
  rw [g2] at hgr
  have lg := hgood.len
  clear g2 hgood
  generalize (grownF (m : Int)).1 = g at hgr lg
  have hrk := fun w HT => rekey_any g lg m m hm hm first hfi w HT
  rw [rekey_none m g first hfi] at hrk
  dsimp only at hrk
  have lx := newKeys_len (m : Int) [] g (first : Int)
  have hxk := fun n h1 hn => none_key m g (first : Int) n h1 hn
  generalize newKeys (m : Int) [] g (first : Int) = x at hrk lx hxk
  have hog := own_any g lg (id : Int) (by omega) (by omega)
  have lm := ownF_len g (pathI (id : Int))
  generalize ownF g (pathI (id : Int)) = mine at hog lm
  have hln := fun w => learn_any mine lm none 0 [] (by simp) w (Kd.C_of_reads (d := ByteArray.empty) ⟨rfl, by simp, fun h => absurd h (by simp)⟩) (Nat.le_refl _)
  rw [show learnF mine [] = (mine, 0) from rfl] at hln
  simp only [List.length_nil, show ((0 : Nat) : Int) = 0 from rfl] at hln
  have HXK := Lib.hid hxk
  clear hxk
  have hbl := rbelow_calls m hm
  have hal := alive_any
  have HT1 := Lib.hid HT0
  clear HT0
  go_enter Tryd.func7, Tryd.ntmps7
  go_wp2_with fail
  refine (hal w HT1.out).mono ?_
  rintro e w1 ⟨rfl, hb1⟩
  have HB := Lib.hid hb1
  clear hb1 hal
  go_wp2_with fail
  refine (hgr w1 (TabAt.below HT1.out (Nat.le_refl _) HB.out)).mono ?_
  rintro e w2 ⟨rfl, hb⟩
  replace HB := Lib.hid (HB.out.trans (hb.mono HB.out.size))
  clear hb
  clear hgr
  have HN0 := Lib.hid (KA.new 30 w2 noKeys noKeys_len Z32 rfl)
  have HBN := Lib.hid (HB.out.alloc HB.out.size (.cells Z32 30))
  have hsza : w.heap.size ≤ w2.heap.size := HB.out.size
  go_wp2_with (first | (refine wpList_store_row rfl 30 (.tmp 7) (.tmp 20) rfl _ _ rfl rfl _ _ HN0.out.1 (size_info _ g lg s30) (by rw [KA.rowSize HN0.out.2, KA.rowSize lg]) (one_string _) ?_; clear HB; have HG := Lib.hid (HN0.out.row g lg); have HB := Lib.hid (below_setRow HBN.out hsza (g.map Value.string).toArray); clear HN0 HBN; generalize (w2.alloc (.cells Z32 30)).setRow w2.heap.size (g.map Value.string).toArray = Va at HG HB ⊢) | (refine wpList_load_row rfl 30 (.tmp 7) rfl _ rfl _ _ _ _ HG.out.1 Tryd.underlying30 rfl (size_info _ _ HG.out.2 s30) ?_))
  refine (hrk _ (TabAt.below HT1.out (Nat.le_refl _) HB.out)).mono ?_
  rintro e w3 ⟨v, rfl, hr, hb⟩
  obtain ⟨A, cp, ev⟩ := Kd.R_slice hr
  subst ev
  clear hr hrk
  replace HG := Lib.hid (HG.out.after hb)
  replace HB := Lib.hid (HB.out.trans (hb.mono HB.out.size))
  clear hb
  have HN0 := Lib.hid (KA.new 30 w3 noKeys noKeys_len Z32 rfl)
  have HBN := Lib.hid (HB.out.alloc HB.out.size (.cells Z32 30))
  have hszb : w.heap.size ≤ w3.heap.size := HB.out.size
  have hneGb : w2.heap.size < w3.heap.size := HG.out.lt
  have HNG := Lib.hid (HG.out.alloc (.cells Z32 30))
  go_wp2_with (first | (refine wpList_store_row rfl 30 (.tmp 9) (.tmp 28) rfl _ _ rfl rfl _ _ HN0.out.1 (size_info _ x lx s30) (by rw [KA.rowSize HN0.out.2, KA.rowSize lx]) (one_string _) ?_; clear HB HG; have HX := Lib.hid (HN0.out.row x lx); have HB := Lib.hid (below_setRow HBN.out hszb (x.map Value.string).toArray); have HG := Lib.hid (HNG.out.setRow_other (show w2.heap.size ≠ w3.heap.size by omega) (x.map Value.string).toArray); clear HN0 HBN HNG; generalize (w3.alloc (.cells Z32 30)).setRow w3.heap.size (x.map Value.string).toArray = Vb at HG HX HB ⊢) | (refine wpList_load_row rfl 30 (.tmp 7) rfl _ rfl _ _ _ _ HG.out.1 Tryd.underlying30 rfl (size_info _ _ HG.out.2 s30) ?_))
  refine (hog _).mono ?_
  rintro e w4 ⟨rfl, hb⟩
  replace HG := Lib.hid (HG.out.after hb)
  replace HX := Lib.hid (HX.out.after hb)
  replace HB := Lib.hid (HB.out.trans (hb.mono HB.out.size))
  clear hb
  go_wp2_with fail
  refine (hln _).mono ?_
  rintro e w5 ⟨rfl, hb⟩
  replace HG := Lib.hid (HG.out.after hb)
  replace HX := Lib.hid (HX.out.after hb)
  replace HB := Lib.hid (HB.out.trans (hb.mono HB.out.size))
  clear hb
  have HN0 := Lib.hid (KA.new 30 w5 noKeys noKeys_len Z32 rfl)
  have HBN := Lib.hid (HB.out.alloc HB.out.size (.cells Z32 30))
  have hszc : w.heap.size ≤ w5.heap.size := HB.out.size
  have hneGc : w2.heap.size < w5.heap.size := HG.out.lt
  have HNG := Lib.hid (HG.out.alloc (.cells Z32 30))
  have hneXc : w3.heap.size < w5.heap.size := HX.out.lt
  have HNX := Lib.hid (HX.out.alloc (.cells Z32 30))
  go_wp2_with (first | (refine wpList_store_row rfl 30 (.tmp 12) (.tmp 36) rfl _ _ rfl rfl _ _ HN0.out.1 (size_info _ mine lm s30) (by rw [KA.rowSize HN0.out.2, KA.rowSize lm]) (one_string _) ?_; clear HB HG HX; have HM := Lib.hid (HN0.out.row mine lm); have HB := Lib.hid (below_setRow HBN.out hszc (mine.map Value.string).toArray); have HG := Lib.hid (HNG.out.setRow_other (show w2.heap.size ≠ w5.heap.size by omega) (mine.map Value.string).toArray); have HX := Lib.hid (HNX.out.setRow_other (show w3.heap.size ≠ w5.heap.size by omega) (mine.map Value.string).toArray); clear HN0 HBN HNG HNX; generalize (w5.alloc (.cells Z32 30)).setRow w5.heap.size (mine.map Value.string).toArray = Vc at HG HX HM HB ⊢))
  have hE := ne_ks 30 Tryd.underlying30 mine lm
  have hG := guard30
  have crm : Vc.rangeAt (w5.heap.size) 0 (mine.map Value.string) := HM.out.range
  have crg : Vc.rangeAt (w2.heap.size) 0 (g.map Value.string) := HG.out.range
  have hlam : (Tryd.prog.info? 30).map (·.size) = some (mine.map Value.string).length := by rw [List.length_map, lm]; exact s30
  have hlag : (Tryd.prog.info? 30).map (·.size) = some (g.map Value.string).length := by rw [List.length_map, lg]; exact s30
  have hua := Tryd.underlying30
  have HSt : ∀ w1 w' : World, (RowKit.Below Vc.heap.size Vc w1 ∧ w1.rangeAt (w5.heap.size) 0 (mine.map Value.string) ∧ w1.rangeAt (w2.heap.size) 0 (g.map Value.string)) → RowKit.Below w1.heap.size w1 w' → (RowKit.Below Vc.heap.size Vc w' ∧ w'.rangeAt (w5.heap.size) 0 (mine.map Value.string) ∧ w'.rangeAt (w2.heap.size) 0 (g.map Value.string)) := by
    rintro w1 w' ⟨h1, _⟩ hb
    have h6 := h1.trans (hb.mono h1.size)
    exact ⟨h6, (HM.out.after h6).range, (HG.out.after h6).range⟩
  have hB0 := RowKit.Below.refl Vc.heap.size Vc
  clear hz hcz hln
  unfold KV at hog
  refine wp_region_noPanic ?_
  refine wp_region_held_drew (S := (fun w' => RowKit.Below Vc.heap.size Vc w' ∧ w'.rangeAt (w5.heap.size) 0 (mine.map Value.string) ∧ w'.rangeAt (w2.heap.size) 0 (g.map Value.string))) (by kernel_rfl) (HSt Vc _ ⟨hB0, crm, crg⟩ ((RowKit.Below.refl _ _).drew)) (fun hHeld => ?_)
  refine wpAnyH_take (oi := ⟨_, _, _, _, _, _⟩) (i := 0) (v := ?_) rfl (by kernel_rfl) (by kernel_rfl) (by kernel_rfl) (fun _ _ _ h => h) (Or.inl ⟨by rfl, ?_⟩) (by assumption) ?_
  rotate_left
  · intro w hSw; (try dsimp only at hSw); first | (go_simp; done) | (go_simp; with_reducible rfl)
  try simp only [Act.put, List.setIfInBounds_toArray, List.set_cons_zero, List.set_cons_succ]
  refine wpAnyH_take (oi := ⟨_, _, _, _, _, _⟩) (i := 1) (v := ?_) rfl (by kernel_rfl) (by kernel_rfl) (by kernel_rfl) (fun _ _ _ h => h) (Or.inl ⟨by rfl, ?_⟩) (by assumption) ?_
  rotate_left
  · intro w hSw; (try dsimp only at hSw); first | (go_simp; done) | (go_simp; with_reducible rfl)
  try simp only [Act.put, List.setIfInBounds_toArray, List.set_cons_zero, List.set_cons_succ]
  refine wpAnyH_take (oi := ⟨_, _, _, _, _, _⟩) (i := 2) (v := ?_) rfl (by kernel_rfl) (by kernel_rfl) (by kernel_rfl) (fun _ _ _ h => h) (Or.inl ⟨by rfl, ?_⟩) (by assumption) ?_
  rotate_left
  · intro w hSw; (try dsimp only at hSw); first | (go_simp; done) | (go_simp; with_reducible rfl)
  try simp only [Act.put, List.setIfInBounds_toArray, List.set_cons_zero, List.set_cons_succ]
  refine wpAnyH_take (oi := ⟨_, _, _, _, _, _⟩) (i := 3) (v := ?_) rfl (by kernel_rfl) (by kernel_rfl) (by kernel_rfl) (fun _ _ _ h => h) (Or.inl ⟨by rfl, ?_⟩) (by assumption) ?_
  rotate_left
  · intro w hSw; (try dsimp only at hSw); first | (go_simp; done) | (go_simp; with_reducible rfl)
  try simp only [Act.put, List.setIfInBounds_toArray, List.set_cons_zero, List.set_cons_succ]
  refine wpAnyH_take (oi := ⟨_, _, _, _, _, _⟩) (i := 4) (v := ?_) rfl (by kernel_rfl) (by kernel_rfl) (by kernel_rfl) (fun _ _ _ h => h) (Or.inl ⟨by rfl, ?_⟩) (by assumption) ?_
  rotate_left
  · intro w hSw; (try dsimp only at hSw); first | (go_simp; done) | (go_simp; with_reducible rfl)
  try simp only [Act.put, List.setIfInBounds_toArray, List.set_cons_zero, List.set_cons_succ]
  refine wpAnyH_take (oi := ⟨_, _, _, _, _, _⟩) (i := 5) (v := ?_) rfl (by kernel_rfl) (by kernel_rfl) (by kernel_rfl) (fun _ _ _ h => h) (Or.inl ⟨by rfl, ?_⟩) (by assumption) ?_
  rotate_left
  · intro w hSw; (try dsimp only at hSw); first | (go_simp; done) | (go_simp; with_reducible rfl)
  try simp only [Act.put, List.setIfInBounds_toArray, List.set_cons_zero, List.set_cons_succ]
  refine wpAnyH_take (oi := ⟨_, _, _, _, _, _⟩) (i := 6) (v := ?_) rfl (by kernel_rfl) (by kernel_rfl) (by kernel_rfl) (fun _ _ _ h => h) (Or.inl ⟨by rfl, ?_⟩) (by assumption) ?_
  rotate_left
  · intro w hSw; (try dsimp only at hSw); first | (go_simp; done) | (go_simp; with_reducible rfl)
  try simp only [Act.put, List.setIfInBounds_toArray, List.set_cons_zero, List.set_cons_succ]
  refine wpAnyH_take (oi := ⟨_, _, _, _, _, _⟩) (i := 7) (v := ?_) rfl (by kernel_rfl) (by kernel_rfl) (by kernel_rfl) (fun _ _ _ h => h) (Or.inl ⟨by rfl, ?_⟩) (by assumption) ?_
  rotate_left
  · intro w hSw; (try dsimp only at hSw); first | (go_simp; done) | (go_simp; with_reducible rfl)
  try simp only [Act.put, List.setIfInBounds_toArray, List.set_cons_zero, List.set_cons_succ]
  refine wpAnyH_take (oi := ⟨_, _, _, _, _, _⟩) (i := 8) (v := ?_) rfl (by kernel_rfl) (by kernel_rfl) (by kernel_rfl) (fun _ _ _ h => h) (Or.inl ⟨by rfl, ?_⟩) (by assumption) ?_
  rotate_left
  · intro w hSw; (try dsimp only at hSw); first | (go_simp; done) | (go_simp; with_reducible rfl)
  try simp only [Act.put, List.setIfInBounds_toArray, List.set_cons_zero, List.set_cons_succ]
  refine wpAnyH_take (oi := ⟨_, _, _, _, _, _⟩) (i := 9) (v := ?_) rfl (by kernel_rfl) (by kernel_rfl) (by kernel_rfl) (fun _ _ _ h => h) (Or.inl ⟨by rfl, ?_⟩) (by assumption) ?_
  rotate_left
  · intro w hSw; (try dsimp only at hSw); first | (go_simp; done) | (go_simp; with_reducible rfl)
  try simp only [Act.put, List.setIfInBounds_toArray, List.set_cons_zero, List.set_cons_succ]
  refine wpAnyH_take (oi := ⟨_, _, _, _, _, _⟩) (i := 10) (v := ?_) rfl (by kernel_rfl) (by kernel_rfl) (by kernel_rfl) (fun _ _ _ h => h) (Or.inl ⟨by rfl, ?_⟩) (by assumption) ?_
  rotate_left
  · intro w hSw; (try dsimp only at hSw); first | (go_simp; done) | (go_simp; with_reducible rfl)
  try simp only [Act.put, List.setIfInBounds_toArray, List.set_cons_zero, List.set_cons_succ]
  refine wpAnyH_take (oi := ⟨_, _, _, _, _, _⟩) (i := 11) (v := ?_) rfl (by kernel_rfl) (by kernel_rfl) (by kernel_rfl) (fun _ _ _ h => h) (Or.inl ⟨by rfl, ?_⟩) (by assumption) ?_
  rotate_left
  · intro w hSw; (try dsimp only at hSw); first | (go_simp; done) | (go_simp; with_reducible rfl)
  try simp only [Act.put, List.setIfInBounds_toArray, List.set_cons_zero, List.set_cons_succ]
  refine wpAnyH_take (oi := ⟨_, _, _, _, _, _⟩) (i := 12) (v := ?_) rfl (by kernel_rfl) (by kernel_rfl) (by kernel_rfl) (fun _ _ _ h => h) (Or.inl ⟨by rfl, ?_⟩) (by assumption) ?_
  rotate_left
  · intro w hSw; (try dsimp only at hSw); first | (go_simp; done) | (go_simp; with_reducible rfl)
  try simp only [Act.put, List.setIfInBounds_toArray, List.set_cons_zero, List.set_cons_succ]
  refine wpAnyH_take (oi := ⟨_, _, _, _, _, _⟩) (i := 13) (v := ?_) rfl (by kernel_rfl) (by kernel_rfl) (by kernel_rfl) (fun _ _ _ h => h) (Or.inl ⟨by rfl, ?_⟩) (by assumption) ?_
  rotate_left
  · intro w hSw; (try dsimp only at hSw); first | (go_simp; done) | (go_simp; with_reducible rfl)
  try simp only [Act.put, List.setIfInBounds_toArray, List.set_cons_zero, List.set_cons_succ]
  refine wpAnyH_take (oi := ⟨_, _, _, _, _, _⟩) (i := 14) (v := ?_) rfl (by kernel_rfl) (by kernel_rfl) (by kernel_rfl) (fun _ _ _ h => h) (Or.inl ⟨by rfl, ?_⟩) (by assumption) ?_
  rotate_left
  · intro w hSw; (try dsimp only at hSw); first | (go_simp; done) | (go_simp; with_reducible rfl)
  try simp only [Act.put, List.setIfInBounds_toArray, List.set_cons_zero, List.set_cons_succ]
  refine wpAnyH_take (oi := ⟨_, _, _, _, _, _⟩) (i := 15) (v := ?_) rfl (by kernel_rfl) (by kernel_rfl) (by kernel_rfl) (fun _ _ _ h => h) (Or.inl ⟨by rfl, ?_⟩) (by assumption) ?_
  rotate_left
  · intro w hSw; (try dsimp only at hSw); first | (go_simp; done) | (go_simp; with_reducible rfl)
  try simp only [Act.put, List.setIfInBounds_toArray, List.set_cons_zero, List.set_cons_succ]
  refine wpAnyH_take (oi := ⟨_, _, _, _, _, _⟩) (i := 16) rfl (by kernel_rfl) (by kernel_rfl) (by kernel_rfl) (fun _ _ _ h => h) (yieldsIf_load_mid (by rfl) 30 (.tmp 12) rfl (w5.heap.size) 0 rfl (mine.map Value.string) _ (fun w h => h.2.1) hua rfl hlam) (by assumption) ?_
  try simp only [Act.put, List.setIfInBounds_toArray, List.set_cons_zero, List.set_cons_succ]
  refine wpAnyH_take (oi := ⟨_, _, _, _, _, _⟩) (i := 17) rfl (by kernel_rfl) (by kernel_rfl) (by kernel_rfl) (fun _ _ _ h => h) (yieldsIf_load_mid (by rfl) 30 (.tmp 7) rfl (w2.heap.size) 0 rfl (g.map Value.string) _ (fun w h => h.2.2) hua rfl hlag) (by assumption) ?_
  try simp only [Act.put, List.setIfInBounds_toArray, List.set_cons_zero, List.set_cons_succ]
  refine wpAnyH_take (oi := ⟨_, _, _, _, _, _⟩) (i := 18) (v := ?_) rfl (by kernel_rfl) (by kernel_rfl) (by kernel_rfl) (fun _ _ _ h => h) (Or.inl ⟨by rfl, ?_⟩) (by assumption) ?_
  rotate_left
  · intro w hSw; (try dsimp only at hSw); first | (go_simp; done) | (go_simp; with_reducible rfl)
  try simp only [Act.put, List.setIfInBounds_toArray, List.set_cons_zero, List.set_cons_succ]
  refine wpAnyH_ready (rs := [19]) (by kernel_rfl) (by simp) ?_
  refine AllReadyH.cons (o := ⟨_, _, _, _, _, _⟩) rfl (fun K hK => ?_) AllReadyH.nil
  go_simp
  refine (hog _).mono ?_; rintro e w' ⟨rfl, hb⟩; (try go_wp2_with fail)
  refine hK.out _ _ (HSt _ _ hHeld hb) (fun hHeld => ?_)
  clear hK K
  try simp only [Act.put, List.setIfInBounds_toArray, List.set_cons_zero, List.set_cons_succ]
  refine wpAnyH_take (oi := ⟨_, _, _, _, _, _⟩) (i := 20) (v := ?_) rfl (by kernel_rfl) (by kernel_rfl) (by kernel_rfl) (fun _ _ _ h => h) (Or.inl ⟨by rfl, ?_⟩) (by assumption) ?_
  rotate_left
  · intro w hSw; (try dsimp only at hSw); first | (go_simp; done) | (go_simp; with_reducible rfl)
  try simp only [Act.put, List.setIfInBounds_toArray, List.set_cons_zero, List.set_cons_succ]
  refine wpAnyH_take (oi := ⟨_, _, _, _, _, _⟩) (i := 21) (v := ?_) rfl (by kernel_rfl) (by kernel_rfl) (by kernel_rfl) (fun _ _ _ h => h) (Or.inl ⟨by rfl, ?_⟩) (by assumption) ?_
  rotate_left
  · intro w hSw; (try dsimp only at hSw); first | (go_simp; done) | (go_simp; with_reducible rfl)
  try simp only [Act.put, List.setIfInBounds_toArray, List.set_cons_zero, List.set_cons_succ]
  refine wpAnyH_done (by kernel_rfl) ?_ _
  refine NoPanic.normal ?_
  have HB2 := Lib.hid (HB.out.trans (hHeld.1.mono HB.out.size))
  have HG2 := Lib.hid (HG.out.after hHeld.1); have HX2 := Lib.hid (HX.out.after hHeld.1)
  clear HB HG HX HM HSt hB0 crm crg hlam hlag hE hHeld
  go_wp2_with fail
  go_loopw [14] (fun i wl => ∃ j : Nat, j ≤ 31 ∧ i = .int .i64 ((1 + j : Nat) : Int) ∧ RowKit.Below w.heap.size w wl ∧ KA 30 wl (w2.heap.size) g ∧ KA 30 wl (w3.heap.size) x) (fun i _ => 32 - (intOf i).toNat)
  case atStart => exact ⟨0, Nat.zero_le _, rfl, HB2.out, HG2.out, HX2.out⟩
  case round =>
    clear HB2 HG2 HX2
    obtain ⟨j, hj, rfl, hbel, hg, hx⟩ := hrel
    have HB := Lib.hid hbel; have HG := Lib.hid hg; have HX := Lib.hid hx
    clear hbel hg hx
    by_cases hlt : j < 31
    · have hbw := hbl ((1 + j : Nat) : Int)
      have hkx := HXK.out (1 + j) (by omega) (by omega)
      have cx := HX.out.cell (j := 1 + j) (by omega)
      have cg := HG.out.cell (j := 1 + j) (by omega)
      rw [hkx] at cx
      clear hkx
      generalize hbq : belowI (m : Int) ((1 + j : Nat) : Int) = b at hbw cx
      clear hbq
      obtain ⟨jj, hjj⟩ : ∃ jj : Nat, jj = 1 + j := ⟨_, rfl⟩
      have hj1 : jj < 32 := by omega
      have hi0 : (0 : Int) ≤ (jj : Int) := by omega
      have hi1 : (jj : Int) < 32 := by omega
      rw [← hjj] at hbw cx cg ⊢
      have HJ := Lib.hid hjj
      clear hjj
      generalize key g jj = t at cx cg
      have hB0 := RowKit.Below.refl wr.heap.size wr
      by_cases hb0 : b = 0
      · subst hb0
        rw [if_neg (by simp)] at cx
        have HSt : ∀ w1 w' : World, (RowKit.Below wr.heap.size wr w1 ∧ w1.cell? ⟨w3.heap.size, jj, none⟩ = some (.string ByteArray.empty) ∧ w1.cell? ⟨w2.heap.size, jj, none⟩ = some (.string t)) → RowKit.Below w1.heap.size w1 w' → (RowKit.Below wr.heap.size wr w' ∧ w'.cell? ⟨w3.heap.size, jj, none⟩ = some (.string ByteArray.empty) ∧ w'.cell? ⟨w2.heap.size, jj, none⟩ = some (.string t)) := by
          rintro w1 w' ⟨h1, _⟩ hb
          have h6 := h1.trans (hb.mono h1.size)
          exact ⟨h6, (h6.cell (p := ⟨w3.heap.size, jj, none⟩) HX.out.lt).trans cx, (h6.cell (p := ⟨w2.heap.size, jj, none⟩) HG.out.lt).trans cg⟩
        go_wp2_with fail
        refine wp_region_noPanic ?_
        refine wp_region_held_drew (S := (fun w' => RowKit.Below wr.heap.size wr w' ∧ w'.cell? ⟨w3.heap.size, jj, none⟩ = some (.string ByteArray.empty) ∧ w'.cell? ⟨w2.heap.size, jj, none⟩ = some (.string t))) (by kernel_rfl) (HSt wr _ ⟨hB0, cx, cg⟩ ((RowKit.Below.refl _ _).drew)) (fun hHeld => ?_)
        refine wpAnyH_take (oi := ⟨_, _, _, _, _, _⟩) (i := 0) (v := ?_) rfl (by kernel_rfl) (by kernel_rfl) (by kernel_rfl) (fun _ _ _ h => h) (Or.inl ⟨by rfl, ?_⟩) (by assumption) ?_
        rotate_left
        · intro w hSw; (try dsimp only at hSw); first | (go_simp; done) | (go_simp; with_reducible rfl)
        try simp only [Act.put, List.setIfInBounds_toArray, List.set_cons_zero, List.set_cons_succ]
        refine wpAnyH_take (oi := ⟨_, _, _, _, _, _⟩) (i := 1) (v := ?_) rfl (by kernel_rfl) (by kernel_rfl) (by kernel_rfl) (fun _ _ _ h => h) (Or.inl ⟨by rfl, ?_⟩) (by assumption) ?_
        rotate_left
        · intro w hSw; (try dsimp only at hSw); first | (go_simp; done) | (go_simp; with_reducible rfl)
        try simp only [Act.put, List.setIfInBounds_toArray, List.set_cons_zero, List.set_cons_succ]
        refine wpAnyH_ready (rs := [2]) (by kernel_rfl) (by simp) ?_
        refine AllReadyH.cons (o := ⟨_, _, _, _, _, _⟩) rfl (fun K hK => ?_) AllReadyH.nil
        go_simp
        refine (hbw _).mono ?_; rintro e w' ⟨rfl, hb⟩; (try go_wp2_with fail)
        refine hK.out _ _ (HSt _ _ hHeld hb) (fun hHeld => ?_)
        clear hK K
        try simp only [Act.put, List.setIfInBounds_toArray, List.set_cons_zero, List.set_cons_succ]
        refine wpAnyH_take (oi := ⟨_, _, _, _, _, _⟩) (i := 3) (v := ?_) rfl (by kernel_rfl) (by kernel_rfl) (by kernel_rfl) (fun _ _ _ h => h) (Or.inl ⟨by rfl, ?_⟩) (by assumption) ?_
        rotate_left
        · intro w hSw; (try dsimp only at hSw); first | (go_simp; done) | (go_simp; with_reducible rfl)
        try simp only [Act.put, List.setIfInBounds_toArray, List.set_cons_zero, List.set_cons_succ]
        refine wpAnyH_take (oi := ⟨_, _, _, _, _, _⟩) (i := 4) (v := ?_) rfl (by kernel_rfl) (by kernel_rfl) (by kernel_rfl) (fun _ _ _ h => h) (Or.inl ⟨by rfl, ?_⟩) (by assumption) ?_
        rotate_left
        · intro w hSw; (try dsimp only at hSw); first | (go_simp; done) | (go_simp; with_reducible rfl)
        try simp only [Act.put, List.setIfInBounds_toArray, List.set_cons_zero, List.set_cons_succ]
        refine wpAnyH_take (oi := ⟨_, _, _, _, _, _⟩) (i := 5) rfl (by kernel_rfl) (by kernel_rfl) (by kernel_rfl) (fun _ _ _ h => h) (Or.inr ⟨by rfl, rfl⟩) (by assumption) ?_
        try simp only [Act.put, List.setIfInBounds_toArray, List.set_cons_zero, List.set_cons_succ]
        refine wpAnyH_take (oi := ⟨_, _, _, _, _, _⟩) (i := 6) rfl (by kernel_rfl) (by kernel_rfl) (by kernel_rfl) (fun _ _ _ h => h) (Or.inr ⟨by rfl, rfl⟩) (by assumption) ?_
        try simp only [Act.put, List.setIfInBounds_toArray, List.set_cons_zero, List.set_cons_succ]
        refine wpAnyH_take (oi := ⟨_, _, _, _, _, _⟩) (i := 7) rfl (by kernel_rfl) (by kernel_rfl) (by kernel_rfl) (fun _ _ _ h => h) (Or.inr ⟨by rfl, rfl⟩) (by assumption) ?_
        try simp only [Act.put, List.setIfInBounds_toArray, List.set_cons_zero, List.set_cons_succ]
        refine wpAnyH_take (oi := ⟨_, _, _, _, _, _⟩) (i := 8) rfl (by kernel_rfl) (by kernel_rfl) (by kernel_rfl) (fun _ _ _ h => h) (Or.inr ⟨by rfl, rfl⟩) (by assumption) ?_
        try simp only [Act.put, List.setIfInBounds_toArray, List.set_cons_zero, List.set_cons_succ]
        refine wpAnyH_take (oi := ⟨_, _, _, _, _, _⟩) (i := 9) rfl (by kernel_rfl) (by kernel_rfl) (by kernel_rfl) (fun _ _ _ h => h) (Or.inr ⟨by rfl, rfl⟩) (by assumption) ?_
        try simp only [Act.put, List.setIfInBounds_toArray, List.set_cons_zero, List.set_cons_succ]
        refine wpAnyH_take (oi := ⟨_, _, _, _, _, _⟩) (i := 10) rfl (by kernel_rfl) (by kernel_rfl) (by kernel_rfl) (fun _ _ _ h => h) (Or.inr ⟨by rfl, rfl⟩) (by assumption) ?_
        try simp only [Act.put, List.setIfInBounds_toArray, List.set_cons_zero, List.set_cons_succ]
        refine wpAnyH_take (oi := ⟨_, _, _, _, _, _⟩) (i := 11) rfl (by kernel_rfl) (by kernel_rfl) (by kernel_rfl) (fun _ _ _ h => h) (Or.inr ⟨by rfl, rfl⟩) (by assumption) ?_
        try simp only [Act.put, List.setIfInBounds_toArray, List.set_cons_zero, List.set_cons_succ]
        refine wpAnyH_take (oi := ⟨_, _, _, _, _, _⟩) (i := 12) (v := ?_) rfl (by kernel_rfl) (by kernel_rfl) (by kernel_rfl) (fun _ _ _ h => h) (Or.inl ⟨by rfl, ?_⟩) (by assumption) ?_
        rotate_left
        · intro w hSw; (try dsimp only at hSw); first | (go_simp; done) | (go_simp; with_reducible rfl)
        try simp only [Act.put, List.setIfInBounds_toArray, List.set_cons_zero, List.set_cons_succ]
        refine wpAnyH_take (oi := ⟨_, _, _, _, _, _⟩) (i := 13) (v := ?_) rfl (by kernel_rfl) (by kernel_rfl) (by kernel_rfl) (fun _ _ _ h => h) (Or.inl ⟨by rfl, ?_⟩) (by assumption) ?_
        rotate_left
        · intro w hSw; (try dsimp only at hSw); first | (go_simp; done) | (go_simp; with_reducible rfl)
        try simp only [Act.put, List.setIfInBounds_toArray, List.set_cons_zero, List.set_cons_succ]
        refine wpAnyH_take (oi := ⟨_, _, _, _, _, _⟩) (i := 14) (v := ?_) rfl (by kernel_rfl) (by kernel_rfl) (by kernel_rfl) (fun _ _ _ h => h) (Or.inl ⟨by rfl, ?_⟩) (by assumption) ?_
        rotate_left
        · intro w hSw; (try dsimp only at hSw); first | (go_simp; done) | (go_simp; with_reducible rfl)
        try simp only [Act.put, List.setIfInBounds_toArray, List.set_cons_zero, List.set_cons_succ]
        refine wpAnyH_take (oi := ⟨_, _, _, _, _, _⟩) (i := 15) (v := ?_) rfl (by kernel_rfl) (by kernel_rfl) (by kernel_rfl) (fun _ _ _ h => h) (Or.inl ⟨by rfl, ?_⟩) (by assumption) ?_
        rotate_left
        · intro w hSw; (try dsimp only at hSw); first | (go_simp; done) | (go_simp; with_reducible rfl)
        try simp only [Act.put, List.setIfInBounds_toArray, List.set_cons_zero, List.set_cons_succ]
        refine wpAnyH_ready (rs := [16]) (by kernel_rfl) (by simp) ?_
        refine AllReadyH.cons (o := ⟨_, _, _, _, _, _⟩) rfl (fun K hK => ?_) AllReadyH.nil
        go_simp
        refine (hbw _).mono ?_; rintro e w' ⟨rfl, hb⟩; (try go_wp2_with fail)
        refine hK.out _ _ (HSt _ _ hHeld hb) (fun hHeld => ?_)
        clear hK K
        try simp only [Act.put, List.setIfInBounds_toArray, List.set_cons_zero, List.set_cons_succ]
        refine wpAnyH_take (oi := ⟨_, _, _, _, _, _⟩) (i := 17) (v := ?_) rfl (by kernel_rfl) (by kernel_rfl) (by kernel_rfl) (fun _ _ _ h => h) (Or.inl ⟨by rfl, ?_⟩) (by assumption) ?_
        rotate_left
        · intro w hSw; (try dsimp only at hSw); first | (go_simp; done) | (go_simp; with_reducible rfl)
        try simp only [Act.put, List.setIfInBounds_toArray, List.set_cons_zero, List.set_cons_succ]
        refine wpAnyH_take (oi := ⟨_, _, _, _, _, _⟩) (i := 18) (v := ?_) rfl (by kernel_rfl) (by kernel_rfl) (by kernel_rfl) (fun _ _ _ h => h) (Or.inl ⟨by rfl, ?_⟩) (by assumption) ?_
        rotate_left
        · intro w hSw; (try dsimp only at hSw); first | (go_simp; done) | (go_simp; with_reducible rfl)
        try simp only [Act.put, List.setIfInBounds_toArray, List.set_cons_zero, List.set_cons_succ]
        refine wpAnyH_take (oi := ⟨_, _, _, _, _, _⟩) (i := 19) (v := ?_) rfl (by kernel_rfl) (by kernel_rfl) (by kernel_rfl) (fun _ _ _ h => h) (Or.inl ⟨by rfl, ?_⟩) (by assumption) ?_
        rotate_left
        · intro w hSw; (try dsimp only at hSw); first | (go_simp; done) | (go_simp; with_reducible rfl)
        try simp only [Act.put, List.setIfInBounds_toArray, List.set_cons_zero, List.set_cons_succ]
        refine wpAnyH_take (oi := ⟨_, _, _, _, _, _⟩) (i := 20) (v := ?_) rfl (by kernel_rfl) (by kernel_rfl) (by kernel_rfl) (fun _ _ _ h => h) (Or.inl ⟨by rfl, ?_⟩) (by assumption) ?_
        rotate_left
        · intro w hSw; (try dsimp only at hSw); first | (go_simp; done) | (go_simp; with_reducible rfl)
        try simp only [Act.put, List.setIfInBounds_toArray, List.set_cons_zero, List.set_cons_succ]
        refine wpAnyH_take (oi := ⟨_, _, _, _, _, _⟩) (i := 21) (v := ?_) rfl (by kernel_rfl) (by kernel_rfl) (by kernel_rfl) (fun _ _ _ h => h) (Or.inl ⟨by rfl, ?_⟩) (by assumption) ?_
        rotate_left
        · intro w hSw; (try dsimp only at hSw); first | (go_simp; done) | (go_simp; with_reducible rfl)
        try simp only [Act.put, List.setIfInBounds_toArray, List.set_cons_zero, List.set_cons_succ]
        refine wpAnyH_take (oi := ⟨_, _, _, _, _, _⟩) (i := 22) (v := .bool false) rfl (by kernel_rfl) (by kernel_rfl) (by kernel_rfl) (fun _ _ _ h => h) (Or.inl ⟨by rfl, ?_⟩) (by assumption) ?_
        · intro w hSw; (try dsimp only at hSw); first | (go_simp; done) | (go_simp; simp [empty_list]; done) | (simp [empty_list]; done)
        try simp only [Act.put, List.setIfInBounds_toArray, List.set_cons_zero, List.set_cons_succ]
        refine wpAnyH_take (oi := ⟨_, _, _, _, _, _⟩) (i := 23) (v := ?_) rfl (by kernel_rfl) (by kernel_rfl) (by kernel_rfl) (fun _ _ _ h => h) (Or.inl ⟨by rfl, ?_⟩) (by assumption) ?_
        rotate_left
        · intro w hSw; (try dsimp only at hSw); first | (go_simp; done) | (go_simp; with_reducible rfl)
        try simp only [Act.put, List.setIfInBounds_toArray, List.set_cons_zero, List.set_cons_succ]
        refine wpAnyH_take (oi := ⟨_, _, _, _, _, _⟩) (i := 24) (v := ?_) rfl (by kernel_rfl) (by kernel_rfl) (by kernel_rfl) (fun _ _ _ h => h) (Or.inl ⟨by rfl, ?_⟩) (by assumption) ?_
        rotate_left
        · intro w hSw; (try dsimp only at hSw); first | (go_simp; done) | (go_simp; with_reducible rfl)
        try simp only [Act.put, List.setIfInBounds_toArray, List.set_cons_zero, List.set_cons_succ]
        refine wpAnyH_done (by kernel_rfl) ?_ _
        refine NoPanic.normal ?_
        have HB3 := Lib.hid (HB.out.trans (hHeld.1.mono HB.out.size))
        have HG3 := Lib.hid (HG.out.after hHeld.1); have HX3 := Lib.hid (HX.out.after hHeld.1)
        clear hHeld HSt hB0 HB HG HX cx cg
        have hem : ByteArray.empty.toList = [] := empty_list
        go_wp2_with fail
        go_roundw
        case rel => exact ⟨j + 1, by omega, by have := HJ.out; simp; omega, HB3.out, HG3.out, HX3.out⟩
        case measure => simp [intOf]; omega
      · rw [if_pos hb0] at cx
        have hbt : (b != 0) = true := by simpa using hb0
        have hbf : (b == 0) = false := by simpa using hb0
        have HSt : ∀ w1 w' : World, (RowKit.Below wr.heap.size wr w1 ∧ w1.cell? ⟨w3.heap.size, jj, none⟩ = some (.string t) ∧ w1.cell? ⟨w2.heap.size, jj, none⟩ = some (.string t)) → RowKit.Below w1.heap.size w1 w' → (RowKit.Below wr.heap.size wr w' ∧ w'.cell? ⟨w3.heap.size, jj, none⟩ = some (.string t) ∧ w'.cell? ⟨w2.heap.size, jj, none⟩ = some (.string t)) := by
          rintro w1 w' ⟨h1, _⟩ hb
          have h6 := h1.trans (hb.mono h1.size)
          exact ⟨h6, (h6.cell (p := ⟨w3.heap.size, jj, none⟩) HX.out.lt).trans cx, (h6.cell (p := ⟨w2.heap.size, jj, none⟩) HG.out.lt).trans cg⟩
        go_wp2_with fail
        refine wp_region_noPanic ?_
        refine wp_region_held_drew (S := (fun w' => RowKit.Below wr.heap.size wr w' ∧ w'.cell? ⟨w3.heap.size, jj, none⟩ = some (.string t) ∧ w'.cell? ⟨w2.heap.size, jj, none⟩ = some (.string t))) (by kernel_rfl) (HSt wr _ ⟨hB0, cx, cg⟩ ((RowKit.Below.refl _ _).drew)) (fun hHeld => ?_)
        refine wpAnyH_take (oi := ⟨_, _, _, _, _, _⟩) (i := 0) (v := ?_) rfl (by kernel_rfl) (by kernel_rfl) (by kernel_rfl) (fun _ _ _ h => h) (Or.inl ⟨by rfl, ?_⟩) (by assumption) ?_
        rotate_left
        · intro w hSw; (try dsimp only at hSw); first | (go_simp; done) | (go_simp; with_reducible rfl)
        try simp only [Act.put, List.setIfInBounds_toArray, List.set_cons_zero, List.set_cons_succ]
        refine wpAnyH_take (oi := ⟨_, _, _, _, _, _⟩) (i := 1) (v := ?_) rfl (by kernel_rfl) (by kernel_rfl) (by kernel_rfl) (fun _ _ _ h => h) (Or.inl ⟨by rfl, ?_⟩) (by assumption) ?_
        rotate_left
        · intro w hSw; (try dsimp only at hSw); first | (go_simp; done) | (go_simp; with_reducible rfl)
        try simp only [Act.put, List.setIfInBounds_toArray, List.set_cons_zero, List.set_cons_succ]
        refine wpAnyH_ready (rs := [2]) (by kernel_rfl) (by simp) ?_
        refine AllReadyH.cons (o := ⟨_, _, _, _, _, _⟩) rfl (fun K hK => ?_) AllReadyH.nil
        go_simp
        refine (hbw _).mono ?_; rintro e w' ⟨rfl, hb⟩; (try go_wp2_with fail)
        refine hK.out _ _ (HSt _ _ hHeld hb) (fun hHeld => ?_)
        clear hK K
        try simp only [Act.put, List.setIfInBounds_toArray, List.set_cons_zero, List.set_cons_succ]
        refine wpAnyH_take (oi := ⟨_, _, _, _, _, _⟩) (i := 3) (v := .bool true) rfl (by kernel_rfl) (by kernel_rfl) (by kernel_rfl) (fun _ _ _ h => h) (Or.inl ⟨by rfl, ?_⟩) (by assumption) ?_
        · intro w hSw; (try dsimp only at hSw); first | (go_simp; done) | (go_simp; simp [hbt, hbf]; done) | (simp [hbt, hbf]; done)
        try simp only [Act.put, List.setIfInBounds_toArray, List.set_cons_zero, List.set_cons_succ]
        refine wpAnyH_take (oi := ⟨_, _, _, _, _, _⟩) (i := 4) (v := ?_) rfl (by kernel_rfl) (by kernel_rfl) (by kernel_rfl) (fun _ _ _ h => h) (Or.inl ⟨by rfl, ?_⟩) (by assumption) ?_
        rotate_left
        · intro w hSw; (try dsimp only at hSw); first | (go_simp; done) | (go_simp; with_reducible rfl)
        try simp only [Act.put, List.setIfInBounds_toArray, List.set_cons_zero, List.set_cons_succ]
        refine wpAnyH_take (oi := ⟨_, _, _, _, _, _⟩) (i := 5) (v := ?_) rfl (by kernel_rfl) (by kernel_rfl) (by kernel_rfl) (fun _ _ _ h => h) (Or.inl ⟨by rfl, ?_⟩) (by assumption) ?_
        rotate_left
        · intro w hSw; (try dsimp only at hSw); first | (go_simp; done) | (go_simp; with_reducible rfl)
        try simp only [Act.put, List.setIfInBounds_toArray, List.set_cons_zero, List.set_cons_succ]
        refine wpAnyH_take (oi := ⟨_, _, _, _, _, _⟩) (i := 6) (v := ?_) rfl (by kernel_rfl) (by kernel_rfl) (by kernel_rfl) (fun _ _ _ h => h) (Or.inl ⟨by rfl, ?_⟩) (by assumption) ?_
        rotate_left
        · intro w hSw; (try dsimp only at hSw); first | (go_simp; done) | (go_simp; with_reducible rfl)
        try simp only [Act.put, List.setIfInBounds_toArray, List.set_cons_zero, List.set_cons_succ]
        refine wpAnyH_take (oi := ⟨_, _, _, _, _, _⟩) (i := 7) (v := ?_) rfl (by kernel_rfl) (by kernel_rfl) (by kernel_rfl) (fun _ _ _ h => h) (Or.inl ⟨by rfl, ?_⟩) (by assumption) ?_
        rotate_left
        · intro w hSw; (try dsimp only at hSw); first | (go_simp; done) | (go_simp; with_reducible rfl)
        try simp only [Act.put, List.setIfInBounds_toArray, List.set_cons_zero, List.set_cons_succ]
        refine wpAnyH_take (oi := ⟨_, _, _, _, _, _⟩) (i := 8) (v := ?_) rfl (by kernel_rfl) (by kernel_rfl) (by kernel_rfl) (fun _ _ _ h => h) (Or.inl ⟨by rfl, ?_⟩) (by assumption) ?_
        rotate_left
        · intro w hSw; (try dsimp only at hSw); first | (go_simp; done) | (go_simp; with_reducible rfl)
        try simp only [Act.put, List.setIfInBounds_toArray, List.set_cons_zero, List.set_cons_succ]
        refine wpAnyH_take (oi := ⟨_, _, _, _, _, _⟩) (i := 9) (v := ?_) rfl (by kernel_rfl) (by kernel_rfl) (by kernel_rfl) (fun _ _ _ h => h) (Or.inl ⟨by rfl, ?_⟩) (by assumption) ?_
        rotate_left
        · intro w hSw; (try dsimp only at hSw); first | (go_simp; done) | (go_simp; with_reducible rfl)
        try simp only [Act.put, List.setIfInBounds_toArray, List.set_cons_zero, List.set_cons_succ]
        refine wpAnyH_take (oi := ⟨_, _, _, _, _, _⟩) (i := 10) (v := ?_) rfl (by kernel_rfl) (by kernel_rfl) (by kernel_rfl) (fun _ _ _ h => h) (Or.inl ⟨by rfl, ?_⟩) (by assumption) ?_
        rotate_left
        · intro w hSw; (try dsimp only at hSw); first | (go_simp; done) | (go_simp; with_reducible rfl)
        try simp only [Act.put, List.setIfInBounds_toArray, List.set_cons_zero, List.set_cons_succ]
        refine wpAnyH_take (oi := ⟨_, _, _, _, _, _⟩) (i := 11) (v := ?_) rfl (by kernel_rfl) (by kernel_rfl) (by kernel_rfl) (fun _ _ _ h => h) (Or.inl ⟨by rfl, ?_⟩) (by assumption) ?_
        rotate_left
        · intro w hSw; (try dsimp only at hSw); first | (go_simp; done) | (go_simp; with_reducible rfl)
        try simp only [Act.put, List.setIfInBounds_toArray, List.set_cons_zero, List.set_cons_succ]
        refine wpAnyH_take (oi := ⟨_, _, _, _, _, _⟩) (i := 12) (v := ?_) rfl (by kernel_rfl) (by kernel_rfl) (by kernel_rfl) (fun _ _ _ h => h) (Or.inl ⟨by rfl, ?_⟩) (by assumption) ?_
        rotate_left
        · intro w hSw; (try dsimp only at hSw); first | (go_simp; done) | (go_simp; with_reducible rfl)
        try simp only [Act.put, List.setIfInBounds_toArray, List.set_cons_zero, List.set_cons_succ]
        refine wpAnyH_take (oi := ⟨_, _, _, _, _, _⟩) (i := 13) (v := ?_) rfl (by kernel_rfl) (by kernel_rfl) (by kernel_rfl) (fun _ _ _ h => h) (Or.inl ⟨by rfl, ?_⟩) (by assumption) ?_
        rotate_left
        · intro w hSw; (try dsimp only at hSw); first | (go_simp; done) | (go_simp; with_reducible rfl)
        try simp only [Act.put, List.setIfInBounds_toArray, List.set_cons_zero, List.set_cons_succ]
        refine wpAnyH_take (oi := ⟨_, _, _, _, _, _⟩) (i := 14) (v := ?_) rfl (by kernel_rfl) (by kernel_rfl) (by kernel_rfl) (fun _ _ _ h => h) (Or.inl ⟨by rfl, ?_⟩) (by assumption) ?_
        rotate_left
        · intro w hSw; (try dsimp only at hSw); first | (go_simp; done) | (go_simp; with_reducible rfl)
        try simp only [Act.put, List.setIfInBounds_toArray, List.set_cons_zero, List.set_cons_succ]
        refine wpAnyH_take (oi := ⟨_, _, _, _, _, _⟩) (i := 15) (v := ?_) rfl (by kernel_rfl) (by kernel_rfl) (by kernel_rfl) (fun _ _ _ h => h) (Or.inl ⟨by rfl, ?_⟩) (by assumption) ?_
        rotate_left
        · intro w hSw; (try dsimp only at hSw); first | (go_simp; done) | (go_simp; with_reducible rfl)
        try simp only [Act.put, List.setIfInBounds_toArray, List.set_cons_zero, List.set_cons_succ]
        refine wpAnyH_ready (rs := [16]) (by kernel_rfl) (by simp) ?_
        refine AllReadyH.cons (o := ⟨_, _, _, _, _, _⟩) rfl (fun K hK => ?_) AllReadyH.nil
        go_simp
        refine (hbw _).mono ?_; rintro e w' ⟨rfl, hb⟩; (try go_wp2_with fail)
        refine hK.out _ _ (HSt _ _ hHeld hb) (fun hHeld => ?_)
        clear hK K
        try simp only [Act.put, List.setIfInBounds_toArray, List.set_cons_zero, List.set_cons_succ]
        refine wpAnyH_take (oi := ⟨_, _, _, _, _, _⟩) (i := 17) (v := .bool false) rfl (by kernel_rfl) (by kernel_rfl) (by kernel_rfl) (fun _ _ _ h => h) (Or.inl ⟨by rfl, ?_⟩) (by assumption) ?_
        · intro w hSw; (try dsimp only at hSw); first | (go_simp; done) | (go_simp; simp [hbt, hbf]; done) | (simp [hbt, hbf]; done)
        try simp only [Act.put, List.setIfInBounds_toArray, List.set_cons_zero, List.set_cons_succ]
        refine wpAnyH_take (oi := ⟨_, _, _, _, _, _⟩) (i := 18) (v := ?_) rfl (by kernel_rfl) (by kernel_rfl) (by kernel_rfl) (fun _ _ _ h => h) (Or.inl ⟨by rfl, ?_⟩) (by assumption) ?_
        rotate_left
        · intro w hSw; (try dsimp only at hSw); first | (go_simp; done) | (go_simp; with_reducible rfl)
        try simp only [Act.put, List.setIfInBounds_toArray, List.set_cons_zero, List.set_cons_succ]
        refine wpAnyH_take (oi := ⟨_, _, _, _, _, _⟩) (i := 19) rfl (by kernel_rfl) (by kernel_rfl) (by kernel_rfl) (fun _ _ _ h => h) (Or.inr ⟨by rfl, rfl⟩) (by assumption) ?_
        try simp only [Act.put, List.setIfInBounds_toArray, List.set_cons_zero, List.set_cons_succ]
        refine wpAnyH_take (oi := ⟨_, _, _, _, _, _⟩) (i := 20) rfl (by kernel_rfl) (by kernel_rfl) (by kernel_rfl) (fun _ _ _ h => h) (Or.inr ⟨by rfl, rfl⟩) (by assumption) ?_
        try simp only [Act.put, List.setIfInBounds_toArray, List.set_cons_zero, List.set_cons_succ]
        refine wpAnyH_take (oi := ⟨_, _, _, _, _, _⟩) (i := 21) rfl (by kernel_rfl) (by kernel_rfl) (by kernel_rfl) (fun _ _ _ h => h) (Or.inr ⟨by rfl, rfl⟩) (by assumption) ?_
        try simp only [Act.put, List.setIfInBounds_toArray, List.set_cons_zero, List.set_cons_succ]
        refine wpAnyH_take (oi := ⟨_, _, _, _, _, _⟩) (i := 22) rfl (by kernel_rfl) (by kernel_rfl) (by kernel_rfl) (fun _ _ _ h => h) (Or.inr ⟨by rfl, rfl⟩) (by assumption) ?_
        try simp only [Act.put, List.setIfInBounds_toArray, List.set_cons_zero, List.set_cons_succ]
        refine wpAnyH_take (oi := ⟨_, _, _, _, _, _⟩) (i := 23) (v := ?_) rfl (by kernel_rfl) (by kernel_rfl) (by kernel_rfl) (fun _ _ _ h => h) (Or.inl ⟨by rfl, ?_⟩) (by assumption) ?_
        rotate_left
        · intro w hSw; (try dsimp only at hSw); first | (go_simp; done) | (go_simp; with_reducible rfl)
        try simp only [Act.put, List.setIfInBounds_toArray, List.set_cons_zero, List.set_cons_succ]
        refine wpAnyH_take (oi := ⟨_, _, _, _, _, _⟩) (i := 24) (v := ?_) rfl (by kernel_rfl) (by kernel_rfl) (by kernel_rfl) (fun _ _ _ h => h) (Or.inl ⟨by rfl, ?_⟩) (by assumption) ?_
        rotate_left
        · intro w hSw; (try dsimp only at hSw); first | (go_simp; done) | (go_simp; with_reducible rfl)
        try simp only [Act.put, List.setIfInBounds_toArray, List.set_cons_zero, List.set_cons_succ]
        refine wpAnyH_done (by kernel_rfl) ?_ _
        refine NoPanic.normal ?_
        have HB3 := Lib.hid (HB.out.trans (hHeld.1.mono HB.out.size))
        have HG3 := Lib.hid (HG.out.after hHeld.1); have HX3 := Lib.hid (HX.out.after hHeld.1)
        clear hHeld HSt hB0 HB HG HX cx cg
        go_wp2_with fail
        go_roundw
        case rel => exact ⟨j + 1, by omega, by have := HJ.out; simp; omega, HB3.out, HG3.out, HX3.out⟩
        case measure => simp [intOf]; omega
    · obtain rfl : j = 31 := by omega
      go_wp2_with fail
      go_ret
      exact ⟨rfl, HB.out⟩
end Go.Proofs.YtecimagjeelgbaaDoor.Pr
