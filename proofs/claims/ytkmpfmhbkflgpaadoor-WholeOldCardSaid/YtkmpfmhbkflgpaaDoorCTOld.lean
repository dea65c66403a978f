import Derived.Test.YtkmpfmhbkflgpaaDoorCURek
import Derived.Test.YtkmpfmhbkflgpaaDoorCKnowB
import Derived.Test.YtkmpfmhbkflgpaaDoorCPrxE
import Derived.Test.YtkmpfmhbkflgpaaDoorCWorks
import Derived.Lib.SlicesS
/- What leads to nothing: plain laws of what one can come to, and the keys of views. -/
set_option linter.unusedVariables false
set_option linter.unusedSimpArgs false
namespace Go.Proofs.YtkmpfmhbkflgpaaDoor.Pr
open Go.RowKit Go.Proofs.YtkmpfmhbkflgpaaDoorW.PrintWords Go.Proofs.YtkmpfmhbkflgpaaDoorW.PrintLast Go.Proofs.YtkmpfmhbkflgpaaDoorW.PrintMore Go.Proofs.YtkmpfmhbkflgpaaDoor.TT Go.Proofs.YtkmpfmhbkflgpaaDoor.Kw

/-- What one can make of some texts, and of constants. -/
inductive Bq (l : List ByteArray) : ByteArray → Prop
  | mem {s : ByteArray} : s ∈ l → Bq l s
  | const {s : ByteArray} : b0 s = 99 → Bq l s
  | built {s : ByteArray} : ps s ≠ [] → (∀ p ∈ ps s, Bq l p) → Bq l s
/-- If none of them is a pair, and no key of what is sealed can be made, nothing more can be come to. -/
theorem dv_bq {l : List ByteArray} (h : ∀ s ∈ l, b0 s ≠ 112 ∧ (b0 s = 115 → ∀ k p, ps s = [k, p] → ¬ Bq l k)) {t : ByteArray} (d : Dv l t) : Bq l t := by
  induction d with
  | mem hm => exact .mem hm
  | const _ h2 => exact .const h2
  | built _ h2 _ ih => exact .built h2 ih
  | pair _ hk hp ih =>
    cases ih with
    | mem hm => exact absurd hk (h _ hm).1
    | const hc => rw [hk] at hc; exact absurd hc (by decide)
    | built _ hb => exact hb _ hp
  | opn _ hk hps _ ih1 ih2 =>
    cases ih1 with
    | mem hm => exact absurd ih2 ((h _ hm).2 hk _ _ hps)
    | const hc => rw [hk] at hc; exact absurd hc (by decide)
    | built _ hb => exact hb _ (by rw [hps]; simp)
theorem ps_str {t : Tm} (ho : t.ok) (hd : t.depth ≤ 60) (hl : t.enc.length ≤ 2000) : ps t.str = t.parts.map Tm.str := PFg_str ho hd hl
/-- A nonce that is not there can't be made. -/
theorem nonce_free {l : List ByteArray} {a : Int} (hn : (nTm a).str ∉ l) : ¬ Bq l (nTm a).str := by
  obtain ⟨o, d, e⟩ := nTm_ok a
  intro h
  cases h with
  | mem hm => exact hn hm
  | const hc => rw [b0_str] at hc; exact absurd hc (by unfold nTm; simp only [Tm.kind]; decide)
  | built hp _ => exact hp (by rw [ps_str o (by omega) (by omega)]; rfl)
/-- A view's name, and its key of a root that is a nonce. -/
def vTm (v : Int) : Tm := .const [118, UInt8.ofNat (v / 256 % 256).toNat, UInt8.ofNat (v % 256).toNat]
def eTm (v a : Int) : Tm := .two 100 (nTm a) (vTm v)
theorem vTm_ok (v : Int) : (vTm v).ok ∧ (vTm v).depth = 1 ∧ (vTm v).enc.length = 5 := by unfold vTm; exact ⟨by simp [Tm.ok], by simp [Tm.depth], by simp [Tm.enc]⟩
theorem eTm_ok (v a : Int) : (eTm v a).ok ∧ (eTm v a).depth = 2 ∧ (eTm v a).enc.length = 9 := by
  obtain ⟨o1, d1, l1⟩ := nTm_ok a
  obtain ⟨o2, d2, l2⟩ := vTm_ok v
  unfold eTm
  refine ⟨?_, ?_, ?_⟩
  · simp only [Tm.ok]; exact ⟨by decide, o1, o2⟩
  · simp only [Tm.depth]; omega
  · simp only [Tm.enc, List.length_cons, List.length_append]; omega
theorem eTm_check (v a : Int) : check (eTm v a).str = 0 := by
  obtain ⟨o, d, e⟩ := eTm_ok v a
  exact check_str o (by omega) (by omega)
theorem name_str (v : Int) : epoch_name.f v = some (vTm v).str := by
  unfold epoch_name.f
  rw [Ev03.const_spec]
  unfold Ev03.constOf strOfNums
  rw [if_neg (by simp [ByteArray.size])]
  rfl
theorem epoch_new (v a : Int) (h0 : 0 ≤ v) (h1 : v ≤ 1000) (ha : 0 ≤ a ∧ a < 65536) : epoch_New.f v (nonceN a) = some (v, (eTm v a).str, 0) := by
  obtain ⟨o1, d1, l1⟩ := nTm_ok a
  obtain ⟨o2, d2, l2⟩ := vTm_ok v
  have hm : term_Make.f 100 [nonceN a, (vTm v).str] = some ((eTm v a).str, 0) := by
    unfold term_Make.f
    rw [if_pos (by decide), show UInt8.ofNat (100 : Int).toNat = 100 from rfl, nonce_str a ha.1 ha.2, make_two (k := 100) (by decide) o1 o2 (by omega) (by omega) (by omega) (by omega)]
    rfl
  unfold epoch_New.f epoch_viewed.f
  rw [if_pos h0, Option.bind_some, decide_eq_true h1, if_pos rfl, name_str, Option.bind_some, hm, Option.bind_some, if_pos rfl]
theorem epoch_calls (v a : Int) (h0 : 0 ≤ v) (h1 : v ≤ 1000) (ha : 0 ≤ a ∧ a < 65536) (w : World) :
    Calls Tryd.prog 7 #[.int .i64 v, .string (nonceN a)] w fun e w' => e = .returned (.tuple #[.agg #[.int .i64 v, .string (eTm v a).str], .int .i64 0]) ∧ RowKit.Below w.heap.size w w' :=
  epoch_New.calls v (nonceN a) _ _ _ w (epoch_new v a h0 h1 ha)
theorem u8_inj {m n : Int} (hm : 0 ≤ m ∧ m < 256) (hn : 0 ≤ n ∧ n < 256) (h : UInt8.ofNat m.toNat = UInt8.ofNat n.toNat) : m = n := by
  have h1 := congrArg UInt8.toNat h
  simp only [UInt8.toNat_ofNat'] at h1
  omega
theorem name_inj {u v : Int} (hu : 0 ≤ u ∧ u < 65536) (hv : 0 ≤ v ∧ v < 65536) (h : vTm u = vTm v) : u = v := by
  unfold vTm at h
  injection h with h
  injection h with _ h
  injection h with h1 h2
  injection h2 with h2 _
  have e1 := u8_inj (by omega) (by omega) h1
  have e2 := u8_inj (by omega) (by omega) h2
  omega
theorem key_apart {u v a b : Int} (hu : 0 ≤ u ∧ u < 65536) (hv : 0 ≤ v ∧ v < 65536) (hne : u ≠ v) : (eTm u a).str ≠ (eTm v b).str := by
  intro h
  have := str_inj (eTm_ok u a).1 (eTm_ok v b).1 h
  unfold eTm at this
  injection this with _ _ h2
  exact hne (name_inj hu hv h2)
theorem nonce_inj {a b : Int} (ha : 0 ≤ a ∧ a < 65536) (hb : 0 ≤ b ∧ b < 65536) (h : (nTm a).str = (nTm b).str) : a = b := by
  have := str_inj (nTm_ok a).1 (nTm_ok b).1 h
  unfold nTm at this
  injection this with h1 h2
  have e1 := u8_inj (by omega) (by omega) h1
  have e2 := u8_inj (by omega) (by omega) h2
  omega
/-- What is told: its kind, its parts. -/
theorem told_parts (C n X : Int) : b0 (tTm C n X).str = 115 ∧ ps (tTm C n X).str = [(nTm C).str, (Tm.two 112 (lTm n) (nTm X)).str] := by
  obtain ⟨o1, d1, l1⟩ := nTm_ok C
  obtain ⟨o2, d2, l2⟩ := nTm_ok X
  obtain ⟨o3, d3, l3⟩ := lTm_ok n
  obtain ⟨o, c⟩ := tTm_ok C n X
  refine ⟨b0_str _, ?_⟩
  unfold tTm at o ⊢
  rw [ps_str o (by simp only [Tm.depth]; omega) (by simp only [Tm.enc, List.length_cons, List.length_append]; omega)]
  rfl
theorem key_parts (v a : Int) : b0 (eTm v a).str = 100 ∧ ps (eTm v a).str = [(nTm a).str, (vTm v).str] := by
  obtain ⟨o, d, e⟩ := eTm_ok v a
  refine ⟨b0_str _, ?_⟩
  rw [ps_str o (by omega) (by omega)]
  rfl
theorem nonce_b0 (a : Int) : b0 (nTm a).str = 110 := b0_str _
/-- Who has one view's key, and what is told, can't come to another view's. -/
theorem old_law {L : List ByteArray} (hL : ∀ s ∈ L, ∃ C n X, s = (tTm C n X).str) {u v a b : Int} (hu : 0 ≤ u ∧ u < 65536) (hv : 0 ≤ v ∧ v < 65536) (hne : u ≠ v) :
    ¬ Dv (L ++ [(eTm u a).str]) (eTm v b).str := by
  have hno : ∀ c : Int, (nTm c).str ∉ L ++ [(eTm u a).str] := by
    intro c hm
    rcases List.mem_append.1 hm with hm | hm
    · obtain ⟨C, n, X, e⟩ := hL _ hm
      have := congrArg b0 e
      rw [nonce_b0, (told_parts C n X).1] at this
      exact absurd this (by decide)
    · have := congrArg b0 (List.mem_singleton.1 hm)
      rw [nonce_b0, (key_parts u a).1] at this
      exact absurd this (by decide)
  intro d
  have hb := dv_bq (fun s hs => by
    rcases List.mem_append.1 hs with hm | hm
    · obtain ⟨C, n, X, rfl⟩ := hL _ hm
      refine ⟨by rw [(told_parts C n X).1]; decide, fun _ k p hp => ?_⟩
      rw [(told_parts C n X).2] at hp
      injection hp with hp _
      rw [← hp]
      exact nonce_free (hno C)
    · obtain rfl := List.mem_singleton.1 hm
      refine ⟨by rw [(key_parts u a).1]; decide, fun h => ?_⟩
      rw [(key_parts u a).1] at h
      exact absurd h (by decide)) d
  cases hb with
  | mem hm =>
    rcases List.mem_append.1 hm with hm | hm
    · obtain ⟨C, n, X, e⟩ := hL _ hm
      have := congrArg b0 e
      rw [(key_parts v b).1, (told_parts C n X).1] at this
      exact absurd this (by decide)
    · exact key_apart hv hu (Ne.symm hne) (List.mem_singleton.1 hm)
  | const hc =>
    rw [(key_parts v b).1] at hc
    exact absurd hc (by decide)
  | built _ hb =>
    exact nonce_free (hno b) (hb _ (by rw [(key_parts v b).2]; simp))
theorem told_check {L : List ByteArray} (hL : ∀ s ∈ L, ∃ C n X, s = (tTm C n X).str) : ∀ s ∈ L, check s = 0 := fun s hs => by
  obtain ⟨C, n, X, rfl⟩ := hL s hs
  exact (tTm_ok C n X).2
theorem der_old {L : List ByteArray} (hl : L.length ≤ 150) (hL : ∀ s ∈ L, ∃ C n X, s = (tTm C n X).str) {u v a b : Int} (hu : 0 ≤ u ∧ u < 65536) (hv : 0 ≤ v ∧ v < 65536) (hne : u ≠ v) :
    derOf (L ++ [(eTm u a).str]) (eTm v b).str = (false, 0) := by
  have hn : (L ++ [(eTm u a).str]).length ≤ 200 := by simp; omega
  have he : errOf (L ++ [(eTm u a).str]) = 0 := errOf_ok.2 fun s hs => by
    rcases List.mem_append.1 hs with hm | hm
    · exact told_check hL s hm
    · rw [List.mem_singleton.1 hm]; exact eTm_check u a
  have hg := eTm_check v b
  have hd : dvB (L ++ [(eTm u a).str]) (eTm v b).str = false := by
    rw [Bool.eq_false_iff]
    intro h
    exact old_law hL hu hv hne ((dvB_iff hn he hg).1 h)
  unfold derOf
  rw [if_neg (by omega), if_pos he, if_pos hg, hd]
end Go.Proofs.YtkmpfmhbkflgpaaDoor.Pr

/- append(nil, l...), and one text more: what they come to, operation by operation. -/
set_option linter.unusedVariables false
set_option linter.unusedSimpArgs false
namespace Go.Proofs.YtkmpfmhbkflgpaaDoor.Pr
open Go.RowKit Go.Proofs.YtkmpfmhbkflgpaaDoorW.PrintWords Go.Proofs.YtkmpfmhbkflgpaaDoorW.PrintLast Go.Proofs.YtkmpfmhbkflgpaaDoorW.PrintMore Go.Proofs.YtkmpfmhbkflgpaaDoor.TT Go.Proofs.YtkmpfmhbkflgpaaDoor.Kw

set_option maxRecDepth 100000 in
theorem copy_first (A : Option Addr) (c : Nat) (l : List ByteArray) (W : World) (hr : Kd.C Kd.string W A l.length l) (hl : l.length ≤ 1000) (ty : TypeId) :
    ∃ A1 c1 W1, (Builtin.append_ #[30, 30] ty #[.slice none 0 0, .slice A l.length c]).run Tryd.prog W = .ok (.slice A1 l.length c1) W1 ∧ RowKit.Below W.heap.size W W1 ∧ W1.ownsRow W.heap.size 25 1 (.slice A1 l.length c1) l.length (l.map Value.string) := by
  obtain ⟨i, hi, hz0, hz1, hz2⟩ := info_parts Rdr.infoT
  have h63 : maxLen = 9223372036854775807 := rfl
  have h1 : ∀ q ∈ l.map Value.string, q.oneCell' = true := by
    intro u hu; obtain ⟨x, _, rfl⟩ := List.mem_map.1 hu; rfl
  rcases A with _ | ad
  · have h0 : l.length = 0 := by
      rcases Nat.eq_zero_or_pos l.length with h0 | h0
      · exact h0
      · obtain ⟨ad, h, _⟩ := Kd.at_string hr 0 (Int.le_refl _) (by omega)
        cases h
    obtain rfl : l = [] := List.eq_nil_of_length_eq_zero h0
    refine ⟨none, 0, W, ?_, RowKit.Below.refl _ _, World.ownsRow_nil _ _ _ _⟩
    simp [Builtin.append_, run_underlying Tryd.underlying30, sizeOf, typeInfo, hi, Builtin.lenOf, Builtin.firstCells]
  · have hcell : ∀ j u, (l.map Value.string)[j]? = some u → W.cell? (ad.add j) = some u := by
      intro j u hj
      rw [List.getElem?_map] at hj
      obtain ⟨x, hx, rfl⟩ := Option.map_eq_some_iff.1 hj
      obtain ⟨hl2, rfl⟩ := List.getElem?_eq_some_iff.1 hx
      obtain ⟨ad2, h2, h3⟩ := Kd.at_string hr (j : Int) (by omega) (by omega)
      injection h2 with h2
      subst h2
      rw [Int.toNat_natCast] at h3
      rw [h3]
      simp [rdOf, hl2]
    obtain ⟨v1, W1, hrun, hown, hg, _, _⟩ := run_append_own_at (P := Tryd.prog) (w := W) W.heap.size 30 ty 25 i (.string ⟨#[]⟩) 1 16 Tryd.underlying30 hi hz0 hz1 hz2 rfl (by decide) (.slice none 0 0) 0 [] (World.ownsRow_nil _ _ _ _) ad l.length c (l.map Value.string) (by simp) hcell h1 (by omega) (by omega) (Nat.le_refl _)
    obtain ⟨A1, c1, rfl⟩ := own_slice hown
    rw [Nat.zero_add, List.nil_append] at hown
    exact ⟨A1, c1, W1, by rw [hrun, Nat.zero_add], (RowKit.Below.refl _ _).grown hg (Nat.le_refl _) (by simp [Value.ownBlock]), hown⟩
set_option maxRecDepth 100000 in
theorem append_text (base : Nat) (A1 : Option Addr) (c1 : Nat) (l : List ByteArray) (s : ByteArray) (W : World) (hown : W.ownsRow base 25 1 (.slice A1 l.length c1) l.length (l.map Value.string)) (hl : l.length ≤ 1000) (ad : Addr) (hc : W.cell? (ad.add 0) = some (.string s)) (hbase : base ≤ W.heap.size) (w0 : World) (hb : RowKit.Below base w0 W) (ty : TypeId) :
    ∃ A2 c2 W2, (Builtin.append_ #[30, 30] ty #[.slice A1 l.length c1, .slice (some ad) 1 1]).run Tryd.prog W = .ok (.slice A2 (l.length + 1) c2) W2 ∧ RowKit.Below base w0 W2 ∧ W2.ownsRow base 25 1 (.slice A2 (l.length + 1) c2) (l.length + 1) ((l ++ [s]).map Value.string) ∧
      Kd.C Kd.string W2 A2 (l ++ [s]).length (l ++ [s]) ∧ l.length + 1 ≤ c2 := by
  obtain ⟨i, hi, hz0, hz1, hz2⟩ := info_parts Rdr.infoT
  have h63 : maxLen = 9223372036854775807 := rfl
  obtain ⟨v2, W2, hrun2, hown2, hg2, _, _⟩ := run_append_own_at (P := Tryd.prog) (w := W) base 30 ty 25 i (.string ⟨#[]⟩) 1 16 Tryd.underlying30 hi hz0 hz1 hz2 rfl (by decide) (.slice A1 l.length c1) l.length (l.map Value.string) hown ad 1 1 [.string s] rfl
    (by
      intro j u hj
      match j, hj with
      | 0, hj => simp at hj; subst hj; exact hc)
    (by intro u hu; simp at hu; subst hu; rfl) (by omega) (by omega) hbase
  obtain ⟨A2, c2, rfl⟩ := own_slice hown2
  have e : (l.map Value.string ++ [Value.string s]) = (l ++ [s]).map Value.string := by simp
  rw [e] at hown2
  refine ⟨A2, c2, W2, hrun2, hb.grown hg2 hbase (fun k hk => (hown.lt k hk).1), hown2, ?_, ?_⟩
  · have hR := Rdr.R_of_own (l := l ++ [s]) (by simpa using hown2)
    exact (Kd.R_reads' hR).2.2
  · rcases hown2.2 with ⟨h, _⟩ | ⟨g, cap, cur, h, _, _, h3, _⟩
    · injection h with _ h _; omega
    · injection h with h4 h5 h6; omega
theorem step_qq {ops : Array Oper} {o : Oper} {a : Act} {Kc : Act → World → Prop} {Q : Exit → Act → World → Prop} {W W' : World} {v x v' : Value} (hw : Region.wanted o (yielded ops a.tmps) = true) (s q : Operand)
    (ho : o.op = Op.call { callee := Callee.builtin Builtin.append, args := #[s, q], argTypes := #[30, 30] }) (hs : a.eval s = v) (hx : a.eval q = x)
    (hrun : (Builtin.append_ #[30, 30] o.type #[v, x]).run Tryd.prog W = .ok v' W') (h : Kc (a.put o.dst v') W') :
    if Region.wanted o (yielded ops a.tmps) = true then Oper.wp Tryd.prog o a W Kc Q else Kc (a.put o.dst undef) W := by
  rw [if_pos hw]
  unfold Oper.wp execOp
  simp only [ho, resolve, invoke, builtin, Sem.run_bind, Sem.run_pure, Result.andThen_ok, List.map_toArray, List.map_cons, List.map_nil, hs, hx, hrun]
  exact h
/-- A struct of two cells in a block. -/
def EpAt (w : World) (g : Nat) (v : Int) (k : ByteArray) : Prop := w.heap[g]? = some (.cells #[.int .i64 v, .string k] 35 (0, 0))
theorem EpAt.lt {w : World} {g : Nat} {v : Int} {k : ByteArray} (h : EpAt w g v k) : g < w.heap.size := (Array.getElem?_eq_some_iff.1 h).1
theorem EpAt.after {w w' : World} {g : Nat} {v : Int} {k : ByteArray} (h : EpAt w g v k) (hb : RowKit.Below w.heap.size w w') : EpAt w' g v k := (hb.block g h.lt).trans h
theorem EpAt.cells {w : World} {g : Nat} {v : Int} {k : ByteArray} (h : EpAt w g v k) : w.cell? ⟨g, 0, none⟩ = some (.int .i64 v) ∧ w.cell? ⟨g, 1, none⟩ = some (.string k) := ⟨cell_of_row w g 0 _ _ (0, 0) h, cell_of_row w g 1 _ _ (0, 0) h⟩
/-- The keys of a view's root. -/
theorem any_root (s : Nat) (hs : s < 65536) (h : s ≠ 0) : Any s 1 := by
  rw [any_iff (by decide) (by decide)]
  have e : maskN 1 = 2 ^ 16 - 1 := by decide
  rw [e, Nat.and_two_pow_sub_one_eq_mod]
  omega
theorem told_all {k : List ByteArray} {was is : Nat} (hg : Good k was) (hw : was < 65536) (hi : is < 65536) {first : Int} (h0 : 0 ≤ first) (hf : first + 15 ≤ 65535) : ∀ s ∈ (rekeyF (was : Int) (is : Int) k first).2.1, ∃ C n X, s = (tTm C n X).str := by
  rw [rekey_good hg hw hi h0 hf]
  intro s hs
  obtain ⟨p, hp, rfl⟩ := List.mem_map.1 hs
  obtain ⟨n, c, C, X, h⟩ := step_ok hg hw hi h0 hf p hp
  exact ⟨C, n, X, by rw [h.told]⟩
end Go.Proofs.YtkmpfmhbkflgpaaDoor.Pr

/- WholeOld: its walk. Printed by genold.py. -/
set_option linter.unusedVariables false
set_option linter.unusedSimpArgs false
namespace Go.Proofs.YtkmpfmhbkflgpaaDoor.Pr
open Go.RowKit Go.Proofs.YtkmpfmhbkflgpaaDoorW.PrintWords Go.Proofs.YtkmpfmhbkflgpaaDoorW.PrintLast Go.Proofs.YtkmpfmhbkflgpaaDoorW.PrintMore Go.Proofs.YtkmpfmhbkflgpaaDoor.TT Go.Proofs.YtkmpfmhbkflgpaaDoor.Kw

theorem ownsRow_lower {w : World} {a b : Nat} {e : TypeId} {size : Nat} {v : Value} {n : Nat} {xs : List Value} (h : w.ownsRow b e size v n xs) (hab : a ≤ b) : w.ownsRow a e size v n xs :=
  ⟨h.1, h.2.imp id fun ⟨g, cap, cur, h1, h2, h3⟩ => ⟨g, cap, cur, h1, Nat.le_trans hab h2, h3⟩⟩
set_option maxHeartbeats 8000000 in
set_option maxRecDepth 100000 in
theorem WholeOld (was is view : Nat) (hw : was < 65536) (hi : is < 65536) (hv : view < 65536) (w : World) (HT0 : TabAt w) :
    Calls Tryd.prog 3 #[.int .u16 (was : Int), .int .u16 (is : Int), .int .u16 (view : Int)] w fun e w' => e = .returned (.bool true) ∧ RowKit.Below w.heap.size w w' := by
  have hz := zero30
  have hcz := cellsZ
  have HT1 := Lib.hid HT0
  clear HT0
  have hwk := works_any
  by_cases hbig : 1000 ≤ view
  · have hge : (1000 : Int) ≤ (view : Int) := by omega
    go_enter Tryd.func3, Tryd.ntmps3
    go_wp2_with fail
    refine (hwk _).mono ?_
    rintro e w1 ⟨rfl, hb⟩
    have HB := Lib.hid hb
    clear hb
    go_wp2_with fail
    go_ret
    exact ⟨rfl, HB.out⟩
  have hlt : ¬ (1000 : Int) ≤ (view : Int) := by omega
  have hlt' : (view : Int) < 1000 := by omega
  obtain ⟨g2, hgood⟩ := grown_good was hw
  have hgr := fun w HT => grown_any was hw w HT
  rw [g2] at hgr
  have lg := hgood.len
  clear g2
  generalize (grownF (was : Int)).1 = g at hgr hgood lg
  have hrk := fun w HT => rekey_any g lg was is hw hi 100 (by decide) w HT
  simp only [show ((100 : Nat) : Int) = 100 from rfl] at hrk
  have hrg := rekey_good (first := 100) hgood hw hi (by decide) (by decide)
  have hL := told_all (first := 100) hgood hw hi (by decide) (by decide)
  have lx := rekeyF_len (was : Int) (is : Int) g 100
  have hxr : is ≠ 0 → ∃ b : Int, 0 ≤ b ∧ b < 65536 ∧ key (rekeyF (was : Int) (is : Int) g 100).1 1 = nonceN b := fun h => by
    rw [hrg]; exact new_nonce hgood hw hi (by decide) (by decide) 1 (by decide) (by decide) (any_root is hi h)
  have he0 : (rekeyF (was : Int) (is : Int) g 100).2.2 = 0 := by rw [hrg]
  have hll : (rekeyF (was : Int) (is : Int) g 100).2.1.length ≤ 150 := by
    rw [hrg]
    have h1 := pairs_len (is : Int) (freshI (was : Int) (is : Int))
    have h2 := fresh_len (was : Int) (is : Int)
    simp only [List.length_map]
    omega
  clear hrg
  generalize rekeyF (was : Int) (is : Int) g 100 = X at hrk hL lx hxr he0 hll
  obtain ⟨x, l, er⟩ := X
  dsimp only at hrk hL lx hxr he0 hll
  subst he0
  have HL0 := Lib.hid hL; have HXR := Lib.hid hxr; have HGD := Lib.hid hgood
  clear hL hxr hgood
  unfold KV at hgr hrk
  go_enter Tryd.func3, Tryd.ntmps3
  go_wp2_with fail
  refine (hwk _).mono ?_
  rintro e w1 ⟨rfl, hb⟩
  have HB := Lib.hid hb
  clear hb
  go_wp2_with fail
  refine (hgr w1 (TabAt.below HT1.out (Nat.le_refl _) HB.out)).mono ?_
  rintro e w2 ⟨rfl, hb⟩
  replace HB := Lib.hid (HB.out.trans (hb.mono HB.out.size))
  clear hb hgr
  have HN := Lib.hid (KA.new 27 w2 noKeys noKeys_len Z32 rfl)
  have HB3 := Lib.hid (HB.out.alloc HB.out.size (.cells Z32 27))
  have hsz2 := HB.out.size
  clear HB
  go_wp2_with (first | (refine wpList_store_row rfl 27 (.tmp 7) (.tmp 30) rfl _ _ rfl rfl _ _ HN.out.1 (size_info _ g lg s30) (by rw [KA.rowSize HN.out.2, KA.rowSize lg]) (one_string _) ?_; have HG := Lib.hid (HN.out.row g lg); have HB := Lib.hid (below_setRow HB3.out hsz2 (g.map Value.string).toArray); clear HN HB3; generalize (w2.alloc (.cells Z32 27)).setRow w2.heap.size (g.map Value.string).toArray = V at HG HB ⊢) | (refine wpList_load_row rfl 27 (.tmp 7) rfl _ rfl _ _ _ _ HG.out.1 Tryd.underlying27 rfl (size_info _ _ HG.out.2 s30) ?_))
  refine (hrk V (TabAt.below HT1.out (Nat.le_refl _) HB.out)).mono ?_
  rintro e w3 ⟨v, rfl, hr, hb⟩
  have HL := Lib.hid (Kd.R_lower hr HB.out.size)
  replace HG := Lib.hid (HG.out.after hb); replace HB := Lib.hid (HB.out.trans (hb.mono HB.out.size))
  clear hb hr hrk
  obtain ⟨A, cp, ev⟩ := Kd.R_slice HL.out
  subst ev
  have HN := Lib.hid (KA.new 27 w3 noKeys noKeys_len Z32 rfl)
  have HB3 := Lib.hid (HB.out.alloc HB.out.size (.cells Z32 27))
  have HG3 := Lib.hid (HG.out.alloc (.cells Z32 27))
  have HL3 := Lib.hid (Kd.R_alloc HL.out (.cells Z32 27))
  have hsz3 := HB.out.size
  have hgl : w2.heap.size < w3.heap.size := HG.out.lt
  clear HB HG HL
  by_cases h0 : was = 0
  · have hb0 : ((was : Int) == 0) = true := by simp [h0]
    go_wp2_with (first | (refine wpList_store_row rfl 27 (.tmp 9) (.tmp 37) rfl _ _ rfl rfl _ _ HN.out.1 (size_info _ x lx s30) (by rw [KA.rowSize HN.out.2, KA.rowSize lx]) (one_string _) ?_; have HX := Lib.hid (HN.out.row x lx); have HG := Lib.hid (HG3.out.setRow_other (show w2.heap.size ≠ w3.heap.size by omega) (x.map Value.string).toArray); have HL := Lib.hid (rowR_setRow HL3.out HN.out.1 (x.map Value.string).toArray); have HB := Lib.hid (below_setRow HB3.out hsz3 (x.map Value.string).toArray); clear HN HB3 HG3 HL3; generalize (w3.alloc (.cells Z32 27)).setRow w3.heap.size (x.map Value.string).toArray = V3 at HX HG HL HB ⊢; generalize w3.heap.size = bx at hgl HX ⊢))
    go_ret
    exact ⟨rfl, HB.out⟩
  have hb0 : ((was : Int) == 0) = false := by simp; omega
  by_cases h1 : is = 0
  · have hb1 : ((is : Int) == 0) = true := by simp [h1]
    go_wp2_with (first | (refine wpList_store_row rfl 27 (.tmp 9) (.tmp 37) rfl _ _ rfl rfl _ _ HN.out.1 (size_info _ x lx s30) (by rw [KA.rowSize HN.out.2, KA.rowSize lx]) (one_string _) ?_; have HX := Lib.hid (HN.out.row x lx); have HG := Lib.hid (HG3.out.setRow_other (show w2.heap.size ≠ w3.heap.size by omega) (x.map Value.string).toArray); have HL := Lib.hid (rowR_setRow HL3.out HN.out.1 (x.map Value.string).toArray); have HB := Lib.hid (below_setRow HB3.out hsz3 (x.map Value.string).toArray); clear HN HB3 HG3 HL3; generalize (w3.alloc (.cells Z32 27)).setRow w3.heap.size (x.map Value.string).toArray = V3 at HX HG HL HB ⊢; generalize w3.heap.size = bx at hgl HX ⊢))
    go_ret
    exact ⟨rfl, HB.out⟩
  have hb1 : ((is : Int) == 0) = false := by simp; omega
  by_cases h2 : was = is
  · have hb2 : ((was : Int) == (is : Int)) = true := by simp [h2]
    go_wp2_with (first | (refine wpList_store_row rfl 27 (.tmp 9) (.tmp 37) rfl _ _ rfl rfl _ _ HN.out.1 (size_info _ x lx s30) (by rw [KA.rowSize HN.out.2, KA.rowSize lx]) (one_string _) ?_; have HX := Lib.hid (HN.out.row x lx); have HG := Lib.hid (HG3.out.setRow_other (show w2.heap.size ≠ w3.heap.size by omega) (x.map Value.string).toArray); have HL := Lib.hid (rowR_setRow HL3.out HN.out.1 (x.map Value.string).toArray); have HB := Lib.hid (below_setRow HB3.out hsz3 (x.map Value.string).toArray); clear HN HB3 HG3 HL3; generalize (w3.alloc (.cells Z32 27)).setRow w3.heap.size (x.map Value.string).toArray = V3 at HX HG HL HB ⊢; generalize w3.heap.size = bx at hgl HX ⊢))
    go_ret
    exact ⟨rfl, HB.out⟩
  have hb2 : ((was : Int) == (is : Int)) = false := by simp; omega
  obtain ⟨a, ha0, ha1, hka⟩ := HGD.out.node 1 (by decide) (by decide) (any_root was hw h0)
  obtain ⟨b, hb0', hb1', hkb⟩ := HXR.out h1
  have hea := epoch_calls (view : Int) a (by omega) (by omega) ⟨ha0, ha1⟩
  have heb := epoch_calls ((view : Int) + 1) b (by omega) (by omega) ⟨hb0', hb1'⟩
  have hne : (eTm (view : Int) a).str ≠ (eTm ((view : Int) + 1) b).str := key_apart (by omega) (by omega) (by omega)
  have hd1 := der_old (a := a) (b := b) hll HL0.out (show 0 ≤ (view : Int) ∧ (view : Int) < 65536 by omega) (show 0 ≤ (view : Int) + 1 ∧ (view : Int) + 1 < 65536 by omega) (by omega)
  have hd2 := der_old (a := b) (b := a) hll HL0.out (show 0 ≤ (view : Int) + 1 ∧ (view : Int) + 1 < 65536 by omega) (show 0 ≤ (view : Int) ∧ (view : Int) < 65536 by omega) (by omega)
  generalize (eTm (view : Int) a).str = Ka at hea hne hd1 hd2
  generalize (eTm ((view : Int) + 1) b).str = Kb at heb hne hd1 hd2
  have hnb : (Ka.toList == Kb.toList) = false := (Lib.bytes_beq_false_iff _ _).2 hne
  have HD1 := Lib.hid hd1; have HD2 := Lib.hid hd2
  have hcv : IntKind.i64.wrap (view : Int) = (view : Int) := by simp only [IntKind.wrap, IntKind.bits, IntKind.signed]; simp; omega
  have hcv1 : IntKind.i64.wrap ((view : Int) + 1) = (view : Int) + 1 := by simp only [IntKind.wrap, IntKind.bits, IntKind.signed]; simp; omega
  clear hd1 hd2 hne h0 h1 h2 ha0 ha1 hb0' hb1'
  have hkG : (g.map Value.string).toArray = (g.map Value.string).toArray := rfl
  go_upto_region 7 with (first | (refine wpList_store_row rfl 27 (.tmp 9) (.tmp 37) rfl _ _ rfl rfl _ _ HN.out.1 (size_info _ x lx s30) (by rw [KA.rowSize HN.out.2, KA.rowSize lx]) (one_string _) ?_; have HX := Lib.hid (HN.out.row x lx); have HG := Lib.hid (HG3.out.setRow_other (show w2.heap.size ≠ w3.heap.size by omega) (x.map Value.string).toArray); have HL := Lib.hid (rowR_setRow HL3.out HN.out.1 (x.map Value.string).toArray); have HB := Lib.hid (below_setRow HB3.out hsz3 (x.map Value.string).toArray); clear HN HB3 HG3 HL3; generalize (w3.alloc (.cells Z32 27)).setRow w3.heap.size (x.map Value.string).toArray = V3 at HX HG HL HB ⊢; generalize w3.heap.size = bx at hgl HX ⊢))

  have cg := HG.out.cell (j := 1) (by omega)
  have cx := HX.out.cell (j := 1) (by omega)
  rw [hka] at cg
  rw [hkb] at cx
  clear hz hcz hkG hka
  go_wp2_with fail
  refine (hea V3).mono ?_
  rintro e w4 ⟨rfl, hb⟩
  replace HG := Lib.hid (HG.out.after hb); replace HX := Lib.hid (HX.out.after hb); replace HL := Lib.hid (Kd.R_below HL.out hb); replace HB := Lib.hid (HB.out.trans (hb.mono HB.out.size)); clear hb
  clear hea cg cx
  have HEA := Lib.hid (show EpAt (w4.alloc (.cells #[.int .i64 (view : Int), .string Ka] 35)) w4.heap.size (view : Int) Ka from heap_alloc_new w4 _)
  replace HG := Lib.hid (HG.out.after ((RowKit.Below.refl _ _).alloc (Nat.le_refl _) (.cells #[.int .i64 (view : Int), .string Ka] 35))); replace HX := Lib.hid (HX.out.after ((RowKit.Below.refl _ _).alloc (Nat.le_refl _) (.cells #[.int .i64 (view : Int), .string Ka] 35))); replace HL := Lib.hid (Kd.R_alloc HL.out (.cells #[.int .i64 (view : Int), .string Ka] 35)); replace HB := Lib.hid (HB.out.alloc HB.out.size (.cells #[.int .i64 (view : Int), .string Ka] 35))
  have cx := HX.out.cell (j := 1) (by omega)
  rw [hkb] at cx
  clear hkb
  go_wp2_with fail
  generalize w4.alloc (.cells #[.int .i64 (view : Int), .string Ka] 35) = V4 at HEA HG HX HL HB cx ⊢
  generalize w4.heap.size = ba at HEA ⊢
  refine (heb V4).mono ?_
  rintro e w5 ⟨rfl, hb⟩
  replace HEA := Lib.hid (HEA.out.after hb); replace HL := Lib.hid (Kd.R_below HL.out hb); replace HB := Lib.hid (HB.out.trans (hb.mono HB.out.size)); clear hb
  clear heb cx HG HX
  have HEB := Lib.hid (show EpAt (w5.alloc (.cells #[.int .i64 ((view : Int) + 1), .string Kb] 35)) w5.heap.size ((view : Int) + 1) Kb from heap_alloc_new w5 _)
  replace HEA := Lib.hid (HEA.out.after ((RowKit.Below.refl _ _).alloc (Nat.le_refl _) (.cells #[.int .i64 ((view : Int) + 1), .string Kb] 35))); replace HL := Lib.hid (Kd.R_alloc HL.out (.cells #[.int .i64 ((view : Int) + 1), .string Kb] 35)); replace HB := Lib.hid (HB.out.alloc HB.out.size (.cells #[.int .i64 ((view : Int) + 1), .string Kb] 35))
  obtain ⟨_, ca⟩ := HEA.out.cells
  obtain ⟨_, cb⟩ := HEB.out.cells
  have hab : ba < w5.heap.size + 1 := by have := HEA.out.lt; simpa using this
  go_upto_region 13 with fail
  generalize w5.alloc (.cells #[.int .i64 ((view : Int) + 1), .string Kb] 35) = V5 at HEA HEB HL HB ca cb ⊢
  generalize w5.heap.size = bb at HEB cb hab ⊢
  clear hab
  have HSt : ∀ w' : World, RowKit.Below V5.heap.size V5 w' → (RowKit.Below V5.heap.size V5 w' ∧ w'.cell? ⟨ba, 1, none⟩ = some (.string Ka) ∧ w'.cell? ⟨bb, 1, none⟩ = some (.string Kb)) := fun w' h => ⟨h, (h.cell (p := ⟨ba, 1, none⟩) HEA.out.lt).trans HEA.out.cells.2, (h.cell (p := ⟨bb, 1, none⟩) HEB.out.lt).trans HEB.out.cells.2⟩
  clear ca cb
  go_cut [16, 17] (fun p q wc => p = .bool false ∧ q = .int .i64 0 ∧ RowKit.Below w.heap.size w wc ∧ EpAt wc ba (view : Int) Ka ∧ EpAt wc bb ((view : Int) + 1) Kb ∧ Kd.R Kd.string 25 wc w.heap.size (fun _ => True) (.slice A l.length cp) l)
  case first =>
    refine wp_region_noPanic ?_
    refine wp_region_held_drew (S := (fun w' => RowKit.Below V5.heap.size V5 w' ∧ w'.cell? ⟨ba, 1, none⟩ = some (.string Ka) ∧ w'.cell? ⟨bb, 1, none⟩ = some (.string Kb))) (by kernel_rfl) (HSt _ ((RowKit.Below.refl _ _).drew)) (fun hHeld => ?_)
    refine wpAnyH_take (oi := ⟨_, _, _, _, _, _⟩) (i := 0) (v := ?_) rfl (by kernel_rfl) (by kernel_rfl) (by kernel_rfl) (fun _ _ _ h => h) (Or.inl ⟨by rfl, ?_⟩) (by assumption) ?_
    rotate_left
    · intro w hSw; (try dsimp only at hSw); first | (go_simp; done) | (go_simp; with_reducible rfl)
    try simp only [Act.put, List.setIfInBounds_toArray, List.set_cons_zero, List.set_cons_succ]
    refine wpAnyH_take (oi := ⟨_, _, _, _, _, _⟩) (i := 2) (v := ?_) rfl (by kernel_rfl) (by kernel_rfl) (by kernel_rfl) (fun _ _ _ h => h) (Or.inl ⟨by rfl, ?_⟩) (by assumption) ?_
    rotate_left
    · intro w hSw; (try dsimp only at hSw); first | (go_simp; done) | (go_simp; with_reducible rfl)
    try simp only [Act.put, List.setIfInBounds_toArray, List.set_cons_zero, List.set_cons_succ]
    refine wpAnyH_take (oi := ⟨_, _, _, _, _, _⟩) (i := 3) (v := ?_) rfl (by kernel_rfl) (by kernel_rfl) (by kernel_rfl) (fun _ _ _ h => h) (Or.inl ⟨by rfl, ?_⟩) (by assumption) ?_
    rotate_left
    · intro w hSw; (try dsimp only at hSw); first | (go_simp; done) | (go_simp; with_reducible rfl)
    try simp only [Act.put, List.setIfInBounds_toArray, List.set_cons_zero, List.set_cons_succ]
    refine wpAnyH_take (oi := ⟨_, _, _, _, _, _⟩) (i := 6) (v := ?_) rfl (by kernel_rfl) (by kernel_rfl) (by kernel_rfl) (fun _ _ _ h => h) (Or.inl ⟨by rfl, ?_⟩) (by assumption) ?_
    rotate_left
    · intro w hSw; (try dsimp only at hSw); first | (go_simp; done) | (go_simp; with_reducible rfl)
    try simp only [Act.put, List.setIfInBounds_toArray, List.set_cons_zero, List.set_cons_succ]
    refine wpAnyH_take (oi := ⟨_, _, _, _, _, _⟩) (i := 7) (v := ?_) rfl (by kernel_rfl) (by kernel_rfl) (by kernel_rfl) (fun _ _ _ h => h) (Or.inl ⟨by rfl, ?_⟩) (by assumption) ?_
    rotate_left
    · intro w hSw; (try dsimp only at hSw); first | (go_simp; done) | (go_simp; with_reducible rfl)
    try simp only [Act.put, List.setIfInBounds_toArray, List.set_cons_zero, List.set_cons_succ]
    refine wpAnyH_ready (rs := [1, 4]) (by kernel_rfl) (by simp) ?_
    refine AllReadyH.cons (o := ⟨_, _, _, _, _, _⟩) rfl (fun K hK => ?_) ?_
    · obtain ⟨A1, c1, W1, hrun1, hb1, hown1⟩ := copy_first A cp l _ (Kd.R_reads' (Kd.R_below HL.out hHeld.1)).2.2 (by omega) 30
      have hown2 : W1.ownsRow V5.heap.size 25 1 (.slice A1 l.length c1) l.length (l.map Value.string) := hown1
      refine step_qq (by rfl) (.const (.slice none 0 0)) (.tmp 88) rfl rfl rfl hrun1 ?_
      refine hK.out _ _ (HSt _ (hHeld.1.trans (hb1.mono hHeld.1.size))) (fun hHeld => ?_)
      clear hK K
      try simp only [Act.put, List.setIfInBounds_toArray, List.set_cons_zero, List.set_cons_succ]
      refine wpAnyH_ready (rs := [4]) (by kernel_rfl) (by simp) ?_
      refine AllReadyH.cons (o := ⟨_, _, _, _, _, _⟩) rfl (fun K hK => ?_) AllReadyH.nil
      go_simp
      have hown3 := hown2.alloc (.cells #[.string Ka] 25)
      have hcl : (W1.alloc (.cells #[.string Ka] 25)).cell? ((⟨W1.heap.size, 0, none⟩ : Addr).add 0) = some (.string Ka) := by rw [Addr.add_mid]; exact cell_of_row _ _ 0 _ _ (0, 0) (heap_alloc_new W1 _)
      refine hK.out _ _ (HSt _ (hHeld.1.alloc hHeld.1.size (.cells #[.string Ka] 25))) (fun hHeld => ?_)
      clear hK K
      try simp only [Act.put, List.setIfInBounds_toArray, List.set_cons_zero, List.set_cons_succ]
      refine wpAnyH_ready (rs := [5]) (by kernel_rfl) (by simp) ?_
      refine AllReadyH.cons (o := ⟨_, _, _, _, _, _⟩) rfl (fun K hK => ?_) AllReadyH.nil
      obtain ⟨A2, c2, W2, hrun2, hb2, _, hC2, hc2⟩ := append_text V5.heap.size A1 c1 l Ka _ hown3 (by omega) _ hcl hHeld.1.size V5 hHeld.1 30
      refine step_qq (by rfl) (.tmp 89) (.tmp 92) rfl rfl rfl hrun2 ?_
      refine hK.out _ _ (HSt _ (hb2)) (fun hHeld => ?_)
      clear hK K
      try simp only [Act.put, List.setIfInBounds_toArray, List.set_cons_zero, List.set_cons_succ]
      have hder := derives_any A2 c2 (l ++ [Ka]) Kb W2 hC2 (by rw [List.length_append]; exact hc2)
      rw [List.length_append, List.length_singleton] at hder
      unfold DerEnd at hder
      rw [HD1.out] at hder
      refine wpAnyH_ready (rs := [8]) (by kernel_rfl) (by simp) ?_
      refine AllReadyH.cons (o := ⟨_, _, _, _, _, _⟩) rfl (fun K hK => ?_) AllReadyH.nil
      go_simp
      refine hder.mono ?_
      clear hder
      rintro e w' ⟨rfl, hb⟩
      try go_wp2_with fail
      refine hK.out _ _ (HSt _ (hHeld.1.trans (hb.mono hHeld.1.size))) (fun hHeld => ?_)
      clear hK K
      try simp only [Act.put, List.setIfInBounds_toArray, List.set_cons_zero, List.set_cons_succ]
      refine wpAnyH_take (oi := ⟨_, _, _, _, _, _⟩) (i := 9) (v := ?_) rfl (by kernel_rfl) (by kernel_rfl) (by kernel_rfl) (fun _ _ _ h => h) (Or.inl ⟨by rfl, ?_⟩) (by assumption) ?_
      rotate_left
      · intro w hSw; (try dsimp only at hSw); first | (go_simp; done) | (go_simp; with_reducible rfl)
      try simp only [Act.put, List.setIfInBounds_toArray, List.set_cons_zero, List.set_cons_succ]
      refine wpAnyH_take (oi := ⟨_, _, _, _, _, _⟩) (i := 10) (v := ?_) rfl (by kernel_rfl) (by kernel_rfl) (by kernel_rfl) (fun _ _ _ h => h) (Or.inl ⟨by rfl, ?_⟩) (by assumption) ?_
      rotate_left
      · intro w hSw; (try dsimp only at hSw); first | (go_simp; done) | (go_simp; with_reducible rfl)
      try simp only [Act.put, List.setIfInBounds_toArray, List.set_cons_zero, List.set_cons_succ]
      refine wpAnyH_take (oi := ⟨_, _, _, _, _, _⟩) (i := 11) (v := ?_) rfl (by kernel_rfl) (by kernel_rfl) (by kernel_rfl) (fun _ _ _ h => h) (Or.inl ⟨by rfl, ?_⟩) (by assumption) ?_
      rotate_left
      · intro w hSw; (try dsimp only at hSw); first | (go_simp; done) | (go_simp; with_reducible rfl)
      try simp only [Act.put, List.setIfInBounds_toArray, List.set_cons_zero, List.set_cons_succ]
      refine wpAnyH_take (oi := ⟨_, _, _, _, _, _⟩) (i := 12) (v := ?_) rfl (by kernel_rfl) (by kernel_rfl) (by kernel_rfl) (fun _ _ _ h => h) (Or.inl ⟨by rfl, ?_⟩) (by assumption) ?_
      rotate_left
      · intro w hSw; (try dsimp only at hSw); first | (go_simp; done) | (go_simp; with_reducible rfl)
      try simp only [Act.put, List.setIfInBounds_toArray, List.set_cons_zero, List.set_cons_succ]
      refine wpAnyH_take (oi := ⟨_, _, _, _, _, _⟩) (i := 13) (v := ?_) rfl (by kernel_rfl) (by kernel_rfl) (by kernel_rfl) (fun _ _ _ h => h) (Or.inl ⟨by rfl, ?_⟩) (by assumption) ?_
      rotate_left
      · intro w hSw; (try dsimp only at hSw); first | (go_simp; done) | (go_simp; with_reducible rfl)
      try simp only [Act.put, List.setIfInBounds_toArray, List.set_cons_zero, List.set_cons_succ]
      refine wpAnyH_done (by kernel_rfl) ?_ _
      refine NoPanic.normal ?_
      have h1 := hHeld.1
      have hB := HB.out.trans (h1.mono HB.out.size)
      have hE1 := HEA.out.after h1; have hE2 := HEB.out.after h1; have hLL := Kd.R_below HL.out h1
      try go_wp2_with fail
      go_meet
      case rel => exact ⟨rfl, rfl, hB, hE1, hE2, hLL⟩
    · refine AllReadyH.cons (o := ⟨_, _, _, _, _, _⟩) rfl (fun K hK => ?_) AllReadyH.nil
      go_simp
      have hb0_ := ((RowKit.Below.refl V5.heap.size V5).alloc (Nat.le_refl _) (.cells #[.string Ka] 25)).drew
      have hcl0 : (V5.alloc (.cells #[.string Ka] 25)).drew.cell? ⟨V5.heap.size, 0, none⟩ = some (.string Ka) := cell_of_row (V5.alloc (.cells #[.string Ka] 25)) _ 0 _ _ (0, 0) (heap_alloc_new V5 _)
      have hbl0 : V5.heap.size < (V5.alloc (.cells #[.string Ka] 25)).drew.heap.size := by simp [World.drew]
      refine hK.out _ _ (HSt _ (hb0_)) (fun hHeld => ?_)
      clear hK K
      try simp only [Act.put, List.setIfInBounds_toArray, List.set_cons_zero, List.set_cons_succ]
      generalize (V5.alloc (.cells #[.string Ka] 25)).drew = Wa at hHeld hcl0 hbl0 ⊢
      refine wpAnyH_ready (rs := [1]) (by kernel_rfl) (by simp) ?_
      refine AllReadyH.cons (o := ⟨_, _, _, _, _, _⟩) rfl (fun K hK => ?_) AllReadyH.nil
      obtain ⟨A1, c1, W1, hrun1, hb1, hown1⟩ := copy_first A cp l _ (Kd.R_reads' (Kd.R_below HL.out hHeld.1)).2.2 (by omega) 30
      have hown3 := ownsRow_lower hown1 (show V5.heap.size ≤ Wa.heap.size by omega)
      have hcl : W1.cell? ((⟨V5.heap.size, 0, none⟩ : Addr).add 0) = some (.string Ka) := by rw [Addr.add_mid]; exact (hb1.cell (p := ⟨V5.heap.size, 0, none⟩) hbl0).trans hcl0
      refine step_qq (by rfl) (.const (.slice none 0 0)) (.tmp 88) rfl rfl rfl hrun1 ?_
      refine hK.out _ _ (HSt _ (hHeld.1.trans (hb1.mono hHeld.1.size))) (fun hHeld => ?_)
      clear hK K
      try simp only [Act.put, List.setIfInBounds_toArray, List.set_cons_zero, List.set_cons_succ]
      refine wpAnyH_ready (rs := [5]) (by kernel_rfl) (by simp) ?_
      refine AllReadyH.cons (o := ⟨_, _, _, _, _, _⟩) rfl (fun K hK => ?_) AllReadyH.nil
      obtain ⟨A2, c2, W2, hrun2, hb2, _, hC2, hc2⟩ := append_text V5.heap.size A1 c1 l Ka _ hown3 (by omega) _ hcl hHeld.1.size V5 hHeld.1 30
      refine step_qq (by rfl) (.tmp 89) (.tmp 92) rfl rfl rfl hrun2 ?_
      refine hK.out _ _ (HSt _ (hb2)) (fun hHeld => ?_)
      clear hK K
      try simp only [Act.put, List.setIfInBounds_toArray, List.set_cons_zero, List.set_cons_succ]
      have hder := derives_any A2 c2 (l ++ [Ka]) Kb W2 hC2 (by rw [List.length_append]; exact hc2)
      rw [List.length_append, List.length_singleton] at hder
      unfold DerEnd at hder
      rw [HD1.out] at hder
      refine wpAnyH_ready (rs := [8]) (by kernel_rfl) (by simp) ?_
      refine AllReadyH.cons (o := ⟨_, _, _, _, _, _⟩) rfl (fun K hK => ?_) AllReadyH.nil
      go_simp
      refine hder.mono ?_
      clear hder
      rintro e w' ⟨rfl, hb⟩
      try go_wp2_with fail
      refine hK.out _ _ (HSt _ (hHeld.1.trans (hb.mono hHeld.1.size))) (fun hHeld => ?_)
      clear hK K
      try simp only [Act.put, List.setIfInBounds_toArray, List.set_cons_zero, List.set_cons_succ]
      refine wpAnyH_take (oi := ⟨_, _, _, _, _, _⟩) (i := 9) (v := ?_) rfl (by kernel_rfl) (by kernel_rfl) (by kernel_rfl) (fun _ _ _ h => h) (Or.inl ⟨by rfl, ?_⟩) (by assumption) ?_
      rotate_left
      · intro w hSw; (try dsimp only at hSw); first | (go_simp; done) | (go_simp; with_reducible rfl)
      try simp only [Act.put, List.setIfInBounds_toArray, List.set_cons_zero, List.set_cons_succ]
      refine wpAnyH_take (oi := ⟨_, _, _, _, _, _⟩) (i := 10) (v := ?_) rfl (by kernel_rfl) (by kernel_rfl) (by kernel_rfl) (fun _ _ _ h => h) (Or.inl ⟨by rfl, ?_⟩) (by assumption) ?_
      rotate_left
      · intro w hSw; (try dsimp only at hSw); first | (go_simp; done) | (go_simp; with_reducible rfl)
      try simp only [Act.put, List.setIfInBounds_toArray, List.set_cons_zero, List.set_cons_succ]
      refine wpAnyH_take (oi := ⟨_, _, _, _, _, _⟩) (i := 11) (v := ?_) rfl (by kernel_rfl) (by kernel_rfl) (by kernel_rfl) (fun _ _ _ h => h) (Or.inl ⟨by rfl, ?_⟩) (by assumption) ?_
      rotate_left
      · intro w hSw; (try dsimp only at hSw); first | (go_simp; done) | (go_simp; with_reducible rfl)
      try simp only [Act.put, List.setIfInBounds_toArray, List.set_cons_zero, List.set_cons_succ]
      refine wpAnyH_take (oi := ⟨_, _, _, _, _, _⟩) (i := 12) (v := ?_) rfl (by kernel_rfl) (by kernel_rfl) (by kernel_rfl) (fun _ _ _ h => h) (Or.inl ⟨by rfl, ?_⟩) (by assumption) ?_
      rotate_left
      · intro w hSw; (try dsimp only at hSw); first | (go_simp; done) | (go_simp; with_reducible rfl)
      try simp only [Act.put, List.setIfInBounds_toArray, List.set_cons_zero, List.set_cons_succ]
      refine wpAnyH_take (oi := ⟨_, _, _, _, _, _⟩) (i := 13) (v := ?_) rfl (by kernel_rfl) (by kernel_rfl) (by kernel_rfl) (fun _ _ _ h => h) (Or.inl ⟨by rfl, ?_⟩) (by assumption) ?_
      rotate_left
      · intro w hSw; (try dsimp only at hSw); first | (go_simp; done) | (go_simp; with_reducible rfl)
      try simp only [Act.put, List.setIfInBounds_toArray, List.set_cons_zero, List.set_cons_succ]
      refine wpAnyH_done (by kernel_rfl) ?_ _
      refine NoPanic.normal ?_
      have h1 := hHeld.1
      have hB := HB.out.trans (h1.mono HB.out.size)
      have hE1 := HEA.out.after h1; have hE2 := HEB.out.after h1; have hLL := Kd.R_below HL.out h1
      try go_wp2_with fail
      go_meet
      case rel => exact ⟨rfl, rfl, hB, hE1, hE2, hLL⟩
  case rest =>
    clear HB HEA HEB HL HSt
    obtain ⟨rfl, rfl, hB, hE1, hE2, hLL⟩ := hcut
    have HB := Lib.hid hB; have HEA := Lib.hid hE1; have HEB := Lib.hid hE2; have HL := Lib.hid hLL
    clear hB hE1 hE2 hLL
    go_upto_region 14 with fail
    have ca := HEA.out.cells.2; have cb := HEB.out.cells.2
    have HSt : ∀ w' : World, RowKit.Below wc.heap.size wc w' → (RowKit.Below wc.heap.size wc w' ∧ w'.cell? ⟨ba, 1, none⟩ = some (.string Ka) ∧ w'.cell? ⟨bb, 1, none⟩ = some (.string Kb)) := fun w' h => ⟨h, (h.cell (p := ⟨ba, 1, none⟩) HEA.out.lt).trans HEA.out.cells.2, (h.cell (p := ⟨bb, 1, none⟩) HEB.out.lt).trans HEB.out.cells.2⟩
    clear ca cb
    go_cut [18, 19] (fun p q wc => p = .bool false ∧ q = .int .i64 0 ∧ RowKit.Below w.heap.size w wc ∧ EpAt wc ba (view : Int) Ka ∧ EpAt wc bb ((view : Int) + 1) Kb ∧ Kd.R Kd.string 25 wc w.heap.size (fun _ => True) (.slice A l.length cp) l)
    case first =>
      refine wp_region_noPanic ?_
      refine wp_region_held_drew (S := (fun w' => RowKit.Below wc.heap.size wc w' ∧ w'.cell? ⟨ba, 1, none⟩ = some (.string Ka) ∧ w'.cell? ⟨bb, 1, none⟩ = some (.string Kb))) (by kernel_rfl) (HSt _ ((RowKit.Below.refl _ _).drew)) (fun hHeld => ?_)
      refine wpAnyH_take (oi := ⟨_, _, _, _, _, _⟩) (i := 0) (v := ?_) rfl (by kernel_rfl) (by kernel_rfl) (by kernel_rfl) (fun _ _ _ h => h) (Or.inl ⟨by rfl, ?_⟩) (by assumption) ?_
      rotate_left
      · intro w hSw; (try dsimp only at hSw); first | (go_simp; done) | (go_simp; with_reducible rfl)
      try simp only [Act.put, List.setIfInBounds_toArray, List.set_cons_zero, List.set_cons_succ]
      refine wpAnyH_take (oi := ⟨_, _, _, _, _, _⟩) (i := 2) (v := ?_) rfl (by kernel_rfl) (by kernel_rfl) (by kernel_rfl) (fun _ _ _ h => h) (Or.inl ⟨by rfl, ?_⟩) (by assumption) ?_
      rotate_left
      · intro w hSw; (try dsimp only at hSw); first | (go_simp; done) | (go_simp; with_reducible rfl)
      try simp only [Act.put, List.setIfInBounds_toArray, List.set_cons_zero, List.set_cons_succ]
      refine wpAnyH_take (oi := ⟨_, _, _, _, _, _⟩) (i := 3) (v := ?_) rfl (by kernel_rfl) (by kernel_rfl) (by kernel_rfl) (fun _ _ _ h => h) (Or.inl ⟨by rfl, ?_⟩) (by assumption) ?_
      rotate_left
      · intro w hSw; (try dsimp only at hSw); first | (go_simp; done) | (go_simp; with_reducible rfl)
      try simp only [Act.put, List.setIfInBounds_toArray, List.set_cons_zero, List.set_cons_succ]
      refine wpAnyH_take (oi := ⟨_, _, _, _, _, _⟩) (i := 6) (v := ?_) rfl (by kernel_rfl) (by kernel_rfl) (by kernel_rfl) (fun _ _ _ h => h) (Or.inl ⟨by rfl, ?_⟩) (by assumption) ?_
      rotate_left
      · intro w hSw; (try dsimp only at hSw); first | (go_simp; done) | (go_simp; with_reducible rfl)
      try simp only [Act.put, List.setIfInBounds_toArray, List.set_cons_zero, List.set_cons_succ]
      refine wpAnyH_take (oi := ⟨_, _, _, _, _, _⟩) (i := 7) (v := ?_) rfl (by kernel_rfl) (by kernel_rfl) (by kernel_rfl) (fun _ _ _ h => h) (Or.inl ⟨by rfl, ?_⟩) (by assumption) ?_
      rotate_left
      · intro w hSw; (try dsimp only at hSw); first | (go_simp; done) | (go_simp; with_reducible rfl)
      try simp only [Act.put, List.setIfInBounds_toArray, List.set_cons_zero, List.set_cons_succ]
      refine wpAnyH_ready (rs := [1, 4]) (by kernel_rfl) (by simp) ?_
      refine AllReadyH.cons (o := ⟨_, _, _, _, _, _⟩) rfl (fun K hK => ?_) ?_
      · obtain ⟨A1, c1, W1, hrun1, hb1, hown1⟩ := copy_first A cp l _ (Kd.R_reads' (Kd.R_below HL.out hHeld.1)).2.2 (by omega) 30
        have hown2 : W1.ownsRow wc.heap.size 25 1 (.slice A1 l.length c1) l.length (l.map Value.string) := hown1
        refine step_qq (by rfl) (.const (.slice none 0 0)) (.tmp 100) rfl rfl rfl hrun1 ?_
        refine hK.out _ _ (HSt _ (hHeld.1.trans (hb1.mono hHeld.1.size))) (fun hHeld => ?_)
        clear hK K
        try simp only [Act.put, List.setIfInBounds_toArray, List.set_cons_zero, List.set_cons_succ]
        refine wpAnyH_ready (rs := [4]) (by kernel_rfl) (by simp) ?_
        refine AllReadyH.cons (o := ⟨_, _, _, _, _, _⟩) rfl (fun K hK => ?_) AllReadyH.nil
        go_simp
        have hown3 := hown2.alloc (.cells #[.string Kb] 25)
        have hcl : (W1.alloc (.cells #[.string Kb] 25)).cell? ((⟨W1.heap.size, 0, none⟩ : Addr).add 0) = some (.string Kb) := by rw [Addr.add_mid]; exact cell_of_row _ _ 0 _ _ (0, 0) (heap_alloc_new W1 _)
        refine hK.out _ _ (HSt _ (hHeld.1.alloc hHeld.1.size (.cells #[.string Kb] 25))) (fun hHeld => ?_)
        clear hK K
        try simp only [Act.put, List.setIfInBounds_toArray, List.set_cons_zero, List.set_cons_succ]
        refine wpAnyH_ready (rs := [5]) (by kernel_rfl) (by simp) ?_
        refine AllReadyH.cons (o := ⟨_, _, _, _, _, _⟩) rfl (fun K hK => ?_) AllReadyH.nil
        obtain ⟨A2, c2, W2, hrun2, hb2, _, hC2, hc2⟩ := append_text wc.heap.size A1 c1 l Kb _ hown3 (by omega) _ hcl hHeld.1.size wc hHeld.1 30
        refine step_qq (by rfl) (.tmp 101) (.tmp 104) rfl rfl rfl hrun2 ?_
        refine hK.out _ _ (HSt _ (hb2)) (fun hHeld => ?_)
        clear hK K
        try simp only [Act.put, List.setIfInBounds_toArray, List.set_cons_zero, List.set_cons_succ]
        have hder := derives_any A2 c2 (l ++ [Kb]) Ka W2 hC2 (by rw [List.length_append]; exact hc2)
        rw [List.length_append, List.length_singleton] at hder
        unfold DerEnd at hder
        rw [HD2.out] at hder
        refine wpAnyH_ready (rs := [8]) (by kernel_rfl) (by simp) ?_
        refine AllReadyH.cons (o := ⟨_, _, _, _, _, _⟩) rfl (fun K hK => ?_) AllReadyH.nil
        go_simp
        refine hder.mono ?_
        clear hder
        rintro e w' ⟨rfl, hb⟩
        try go_wp2_with fail
        refine hK.out _ _ (HSt _ (hHeld.1.trans (hb.mono hHeld.1.size))) (fun hHeld => ?_)
        clear hK K
        try simp only [Act.put, List.setIfInBounds_toArray, List.set_cons_zero, List.set_cons_succ]
        refine wpAnyH_take (oi := ⟨_, _, _, _, _, _⟩) (i := 9) (v := ?_) rfl (by kernel_rfl) (by kernel_rfl) (by kernel_rfl) (fun _ _ _ h => h) (Or.inl ⟨by rfl, ?_⟩) (by assumption) ?_
        rotate_left
        · intro w hSw; (try dsimp only at hSw); first | (go_simp; done) | (go_simp; with_reducible rfl)
        try simp only [Act.put, List.setIfInBounds_toArray, List.set_cons_zero, List.set_cons_succ]
        refine wpAnyH_take (oi := ⟨_, _, _, _, _, _⟩) (i := 10) (v := ?_) rfl (by kernel_rfl) (by kernel_rfl) (by kernel_rfl) (fun _ _ _ h => h) (Or.inl ⟨by rfl, ?_⟩) (by assumption) ?_
        rotate_left
        · intro w hSw; (try dsimp only at hSw); first | (go_simp; done) | (go_simp; with_reducible rfl)
        try simp only [Act.put, List.setIfInBounds_toArray, List.set_cons_zero, List.set_cons_succ]
        refine wpAnyH_take (oi := ⟨_, _, _, _, _, _⟩) (i := 11) (v := ?_) rfl (by kernel_rfl) (by kernel_rfl) (by kernel_rfl) (fun _ _ _ h => h) (Or.inl ⟨by rfl, ?_⟩) (by assumption) ?_
        rotate_left
        · intro w hSw; (try dsimp only at hSw); first | (go_simp; done) | (go_simp; with_reducible rfl)
        try simp only [Act.put, List.setIfInBounds_toArray, List.set_cons_zero, List.set_cons_succ]
        refine wpAnyH_take (oi := ⟨_, _, _, _, _, _⟩) (i := 12) (v := ?_) rfl (by kernel_rfl) (by kernel_rfl) (by kernel_rfl) (fun _ _ _ h => h) (Or.inl ⟨by rfl, ?_⟩) (by assumption) ?_
        rotate_left
        · intro w hSw; (try dsimp only at hSw); first | (go_simp; done) | (go_simp; with_reducible rfl)
        try simp only [Act.put, List.setIfInBounds_toArray, List.set_cons_zero, List.set_cons_succ]
        refine wpAnyH_take (oi := ⟨_, _, _, _, _, _⟩) (i := 13) (v := ?_) rfl (by kernel_rfl) (by kernel_rfl) (by kernel_rfl) (fun _ _ _ h => h) (Or.inl ⟨by rfl, ?_⟩) (by assumption) ?_
        rotate_left
        · intro w hSw; (try dsimp only at hSw); first | (go_simp; done) | (go_simp; with_reducible rfl)
        try simp only [Act.put, List.setIfInBounds_toArray, List.set_cons_zero, List.set_cons_succ]
        refine wpAnyH_done (by kernel_rfl) ?_ _
        refine NoPanic.normal ?_
        have h1 := hHeld.1
        have hB := HB.out.trans (h1.mono HB.out.size)
        have hE1 := HEA.out.after h1; have hE2 := HEB.out.after h1; have hLL := Kd.R_below HL.out h1
        try go_wp2_with fail
        go_meet
        case rel => exact ⟨rfl, rfl, hB, hE1, hE2, hLL⟩
      · refine AllReadyH.cons (o := ⟨_, _, _, _, _, _⟩) rfl (fun K hK => ?_) AllReadyH.nil
        go_simp
        have hb0_ := ((RowKit.Below.refl wc.heap.size wc).alloc (Nat.le_refl _) (.cells #[.string Kb] 25)).drew
        have hcl0 : (wc.alloc (.cells #[.string Kb] 25)).drew.cell? ⟨wc.heap.size, 0, none⟩ = some (.string Kb) := cell_of_row (wc.alloc (.cells #[.string Kb] 25)) _ 0 _ _ (0, 0) (heap_alloc_new wc _)
        have hbl0 : wc.heap.size < (wc.alloc (.cells #[.string Kb] 25)).drew.heap.size := by simp [World.drew]
        refine hK.out _ _ (HSt _ (hb0_)) (fun hHeld => ?_)
        clear hK K
        try simp only [Act.put, List.setIfInBounds_toArray, List.set_cons_zero, List.set_cons_succ]
        generalize (wc.alloc (.cells #[.string Kb] 25)).drew = Wa at hHeld hcl0 hbl0 ⊢
        refine wpAnyH_ready (rs := [1]) (by kernel_rfl) (by simp) ?_
        refine AllReadyH.cons (o := ⟨_, _, _, _, _, _⟩) rfl (fun K hK => ?_) AllReadyH.nil
        obtain ⟨A1, c1, W1, hrun1, hb1, hown1⟩ := copy_first A cp l _ (Kd.R_reads' (Kd.R_below HL.out hHeld.1)).2.2 (by omega) 30
        have hown3 := ownsRow_lower hown1 (show wc.heap.size ≤ Wa.heap.size by omega)
        have hcl : W1.cell? ((⟨wc.heap.size, 0, none⟩ : Addr).add 0) = some (.string Kb) := by rw [Addr.add_mid]; exact (hb1.cell (p := ⟨wc.heap.size, 0, none⟩) hbl0).trans hcl0
        refine step_qq (by rfl) (.const (.slice none 0 0)) (.tmp 100) rfl rfl rfl hrun1 ?_
        refine hK.out _ _ (HSt _ (hHeld.1.trans (hb1.mono hHeld.1.size))) (fun hHeld => ?_)
        clear hK K
        try simp only [Act.put, List.setIfInBounds_toArray, List.set_cons_zero, List.set_cons_succ]
        refine wpAnyH_ready (rs := [5]) (by kernel_rfl) (by simp) ?_
        refine AllReadyH.cons (o := ⟨_, _, _, _, _, _⟩) rfl (fun K hK => ?_) AllReadyH.nil
        obtain ⟨A2, c2, W2, hrun2, hb2, _, hC2, hc2⟩ := append_text wc.heap.size A1 c1 l Kb _ hown3 (by omega) _ hcl hHeld.1.size wc hHeld.1 30
        refine step_qq (by rfl) (.tmp 101) (.tmp 104) rfl rfl rfl hrun2 ?_
        refine hK.out _ _ (HSt _ (hb2)) (fun hHeld => ?_)
        clear hK K
        try simp only [Act.put, List.setIfInBounds_toArray, List.set_cons_zero, List.set_cons_succ]
        have hder := derives_any A2 c2 (l ++ [Kb]) Ka W2 hC2 (by rw [List.length_append]; exact hc2)
        rw [List.length_append, List.length_singleton] at hder
        unfold DerEnd at hder
        rw [HD2.out] at hder
        refine wpAnyH_ready (rs := [8]) (by kernel_rfl) (by simp) ?_
        refine AllReadyH.cons (o := ⟨_, _, _, _, _, _⟩) rfl (fun K hK => ?_) AllReadyH.nil
        go_simp
        refine hder.mono ?_
        clear hder
        rintro e w' ⟨rfl, hb⟩
        try go_wp2_with fail
        refine hK.out _ _ (HSt _ (hHeld.1.trans (hb.mono hHeld.1.size))) (fun hHeld => ?_)
        clear hK K
        try simp only [Act.put, List.setIfInBounds_toArray, List.set_cons_zero, List.set_cons_succ]
        refine wpAnyH_take (oi := ⟨_, _, _, _, _, _⟩) (i := 9) (v := ?_) rfl (by kernel_rfl) (by kernel_rfl) (by kernel_rfl) (fun _ _ _ h => h) (Or.inl ⟨by rfl, ?_⟩) (by assumption) ?_
        rotate_left
        · intro w hSw; (try dsimp only at hSw); first | (go_simp; done) | (go_simp; with_reducible rfl)
        try simp only [Act.put, List.setIfInBounds_toArray, List.set_cons_zero, List.set_cons_succ]
        refine wpAnyH_take (oi := ⟨_, _, _, _, _, _⟩) (i := 10) (v := ?_) rfl (by kernel_rfl) (by kernel_rfl) (by kernel_rfl) (fun _ _ _ h => h) (Or.inl ⟨by rfl, ?_⟩) (by assumption) ?_
        rotate_left
        · intro w hSw; (try dsimp only at hSw); first | (go_simp; done) | (go_simp; with_reducible rfl)
        try simp only [Act.put, List.setIfInBounds_toArray, List.set_cons_zero, List.set_cons_succ]
        refine wpAnyH_take (oi := ⟨_, _, _, _, _, _⟩) (i := 11) (v := ?_) rfl (by kernel_rfl) (by kernel_rfl) (by kernel_rfl) (fun _ _ _ h => h) (Or.inl ⟨by rfl, ?_⟩) (by assumption) ?_
        rotate_left
        · intro w hSw; (try dsimp only at hSw); first | (go_simp; done) | (go_simp; with_reducible rfl)
        try simp only [Act.put, List.setIfInBounds_toArray, List.set_cons_zero, List.set_cons_succ]
        refine wpAnyH_take (oi := ⟨_, _, _, _, _, _⟩) (i := 12) (v := ?_) rfl (by kernel_rfl) (by kernel_rfl) (by kernel_rfl) (fun _ _ _ h => h) (Or.inl ⟨by rfl, ?_⟩) (by assumption) ?_
        rotate_left
        · intro w hSw; (try dsimp only at hSw); first | (go_simp; done) | (go_simp; with_reducible rfl)
        try simp only [Act.put, List.setIfInBounds_toArray, List.set_cons_zero, List.set_cons_succ]
        refine wpAnyH_take (oi := ⟨_, _, _, _, _, _⟩) (i := 13) (v := ?_) rfl (by kernel_rfl) (by kernel_rfl) (by kernel_rfl) (fun _ _ _ h => h) (Or.inl ⟨by rfl, ?_⟩) (by assumption) ?_
        rotate_left
        · intro w hSw; (try dsimp only at hSw); first | (go_simp; done) | (go_simp; with_reducible rfl)
        try simp only [Act.put, List.setIfInBounds_toArray, List.set_cons_zero, List.set_cons_succ]
        refine wpAnyH_done (by kernel_rfl) ?_ _
        refine NoPanic.normal ?_
        have h1 := hHeld.1
        have hB := HB.out.trans (h1.mono HB.out.size)
        have hE1 := HEA.out.after h1; have hE2 := HEB.out.after h1; have hLL := Kd.R_below HL.out h1
        try go_wp2_with fail
        go_meet
        case rel => exact ⟨rfl, rfl, hB, hE1, hE2, hLL⟩
    case rest =>
      obtain ⟨rfl, rfl, hB, hE1, hE2, hLL⟩ := hcut
      have HB2 := Lib.hid hB
      clear hB hE1 hE2 hLL HSt
      go_wp2_with fail
      go_ret
      exact ⟨rfl, HB2.out⟩
end Go.Proofs.YtkmpfmhbkflgpaaDoor.Pr

/- The parameters' bounds. -/
set_option linter.unusedVariables false
set_option linter.unusedSimpArgs false
namespace Go.Proofs.YtkmpfmhbkflgpaaDoor.Pr
theorem wf16 {a : Int} (h : (Lit.int .u16 a).wf = true) : ∃ n : Nat, a = (n : Int) ∧ n < 65536 := by
  simp [Lit.wf, IntKind.min, IntKind.max, IntKind.signed, IntKind.bits] at h
  exact ⟨a.toNat, by omega, by omega⟩
end Go.Proofs.YtkmpfmhbkflgpaaDoor.Pr
