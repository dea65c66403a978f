import Derived.Test.YtkmpfmhbkflgpaaGreatDoorCZRek
import Derived.Test.YtkmpfmhbkflgpaaGreatDoorCKnowB
import Derived.Test.YtkmpfmhbkflgpaaGreatDoorCPrxE
import Derived.Test.YtkmpfmhbkflgpaaGreatDoorCZVote
import Derived.Test.YtkmpfmhbkflgpaaGreatDoorCKnowA
import Derived.Test.YtkmpfmhbkflgpaaGreatDoorCZHave
import Derived.Lib.SlicesS
/- What leads to nothing: plain laws of what one can come to, and the keys of views. -/
set_option linter.unusedVariables false
set_option linter.unusedSimpArgs false
namespace Go.Proofs.YtkmpfmhbkflgpaaGreatDoor.Pr
open Go.RowKit Go.Proofs.YtkmpfmhbkflgpaaGreatDoorW.PrintWords Go.Proofs.YtkmpfmhbkflgpaaGreatDoorW.PrintLast Go.Proofs.YtkmpfmhbkflgpaaGreatDoorW.PrintMore Go.Proofs.YtkmpfmhbkflgpaaGreatDoor.TT Go.Proofs.YtkmpfmhbkflgpaaGreatDoor.Kw

/-- What one can make of some texts, and of constants. -/
inductive Bq (l : List ByteArray) : ByteArray → Prop
  | mem {s : ByteArray} : s ∈ l → Bq l s
  | const {s : ByteArray} : b0 s = 99 → Bq l s
  | built {s : ByteArray} : ps s ≠ [] → (∀ p ∈ ps s, Bq l p) → Bq l s
/-- If none of them is a pair, and no key of what is sealed can be made, nothing more can be come to. -/
theorem dv_bq {l : List ByteArray} (h : ∀ s ∈ l, b0 s ≠ 112 ∧ (b0 s = 115 → ∀ k p, ps s = [k, p] → ¬ Bq l k)) {t : ByteArray} (d : Dv l t) : Bq l t := by
  induction d with
  | mem hm => exact .mem hm
  | const _ h2 => exact .const h2
  | built _ h2 _ ih => exact .built h2 ih
  | pair _ hk hp ih =>
    cases ih with
    | mem hm => exact absurd hk (h _ hm).1
    | const hc => rw [hk] at hc; exact absurd hc (by decide)
    | built _ hb => exact hb _ hp
  | opn _ hk hps _ ih1 ih2 =>
    cases ih1 with
    | mem hm => exact absurd ih2 ((h _ hm).2 hk _ _ hps)
    | const hc => rw [hk] at hc; exact absurd hc (by decide)
    | built _ hb => exact hb _ (by rw [hps]; simp)
theorem ps_str {t : Tm} (ho : t.ok) (hd : t.depth ≤ 60) (hl : t.enc.length ≤ 2000) : ps t.str = t.parts.map Tm.str := PFg_str ho hd hl
/-- A nonce that is not there can't be made. -/
theorem nonce_free {l : List ByteArray} {a : Int} (hn : (nTm a).str ∉ l) : ¬ Bq l (nTm a).str := by
  obtain ⟨o, d, e⟩ := nTm_ok a
  intro h
  cases h with
  | mem hm => exact hn hm
  | const hc => rw [b0_str] at hc; exact absurd hc (by unfold nTm; simp only [Tm.kind]; decide)
  | built hp _ => exact hp (by rw [ps_str o (by omega) (by omega)]; rfl)
/-- A view's name, and its key of a root that is a nonce. -/
def vTm (v : Int) : Tm := .const [118, UInt8.ofNat (v / 256 % 256).toNat, UInt8.ofNat (v % 256).toNat]
def eTm (v a : Int) : Tm := .two 100 (nTm a) (vTm v)
theorem vTm_ok (v : Int) : (vTm v).ok ∧ (vTm v).depth = 1 ∧ (vTm v).enc.length = 5 := by unfold vTm; exact ⟨by simp [Tm.ok], by simp [Tm.depth], by simp [Tm.enc]⟩
theorem eTm_ok (v a : Int) : (eTm v a).ok ∧ (eTm v a).depth = 2 ∧ (eTm v a).enc.length = 9 := by
  obtain ⟨o1, d1, l1⟩ := nTm_ok a
  obtain ⟨o2, d2, l2⟩ := vTm_ok v
  unfold eTm
  refine ⟨?_, ?_, ?_⟩
  · simp only [Tm.ok]; exact ⟨by decide, o1, o2⟩
  · simp only [Tm.depth]; omega
  · simp only [Tm.enc, List.length_cons, List.length_append]; omega
theorem eTm_check (v a : Int) : check (eTm v a).str = 0 := by
  obtain ⟨o, d, e⟩ := eTm_ok v a
  exact check_str o (by omega) (by omega)
theorem name_str (v : Int) : epoch_name.f v = some (vTm v).str := by
  unfold epoch_name.f
  rw [Ev03.const_spec]
  unfold Ev03.constOf strOfNums
  rw [if_neg (by simp [ByteArray.size])]
  rfl
theorem epoch_new (v a : Int) (h0 : 0 ≤ v) (h1 : v ≤ 1000) (ha : 0 ≤ a ∧ a < 65536) : epoch_New.f v (nonceN a) = some (v, (eTm v a).str, 0) := by
  obtain ⟨o1, d1, l1⟩ := nTm_ok a
  obtain ⟨o2, d2, l2⟩ := vTm_ok v
  have hm : term_Make.f 100 [nonceN a, (vTm v).str] = some ((eTm v a).str, 0) := by
    unfold term_Make.f
    rw [if_pos (by decide), show UInt8.ofNat (100 : Int).toNat = 100 from rfl, nonce_str a ha.1 ha.2, make_two (k := 100) (by decide) o1 o2 (by omega) (by omega) (by omega) (by omega)]
    rfl
  unfold epoch_New.f epoch_viewed.f
  rw [if_pos h0, Option.bind_some, decide_eq_true h1, if_pos rfl, name_str, Option.bind_some, hm, Option.bind_some, if_pos rfl]
theorem epoch_calls (v a : Int) (h0 : 0 ≤ v) (h1 : v ≤ 1000) (ha : 0 ≤ a ∧ a < 65536) (w : World) :
    Calls Tryz.prog 7 #[.int .i64 v, .string (nonceN a)] w fun e w' => e = .returned (.tuple #[.agg #[.int .i64 v, .string (eTm v a).str], .int .i64 0]) ∧ RowKit.Below w.heap.size w w' :=
  epoch_New.calls v (nonceN a) _ _ _ w (epoch_new v a h0 h1 ha)
theorem u8_inj {m n : Int} (hm : 0 ≤ m ∧ m < 256) (hn : 0 ≤ n ∧ n < 256) (h : UInt8.ofNat m.toNat = UInt8.ofNat n.toNat) : m = n := by
  have h1 := congrArg UInt8.toNat h
  simp only [UInt8.toNat_ofNat'] at h1
  omega
theorem name_inj {u v : Int} (hu : 0 ≤ u ∧ u < 65536) (hv : 0 ≤ v ∧ v < 65536) (h : vTm u = vTm v) : u = v := by
  unfold vTm at h
  injection h with h
  injection h with _ h
  injection h with h1 h2
  injection h2 with h2 _
  have e1 := u8_inj (by omega) (by omega) h1
  have e2 := u8_inj (by omega) (by omega) h2
  omega
theorem key_apart {u v a b : Int} (hu : 0 ≤ u ∧ u < 65536) (hv : 0 ≤ v ∧ v < 65536) (hne : u ≠ v) : (eTm u a).str ≠ (eTm v b).str := by
  intro h
  have := str_inj (eTm_ok u a).1 (eTm_ok v b).1 h
  unfold eTm at this
  injection this with _ _ h2
  exact hne (name_inj hu hv h2)
theorem nonce_inj {a b : Int} (ha : 0 ≤ a ∧ a < 65536) (hb : 0 ≤ b ∧ b < 65536) (h : (nTm a).str = (nTm b).str) : a = b := by
  have := str_inj (nTm_ok a).1 (nTm_ok b).1 h
  unfold nTm at this
  injection this with h1 h2
  have e1 := u8_inj (by omega) (by omega) h1
  have e2 := u8_inj (by omega) (by omega) h2
  omega
/-- What is told: its kind, its parts. -/
theorem told_parts (C n X : Int) : b0 (tTm C n X).str = 115 ∧ ps (tTm C n X).str = [(nTm C).str, (Tm.two 112 (lTm n) (nTm X)).str] := by
  obtain ⟨o1, d1, l1⟩ := nTm_ok C
  obtain ⟨o2, d2, l2⟩ := nTm_ok X
  obtain ⟨o3, d3, l3⟩ := lTm_ok n
  obtain ⟨o, c⟩ := tTm_ok C n X
  refine ⟨b0_str _, ?_⟩
  unfold tTm at o ⊢
  rw [ps_str o (by simp only [Tm.depth]; omega) (by simp only [Tm.enc, List.length_cons, List.length_append]; omega)]
  rfl
theorem key_parts (v a : Int) : b0 (eTm v a).str = 100 ∧ ps (eTm v a).str = [(nTm a).str, (vTm v).str] := by
  obtain ⟨o, d, e⟩ := eTm_ok v a
  refine ⟨b0_str _, ?_⟩
  rw [ps_str o (by omega) (by omega)]
  rfl
theorem nonce_b0 (a : Int) : b0 (nTm a).str = 110 := b0_str _
/-- Who has one view's key, and what is told, can't come to another view's. -/
theorem old_law {L : List ByteArray} (hL : ∀ s ∈ L, ∃ C n X, s = (tTm C n X).str) {u v a b : Int} (hu : 0 ≤ u ∧ u < 65536) (hv : 0 ≤ v ∧ v < 65536) (hne : u ≠ v) :
    ¬ Dv (L ++ [(eTm u a).str]) (eTm v b).str := by
  have hno : ∀ c : Int, (nTm c).str ∉ L ++ [(eTm u a).str] := by
    intro c hm
    rcases List.mem_append.1 hm with hm | hm
    · obtain ⟨C, n, X, e⟩ := hL _ hm
      have := congrArg b0 e
      rw [nonce_b0, (told_parts C n X).1] at this
      exact absurd this (by decide)
    · have := congrArg b0 (List.mem_singleton.1 hm)
      rw [nonce_b0, (key_parts u a).1] at this
      exact absurd this (by decide)
  intro d
  have hb := dv_bq (fun s hs => by
    rcases List.mem_append.1 hs with hm | hm
    · obtain ⟨C, n, X, rfl⟩ := hL _ hm
      refine ⟨by rw [(told_parts C n X).1]; decide, fun _ k p hp => ?_⟩
      rw [(told_parts C n X).2] at hp
      injection hp with hp _
      rw [← hp]
      exact nonce_free (hno C)
    · obtain rfl := List.mem_singleton.1 hm
      refine ⟨by rw [(key_parts u a).1]; decide, fun h => ?_⟩
      rw [(key_parts u a).1] at h
      exact absurd h (by decide)) d
  cases hb with
  | mem hm =>
    rcases List.mem_append.1 hm with hm | hm
    · obtain ⟨C, n, X, e⟩ := hL _ hm
      have := congrArg b0 e
      rw [(key_parts v b).1, (told_parts C n X).1] at this
      exact absurd this (by decide)
    · exact key_apart hv hu (Ne.symm hne) (List.mem_singleton.1 hm)
  | const hc =>
    rw [(key_parts v b).1] at hc
    exact absurd hc (by decide)
  | built _ hb =>
    exact nonce_free (hno b) (hb _ (by rw [(key_parts v b).2]; simp))
theorem told_check {L : List ByteArray} (hL : ∀ s ∈ L, ∃ C n X, s = (tTm C n X).str) : ∀ s ∈ L, check s = 0 := fun s hs => by
  obtain ⟨C, n, X, rfl⟩ := hL s hs
  exact (tTm_ok C n X).2
theorem der_old {L : List ByteArray} (hl : L.length ≤ 150) (hL : ∀ s ∈ L, ∃ C n X, s = (tTm C n X).str) {u v a b : Int} (hu : 0 ≤ u ∧ u < 65536) (hv : 0 ≤ v ∧ v < 65536) (hne : u ≠ v) :
    derOf (L ++ [(eTm u a).str]) (eTm v b).str = (false, 0) := by
  have hn : (L ++ [(eTm u a).str]).length ≤ 200 := by simp; omega
  have he : errOf (L ++ [(eTm u a).str]) = 0 := errOf_ok.2 fun s hs => by
    rcases List.mem_append.1 hs with hm | hm
    · exact told_check hL s hm
    · rw [List.mem_singleton.1 hm]; exact eTm_check u a
  have hg := eTm_check v b
  have hd : dvB (L ++ [(eTm u a).str]) (eTm v b).str = false := by
    rw [Bool.eq_false_iff]
    intro h
    exact old_law hL hu hv hne ((dvB_iff hn he hg).1 h)
  unfold derOf
  rw [if_neg (by omega), if_pos he, if_pos hg, hd]
end Go.Proofs.YtkmpfmhbkflgpaaGreatDoor.Pr

/- append(nil, l...), and one text more: what they come to, operation by operation. -/
set_option linter.unusedVariables false
set_option linter.unusedSimpArgs false
namespace Go.Proofs.YtkmpfmhbkflgpaaGreatDoor.Pr
open Go.RowKit Go.Proofs.YtkmpfmhbkflgpaaGreatDoorW.PrintWords Go.Proofs.YtkmpfmhbkflgpaaGreatDoorW.PrintLast Go.Proofs.YtkmpfmhbkflgpaaGreatDoorW.PrintMore Go.Proofs.YtkmpfmhbkflgpaaGreatDoor.TT Go.Proofs.YtkmpfmhbkflgpaaGreatDoor.Kw

set_option maxRecDepth 100000 in
theorem copy_first (A : Option Addr) (c : Nat) (l : List ByteArray) (W : World) (hr : Kd.C Kd.string W A l.length l) (hl : l.length ≤ 1000) (ty : TypeId) :
    ∃ A1 c1 W1, (Builtin.append_ #[31, 31] ty #[.slice none 0 0, .slice A l.length c]).run Tryz.prog W = .ok (.slice A1 l.length c1) W1 ∧ RowKit.Below W.heap.size W W1 ∧ W1.ownsRow W.heap.size 26 1 (.slice A1 l.length c1) l.length (l.map Value.string) := by
  obtain ⟨i, hi, hz0, hz1, hz2⟩ := info_parts Rdr.infoT
  have h63 : maxLen = 9223372036854775807 := rfl
  have h1 : ∀ q ∈ l.map Value.string, q.oneCell' = true := by
    intro u hu; obtain ⟨x, _, rfl⟩ := List.mem_map.1 hu; rfl
  rcases A with _ | ad
  · have h0 : l.length = 0 := by
      rcases Nat.eq_zero_or_pos l.length with h0 | h0
      · exact h0
      · obtain ⟨ad, h, _⟩ := Kd.at_string hr 0 (Int.le_refl _) (by omega)
        cases h
    obtain rfl : l = [] := List.eq_nil_of_length_eq_zero h0
    refine ⟨none, 0, W, ?_, RowKit.Below.refl _ _, World.ownsRow_nil _ _ _ _⟩
    simp [Builtin.append_, run_underlying Tryz.underlying31, sizeOf, typeInfo, hi, Builtin.lenOf, Builtin.firstCells]
  · have hcell : ∀ j u, (l.map Value.string)[j]? = some u → W.cell? (ad.add j) = some u := by
      intro j u hj
      rw [List.getElem?_map] at hj
      obtain ⟨x, hx, rfl⟩ := Option.map_eq_some_iff.1 hj
      obtain ⟨hl2, rfl⟩ := List.getElem?_eq_some_iff.1 hx
      obtain ⟨ad2, h2, h3⟩ := Kd.at_string hr (j : Int) (by omega) (by omega)
      injection h2 with h2
      subst h2
      rw [Int.toNat_natCast] at h3
      rw [h3]
      simp [rdOf, hl2]
    obtain ⟨v1, W1, hrun, hown, hg, _, _⟩ := run_append_own_at (P := Tryz.prog) (w := W) W.heap.size 31 ty 26 i (.string ⟨#[]⟩) 1 16 Tryz.underlying31 hi hz0 hz1 hz2 rfl (by decide) (.slice none 0 0) 0 [] (World.ownsRow_nil _ _ _ _) ad l.length c (l.map Value.string) (by simp) hcell h1 (by omega) (by omega) (Nat.le_refl _)
    obtain ⟨A1, c1, rfl⟩ := own_slice hown
    rw [Nat.zero_add, List.nil_append] at hown
    exact ⟨A1, c1, W1, by rw [hrun, Nat.zero_add], (RowKit.Below.refl _ _).grown hg (Nat.le_refl _) (by simp [Value.ownBlock]), hown⟩
set_option maxRecDepth 100000 in
theorem append_text (base : Nat) (A1 : Option Addr) (c1 : Nat) (l : List ByteArray) (s : ByteArray) (W : World) (hown : W.ownsRow base 26 1 (.slice A1 l.length c1) l.length (l.map Value.string)) (hl : l.length ≤ 1000) (ad : Addr) (hc : W.cell? (ad.add 0) = some (.string s)) (hbase : base ≤ W.heap.size) (w0 : World) (hb : RowKit.Below base w0 W) (ty : TypeId) :
    ∃ A2 c2 W2, (Builtin.append_ #[31, 31] ty #[.slice A1 l.length c1, .slice (some ad) 1 1]).run Tryz.prog W = .ok (.slice A2 (l.length + 1) c2) W2 ∧ RowKit.Below base w0 W2 ∧ W2.ownsRow base 26 1 (.slice A2 (l.length + 1) c2) (l.length + 1) ((l ++ [s]).map Value.string) ∧
      Kd.C Kd.string W2 A2 (l ++ [s]).length (l ++ [s]) ∧ l.length + 1 ≤ c2 := by
  obtain ⟨i, hi, hz0, hz1, hz2⟩ := info_parts Rdr.infoT
  have h63 : maxLen = 9223372036854775807 := rfl
  obtain ⟨v2, W2, hrun2, hown2, hg2, _, _⟩ := run_append_own_at (P := Tryz.prog) (w := W) base 31 ty 26 i (.string ⟨#[]⟩) 1 16 Tryz.underlying31 hi hz0 hz1 hz2 rfl (by decide) (.slice A1 l.length c1) l.length (l.map Value.string) hown ad 1 1 [.string s] rfl
    (by
      intro j u hj
      match j, hj with
      | 0, hj => simp at hj; subst hj; exact hc)
    (by intro u hu; simp at hu; subst hu; rfl) (by omega) (by omega) hbase
  obtain ⟨A2, c2, rfl⟩ := own_slice hown2
  have e : (l.map Value.string ++ [Value.string s]) = (l ++ [s]).map Value.string := by simp
  rw [e] at hown2
  refine ⟨A2, c2, W2, hrun2, hb.grown hg2 hbase (fun k hk => (hown.lt k hk).1), hown2, ?_, ?_⟩
  · have hR := Rdr.R_of_own (l := l ++ [s]) (by simpa using hown2)
    exact (Kd.R_reads' hR).2.2
  · rcases hown2.2 with ⟨h, _⟩ | ⟨g, cap, cur, h, _, _, h3, _⟩
    · injection h with _ h _; omega
    · injection h with h4 h5 h6; omega
theorem step_qq {ops : Array Oper} {o : Oper} {a : Act} {Kc : Act → World → Prop} {Q : Exit → Act → World → Prop} {W W' : World} {v x v' : Value} (hw : Region.wanted o (yielded ops a.tmps) = true) (s q : Operand)
    (ho : o.op = Op.call { callee := Callee.builtin Builtin.append, args := #[s, q], argTypes := #[31, 31] }) (hs : a.eval s = v) (hx : a.eval q = x)
    (hrun : (Builtin.append_ #[31, 31] o.type #[v, x]).run Tryz.prog W = .ok v' W') (h : Kc (a.put o.dst v') W') :
    if Region.wanted o (yielded ops a.tmps) = true then Oper.wp Tryz.prog o a W Kc Q else Kc (a.put o.dst undef) W := by
  rw [if_pos hw]
  unfold Oper.wp execOp
  simp only [ho, resolve, invoke, builtin, Sem.run_bind, Sem.run_pure, Result.andThen_ok, List.map_toArray, List.map_cons, List.map_nil, hs, hx, hrun]
  exact h
/-- A struct of two cells in a block. -/
def EpAt (w : World) (g : Nat) (v : Int) (k : ByteArray) : Prop := w.heap[g]? = some (.cells #[.int .i64 v, .string k] 36 (0, 0))
theorem EpAt.lt {w : World} {g : Nat} {v : Int} {k : ByteArray} (h : EpAt w g v k) : g < w.heap.size := (Array.getElem?_eq_some_iff.1 h).1
theorem EpAt.after {w w' : World} {g : Nat} {v : Int} {k : ByteArray} (h : EpAt w g v k) (hb : RowKit.Below w.heap.size w w') : EpAt w' g v k := (hb.block g h.lt).trans h
theorem EpAt.cells {w : World} {g : Nat} {v : Int} {k : ByteArray} (h : EpAt w g v k) : w.cell? ⟨g, 0, none⟩ = some (.int .i64 v) ∧ w.cell? ⟨g, 1, none⟩ = some (.string k) := ⟨cell_of_row w g 0 _ _ (0, 0) h, cell_of_row w g 1 _ _ (0, 0) h⟩
/-- The keys of a view's root. -/
theorem any_root (s : Nat) (hs : s < 65536) (h : s ≠ 0) : Any s 1 := by
  rw [any_iff (by decide) (by decide)]
  have e : maskN 1 = 2 ^ 16 - 1 := by decide
  rw [e, Nat.and_two_pow_sub_one_eq_mod]
  omega
theorem told_all {k : List ByteArray} {was is : Nat} (hg : Good k was) (hw : was < 65536) (hi : is < 65536) {first : Int} (h0 : 0 ≤ first) (hf : first + 15 ≤ 65535) : ∀ s ∈ (rekeyF (was : Int) (is : Int) k first).2.1, ∃ C n X, s = (tTm C n X).str := by
  rw [rekey_good hg hw hi h0 hf]
  intro s hs
  obtain ⟨p, hp, rfl⟩ := List.mem_map.1 hs
  obtain ⟨n, c, C, X, h⟩ := step_ok hg hw hi h0 hf p hp
  exact ⟨C, n, X, by rw [h.told]⟩
end Go.Proofs.YtkmpfmhbkflgpaaGreatDoor.Pr

/- epoch.Seal, at a view's key. -/
set_option linter.unusedVariables false
set_option linter.unusedSimpArgs false
namespace Go.Proofs.YtkmpfmhbkflgpaaGreatDoor.Pr
open Go.RowKit Go.Proofs.YtkmpfmhbkflgpaaGreatDoorW.PrintWords Go.Proofs.YtkmpfmhbkflgpaaGreatDoorW.PrintLast Go.Proofs.YtkmpfmhbkflgpaaGreatDoorW.PrintMore Go.Proofs.YtkmpfmhbkflgpaaGreatDoor.TT Go.Proofs.YtkmpfmhbkflgpaaGreatDoor.Kw

theorem lit2 (w : World) (a b : ByteArray) : Kd.C Kd.string (w.alloc (.cells #[.string a, .string b] 26 (0, 0))) (some ⟨w.heap.size, 0, none⟩) 2 [a, b] := by
  refine Kd.C_of_reads (d := ByteArray.empty) ⟨rfl, by simp, fun _ => ⟨_, rfl, fun j hj => ?_⟩⟩
  have hj' : j < 2 := by simpa using hj
  rcases (by omega : j = 0 ∨ j = 1) with rfl | rfl
  · exact blk_cell (blk_new w _) 0
  · exact blk_cell (blk_new w _) 1
def cTm (t : ByteArray) : Tm := .const t.data.toList
def pTm (v : Int) (t : ByteArray) : Tm := .two 112 (vTm v) (cTm t)
def sTm (v a : Int) (t : ByteArray) : Tm := .two 115 (eTm v a) (pTm v t)
theorem cTm_ok (t : ByteArray) (h : t.size ≤ 40) : (cTm t).ok ∧ (cTm t).depth = 1 ∧ (cTm t).enc.length ≤ 42 := by
  have q : t.data.toList.length = t.size := Ev03.len_eq t
  unfold cTm
  exact ⟨by simp only [Tm.ok]; omega, by simp [Tm.depth], by simp only [Tm.enc, List.length_cons]; omega⟩
theorem pTm_ok (v : Int) (t : ByteArray) (h : t.size ≤ 40) : (pTm v t).ok ∧ (pTm v t).depth ≤ 2 ∧ (pTm v t).enc.length ≤ 50 := by
  obtain ⟨o1, d1, l1⟩ := cTm_ok t h
  obtain ⟨o2, d2, l2⟩ := vTm_ok v
  unfold pTm
  refine ⟨?_, ?_, ?_⟩
  · simp only [Tm.ok]; exact ⟨by decide, o2, o1⟩
  · simp only [Tm.depth]; omega
  · simp only [Tm.enc, List.length_cons, List.length_append]; omega
theorem sTm_ok (v a : Int) (t : ByteArray) (h : t.size ≤ 40) : (sTm v a t).ok ∧ (sTm v a t).depth ≤ 3 ∧ (sTm v a t).enc.length ≤ 60 := by
  obtain ⟨o1, d1, l1⟩ := pTm_ok v t h
  obtain ⟨o2, d2, l2⟩ := eTm_ok v a
  unfold sTm
  refine ⟨?_, ?_, ?_⟩
  · simp only [Tm.ok]; exact ⟨by decide, o2, o1⟩
  · simp only [Tm.depth]; omega
  · simp only [Tm.enc, List.length_cons, List.length_append]; omega
theorem sTm_check (v a : Int) (t : ByteArray) (h : t.size ≤ 40) : check (sTm v a t).str = 0 := by
  obtain ⟨o, d, l⟩ := sTm_ok v a t h
  exact check_str o (by omega) (by omega)
theorem right_calls (v a : Int) (h0 : 0 ≤ v) (h1 : v ≤ 1000) (w : World) :
    Calls Tryz.prog 28 #[.agg #[.int .i64 v, .string (eTm v a).str]] w fun e w' => e = .returned (.bool true) ∧ RowKit.Below w.heap.size w w' := by
  refine epoch_Right.calls v (eTm v a).str _ w ?_
  unfold epoch_Right.f epoch_viewed.f
  rw [if_pos h0, Option.bind_some, decide_eq_true h1, if_pos rfl]
  simp only [term_Check.f, Option.bind_some]
  rw [eTm_check]
  rfl
theorem const_calls (t : ByteArray) (h : t.size ≤ 40) (w : World) :
    Calls Tryz.prog 29 #[.string t] w fun e w' => e = .returned (.tuple #[.string (cTm t).str, .int .i64 0]) ∧ RowKit.Below w.heap.size w w' := by
  refine term_NewConst.calls t _ _ w ?_
  rw [Ev03.const_spec]
  unfold Ev03.constOf
  rw [if_neg (by omega)]
  rfl
theorem name_calls (v : Int) (w : World) :
    Calls Tryz.prog 27 #[.int .i64 v] w fun e w' => e = .returned (.string (vTm v).str) ∧ RowKit.Below w.heap.size w w' := epoch_name.calls v _ w (name_str v)
theorem make_calls (k : UInt8) (hk : isTwo k = true) (s t : Tm) (hs : s.ok) (ht : t.ok) (ds : s.depth ≤ 50) (dt : t.depth ≤ 50) (ls : s.enc.length ≤ 900) (lt : t.enc.length ≤ 900) (w : World) :
    Calls Tryz.prog 16 #[.int .u8 k.toNat, .slice (some ⟨w.heap.size, 0, none⟩) 2 2] (w.alloc (.cells #[.string s.str, .string t.str] 26 (0, 0))) fun e w' => e = .returned (.tuple #[.string (Tm.two k s t).str, .int .i64 0]) ∧ RowKit.Below w.heap.size w w' := by
  have hm : term_Make.f (k.toNat : Int) [s.str, t.str] = some ((Tm.two k s t).str, 0) := by
    unfold term_Make.f
    rw [if_pos (by have := k.toNat_lt; omega), show UInt8.ofNat ((k.toNat : Nat) : Int).toNat = k by simp, make_two hk hs ht ds dt ls lt]
  refine (term_Make.calls (k.toNat : Int) _ 2 [s.str, t.str] _ 0 _ (lit2 w s.str t.str) (by simp) hm).mono ?_
  rintro e w' ⟨he, hb⟩
  exact ⟨he, ((RowKit.Below.refl w.heap.size w).alloc (Nat.le_refl _) _).trans (hb.mono (by simp))⟩
/-- A sealed text in a block. -/
def SeAt (w : World) (g : Nat) (v : Int) (k : ByteArray) : Prop := w.heap[g]? = some (.cells #[.int .i64 v, .string k] 40 (0, 0))
theorem SeAt.lt {w : World} {g : Nat} {v : Int} {k : ByteArray} (h : SeAt w g v k) : g < w.heap.size := (Array.getElem?_eq_some_iff.1 h).1
theorem SeAt.row {w : World} {g : Nat} {v : Int} {k : ByteArray} (h : SeAt w g v k) : w.heap[g]? = some (.cells #[.int .i64 v, .string k] 40 (0, 0)) := h
theorem SeAt.after {w w' : World} {g : Nat} {v : Int} {k : ByteArray} (h : SeAt w g v k) (hb : RowKit.Below w.heap.size w w') : SeAt w' g v k := (hb.block g h.lt).trans h
theorem SeAt.cells {w : World} {g : Nat} {v : Int} {k : ByteArray} (h : SeAt w g v k) : w.cell? ⟨g, 0, none⟩ = some (.int .i64 v) ∧ w.cell? ⟨g, 1, none⟩ = some (.string k) := ⟨cell_of_row w g 0 _ _ (0, 0) h, cell_of_row w g 1 _ _ (0, 0) h⟩
theorem SeAt.frozen {w : World} {g : Nat} {v : Int} {k : ByteArray} (h : SeAt w g v k) (j : Nat) : w.frozen? ⟨g, j, none⟩ = false := frozen_of_row w g j _ _ h
theorem sealedInfo : (Tryz.prog.info? 40).map (·.size) = some 2 := by kernel_rfl
set_option maxHeartbeats 4000000 in
set_option maxRecDepth 100000 in
theorem seal_calls (v a : Int) (h0 : 0 ≤ v) (h1 : v ≤ 1000) (t : ByteArray) (ht : t.size ≤ 40) (w : World) :
    Calls Tryz.prog 8 #[.agg #[.int .i64 v, .string (eTm v a).str], .string t] w fun e w' => e = .returned (.tuple #[.agg #[.int .i64 v, .string (sTm v a t).str], .int .i64 0]) ∧ RowKit.Below w.heap.size w w' := by
  have hrt := right_calls v a h0 h1
  have hct := const_calls t ht
  have hnm := name_calls v
  obtain ⟨o1, d1, l1⟩ := cTm_ok t ht
  obtain ⟨o2, d2, l2⟩ := vTm_ok v
  obtain ⟨o3, d3, l3⟩ := pTm_ok v t ht
  obtain ⟨o4, d4, l4⟩ := eTm_ok v a
  have hm1 := make_calls 112 (by decide) (vTm v) (cTm t) o2 o1 (by omega) (by omega) (by omega) (by omega)
  have hm2 := make_calls 115 (by decide) (eTm v a) (pTm v t) o4 o3 (by omega) (by omega) (by omega) (by omega)
  rw [show Tm.two 112 (vTm v) (cTm t) = pTm v t from rfl] at hm1
  rw [show Tm.two 115 (eTm v a) (pTm v t) = sTm v a t from rfl] at hm2
  simp only [show (((112 : UInt8).toNat : Nat) : Int) = 112 from rfl] at hm1
  simp only [show (((115 : UInt8).toNat : Nat) : Int) = 115 from rfl] at hm2
  clear o1 o2 o3 o4 d1 d2 d3 d4 l1 l2 l3 l4
  generalize (eTm v a).str = K at hrt hm2 ⊢
  generalize (sTm v a t).str = Sd at hm2 ⊢
  generalize (pTm v t).str = Pd at hm1 hm2
  generalize (vTm v).str = Nv at hnm hm1
  generalize (cTm t).str = Ct at hct hm1
  go_enter Tryz.func8, Tryz.ntmps8
  have HE := Lib.hid (show EpAt ((w.alloc (.cells #[.int .i64 v, .string K] 36)).alloc (.cells #[.int .i64 0, .string ⟨#[]⟩] 40)) w.heap.size v K from (Below.heap_alloc _ _ _ (by simp)).trans (heap_alloc_new w _))
  have HR := Lib.hid (show SeAt ((w.alloc (.cells #[.int .i64 v, .string K] 36)).alloc (.cells #[.int .i64 0, .string ⟨#[]⟩] 40)) (w.heap.size + 1) 0 ⟨#[]⟩ from by
    have := heap_alloc_new (w.alloc (.cells #[.int .i64 v, .string K] 36)) (.cells #[.int .i64 0, .string ⟨#[]⟩] 40)
    have hz : (w.alloc (.cells #[.int .i64 v, .string K] 36)).heap.size = w.heap.size + 1 := by simp
    rw [hz] at this
    exact this)
  have HB := Lib.hid (((RowKit.Below.refl w.heap.size w).alloc (Nat.le_refl _) (.cells #[.int .i64 v, .string K] 36)).alloc (by simp) (.cells #[.int .i64 0, .string ⟨#[]⟩] 40))
  go_wp2_with fail
  generalize (w.alloc (.cells #[.int .i64 v, .string K] 36)).alloc (.cells #[.int .i64 0, .string ⟨#[]⟩] 40) = W at HE HR HB ⊢
  refine (hrt W).mono ?_
  rintro e w1 ⟨rfl, hb⟩
  replace HE := Lib.hid (HE.out.after hb); replace HR := Lib.hid (HR.out.after hb); replace HB := Lib.hid (HB.out.trans (hb.mono HB.out.size)); clear hb
  go_wp2_with fail
  refine (hct w1).mono ?_
  rintro e w2 ⟨rfl, hb⟩
  replace HE := Lib.hid (HE.out.after hb); replace HR := Lib.hid (HR.out.after hb); replace HB := Lib.hid (HB.out.trans (hb.mono HB.out.size)); clear hb
  obtain ⟨c0, c1⟩ := HE.out.cells
  go_wp2_with fail
  refine (hnm w2).mono ?_
  rintro e w3 ⟨rfl, hb⟩
  replace HE := Lib.hid (HE.out.after hb); replace HR := Lib.hid (HR.out.after hb); replace HB := Lib.hid (HB.out.trans (hb.mono HB.out.size)); clear hb c0 c1
  go_wp2_with fail
  refine (hm1 w3).mono ?_
  rintro e w4 ⟨rfl, hb⟩
  replace HE := Lib.hid (HE.out.after hb); replace HR := Lib.hid (HR.out.after hb); replace HB := Lib.hid (HB.out.trans (hb.mono HB.out.size)); clear hb
  obtain ⟨c0, c1⟩ := HE.out.cells
  go_wp2_with fail
  refine (hm2 w4).mono ?_
  rintro e w5 ⟨rfl, hb⟩
  replace HE := Lib.hid (HE.out.after hb); replace HR := Lib.hid (HR.out.after hb); replace HB := Lib.hid (HB.out.trans (hb.mono HB.out.size)); clear hb c0 c1
  obtain ⟨c0, c1⟩ := HE.out.cells
  obtain ⟨e0, e1⟩ := HR.out.cells
  have f0 := HR.out.frozen 0; have f1 := HR.out.frozen 1
  go_wp2_with fail
  have hfin := (show SeAt _ (w.heap.size + 1) v Sd from heap_setCell_same _ _ 1 _ _ (.string Sd) (heap_setCell_same _ _ 0 _ _ (.int .i64 v) HR.out.row))
  refine bodyPost_ret (results_cell_row1 rfl _ _ _ _ _ _ _ rfl hfin.row Tryz.underlying40 rfl sealedInfo) rfl ?_
  have hle : w.heap.size ≤ w.heap.size + 1 := Nat.le_succ _
  exact ⟨rfl, (HB.out.setCell (p := ⟨w.heap.size + 1, 0, none⟩) hle _).setCell (p := ⟨w.heap.size + 1, 1, none⟩) hle _⟩
end Go.Proofs.YtkmpfmhbkflgpaaGreatDoor.Pr

/- epoch.Open, at a view's key and what was sealed by it. Printed by genopen.py. -/
set_option linter.unusedVariables false
set_option linter.unusedSimpArgs false
namespace Go.Proofs.YtkmpfmhbkflgpaaGreatDoor.Pr
open Go.RowKit Go.Proofs.YtkmpfmhbkflgpaaGreatDoorW.PrintWords Go.Proofs.YtkmpfmhbkflgpaaGreatDoorW.PrintLast Go.Proofs.YtkmpfmhbkflgpaaGreatDoorW.PrintMore Go.Proofs.YtkmpfmhbkflgpaaGreatDoor.TT Go.Proofs.YtkmpfmhbkflgpaaGreatDoor.Kw

theorem open_sealed (v a : Int) (t : ByteArray) (ht : t.size ≤ 40) : Ev03.openOf (eTm v a).str (sTm v a t).str = ((pTm v t).str, 0) := by
  unfold Ev03.openOf
  rw [if_pos (eTm_check v a), if_pos (sTm_check v a t ht), read_str _ (sTm_ok v a t ht).1]
  unfold sTm
  simp only
  rw [if_pos trivial, if_pos trivial]
theorem parts_sealed (v : Int) (t : ByteArray) (ht : t.size ≤ 40) : partsOf (pTm v t).str = (112, [(vTm v).str, (cTm t).str], 0) := by
  obtain ⟨o, d, l⟩ := pTm_ok v t ht
  rw [partsOf_str o (by omega) (by omega)]
  rfl
theorem const_bytes (t : ByteArray) : ∃ n : UInt8, (cTm t).str = strOf (99 :: n :: t.data.toList) := ⟨_, rfl⟩
theorem tail_text (n : UInt8) (t : ByteArray) : (strOf (99 :: n :: t.data.toList)).extract 2 (strOf (99 :: n :: t.data.toList)).size = t := by
  apply ByteArray.ext
  apply Array.ext'
  rw [ByteArray.data_extract, Array.toList_extract, strOf_data, strOf_size]
  simp only [List.length_cons, List.drop_succ_cons, List.drop_zero]
  exact List.take_of_length_le (by simp)
attribute [local go_sem] beq_self_eq_true bne_self_eq_false   -- for this text's walk alone
set_option maxHeartbeats 8000000 in
set_option maxRecDepth 100000 in
theorem opened_calls (v a : Int) (h0 : 0 ≤ v) (h1 : v ≤ 1000) (t : ByteArray) (ht : t.size ≤ 40) (w : World) :
    Calls Tryz.prog 14 #[.agg #[.int .i64 v, .string (eTm v a).str], .agg #[.int .i64 v, .string (sTm v a t).str]] w fun e w' => e = .returned (.tuple #[.string t, .int .i64 0]) ∧ RowKit.Below w.heap.size w w' := by
  have hrt := right_calls v a h0 h1
  have hnm := name_calls v
  have hop := open_calls (eTm v a).str (sTm v a t).str
  rw [open_sealed v a t ht] at hop
  have hpa := parts_calls (pTm v t).str
  rw [parts_sealed v t ht] at hpa
  obtain ⟨nb, hcb⟩ := const_bytes t
  rw [hcb] at hpa
  clear hcb
  generalize (eTm v a).str = K at hrt hop ⊢
  generalize (sTm v a t).str = Sd at hop ⊢
  generalize (pTm v t).str = Pd at hop hpa
  generalize (vTm v).str = Nv at hnm hpa
  go_enter Tryz.func14, Tryz.ntmps14
  have HE := Lib.hid (show EpAt ((w.alloc (.cells #[.int .i64 v, .string K] 36)).alloc (.cells #[.int .i64 v, .string Sd] 40)) w.heap.size v K from (Below.heap_alloc _ _ _ (by simp)).trans (heap_alloc_new w _))
  have HR := Lib.hid (show SeAt ((w.alloc (.cells #[.int .i64 v, .string K] 36)).alloc (.cells #[.int .i64 v, .string Sd] 40)) (w.heap.size + 1) v Sd from by
    have := heap_alloc_new (w.alloc (.cells #[.int .i64 v, .string K] 36)) (.cells #[.int .i64 v, .string Sd] 40)
    have hz : (w.alloc (.cells #[.int .i64 v, .string K] 36)).heap.size = w.heap.size + 1 := by simp
    rw [hz] at this
    exact this)
  have HB := Lib.hid (((RowKit.Below.refl w.heap.size w).alloc (Nat.le_refl _) (.cells #[.int .i64 v, .string K] 36)).alloc (by simp) (.cells #[.int .i64 v, .string Sd] 40))
  go_wp2_with fail
  generalize (w.alloc (.cells #[.int .i64 v, .string K] 36)).alloc (.cells #[.int .i64 v, .string Sd] 40) = W at HE HR HB ⊢
  refine (hrt W).mono ?_
  rintro e w1 ⟨rfl, hb⟩
  replace HE := Lib.hid (HE.out.after hb); replace HR := Lib.hid (HR.out.after hb); replace HB := Lib.hid (HB.out.trans (hb.mono HB.out.size)); clear hb
  obtain ⟨c0, c1⟩ := HE.out.cells
  obtain ⟨e0, e1⟩ := HR.out.cells
  go_wp2_with fail
  refine (hop w1).mono ?_
  rintro e w2 ⟨rfl, hb⟩
  replace HE := Lib.hid (HE.out.after hb); replace HR := Lib.hid (HR.out.after hb); replace HB := Lib.hid (HB.out.trans (hb.mono HB.out.size)); clear hb c0 c1 e0 e1
  go_wp2_with fail
  refine (hpa w2).mono ?_
  rintro e w3 ⟨vv, rfl, hr, hb⟩
  replace HE := Lib.hid (HE.out.after hb); replace HR := Lib.hid (HR.out.after hb); replace HB := Lib.hid (HB.out.trans (hb.mono HB.out.size)); clear hb
  obtain ⟨A, cp, ev⟩ := Kd.R_slice hr
  subst ev
  obtain ⟨ad, e1, _⟩ := Kd.at_string (Kd.R_reads' hr).2.2 0 (by omega) (by simp)
  subst e1
  obtain ⟨g, eg⟩ := Kd.R_head hr
  subst eg
  have hcl : ∀ w', RowKit.Below w3.heap.size w3 w' → w'.cell? ⟨g, 0, none⟩ = some (.string Nv) ∧ w'.cell? ⟨g, 1, none⟩ = some (.string (strOf (99 :: nb :: t.data.toList))) := by
    intro w' h6
    obtain ⟨ad', e1, ha2⟩ := Kd.at_string (Kd.R_reads' (Kd.R_below hr h6)).2.2 0 (by omega) (by simp)
    injection e1 with e1
    subst e1
    obtain ⟨ad', e1, hb2⟩ := Kd.at_string (Kd.R_reads' (Kd.R_below hr h6)).2.2 1 (by omega) (by simp)
    injection e1 with e1
    subst e1
    exact ⟨ha2, hb2⟩
  have HCL := Lib.hid hcl
  clear hcl hr
  go_wp2_with fail
  have HSt : ∀ w' : World, RowKit.Below w3.heap.size w3 w' → (RowKit.Below w3.heap.size w3 w' ∧ w'.cell? ⟨g, 0, none⟩ = some (.string Nv) ∧ w'.cell? ⟨g, 1, none⟩ = some (.string (strOf (99 :: nb :: t.data.toList))) ∧ w'.cell? ⟨w.heap.size, 0, none⟩ = some (.int .i64 v)) := fun w' h => ⟨h, (HCL.out w' h).1, (HCL.out w' h).2, (h.cell (p := ⟨w.heap.size, 0, none⟩) HE.out.lt).trans HE.out.cells.1⟩
  refine wp_region_noPanic ?_
  refine wp_region_held_drew (S := (fun w' => RowKit.Below w3.heap.size w3 w' ∧ w'.cell? ⟨g, 0, none⟩ = some (.string Nv) ∧ w'.cell? ⟨g, 1, none⟩ = some (.string (strOf (99 :: nb :: t.data.toList))) ∧ w'.cell? ⟨w.heap.size, 0, none⟩ = some (.int .i64 v))) (by kernel_rfl) (HSt _ ((RowKit.Below.refl _ _).drew)) (fun hHeld => ?_)
  refine wpAnyH_take (oi := ⟨_, _, _, _, _, _⟩) (i := 0) (v := ?_) rfl (by kernel_rfl) (by kernel_rfl) (by kernel_rfl) (fun _ _ _ h => h) (Or.inl ⟨by rfl, ?_⟩) (by assumption) ?_
  rotate_left
  · intro w hSw; (try dsimp only at hSw); first | (go_simp; done) | (go_simp; with_reducible rfl)
  try simp only [Act.put, List.setIfInBounds_toArray, List.set_cons_zero, List.set_cons_succ]
  refine wpAnyH_take (oi := ⟨_, _, _, _, _, _⟩) (i := 1) (v := ?_) rfl (by kernel_rfl) (by kernel_rfl) (by kernel_rfl) (fun _ _ _ h => h) (Or.inl ⟨by rfl, ?_⟩) (by assumption) ?_
  rotate_left
  · intro w hSw; (try dsimp only at hSw); first | (go_simp; done) | (go_simp; with_reducible rfl)
  try simp only [Act.put, List.setIfInBounds_toArray, List.set_cons_zero, List.set_cons_succ]
  refine wpAnyH_take (oi := ⟨_, _, _, _, _, _⟩) (i := 2) (v := ?_) rfl (by kernel_rfl) (by kernel_rfl) (by kernel_rfl) (fun _ _ _ h => h) (Or.inl ⟨by rfl, ?_⟩) (by assumption) ?_
  rotate_left
  · intro w hSw; (try dsimp only at hSw); first | (go_simp; done) | (go_simp; with_reducible rfl)
  try simp only [Act.put, List.setIfInBounds_toArray, List.set_cons_zero, List.set_cons_succ]
  refine wpAnyH_take (oi := ⟨_, _, _, _, _, _⟩) (i := 3) (v := ?_) rfl (by kernel_rfl) (by kernel_rfl) (by kernel_rfl) (fun _ _ _ h => h) (Or.inl ⟨by rfl, ?_⟩) (by assumption) ?_
  rotate_left
  · intro w hSw; (try dsimp only at hSw); first | (go_simp; done) | (go_simp; with_reducible rfl)
  try simp only [Act.put, List.setIfInBounds_toArray, List.set_cons_zero, List.set_cons_succ]
  refine wpAnyH_take (oi := ⟨_, _, _, _, _, _⟩) (i := 4) (v := ?_) rfl (by kernel_rfl) (by kernel_rfl) (by kernel_rfl) (fun _ _ _ h => h) (Or.inl ⟨by rfl, ?_⟩) (by assumption) ?_
  rotate_left
  · intro w hSw; (try dsimp only at hSw); first | (go_simp; done) | (go_simp; with_reducible rfl)
  try simp only [Act.put, List.setIfInBounds_toArray, List.set_cons_zero, List.set_cons_succ]
  refine wpAnyH_take (oi := ⟨_, _, _, _, _, _⟩) (i := 5) (v := ?_) rfl (by kernel_rfl) (by kernel_rfl) (by kernel_rfl) (fun _ _ _ h => h) (Or.inl ⟨by rfl, ?_⟩) (by assumption) ?_
  rotate_left
  · intro w hSw; (try dsimp only at hSw); first | (go_simp; done) | (go_simp; with_reducible rfl)
  try simp only [Act.put, List.setIfInBounds_toArray, List.set_cons_zero, List.set_cons_succ]
  refine wpAnyH_take (oi := ⟨_, _, _, _, _, _⟩) (i := 6) (v := ?_) rfl (by kernel_rfl) (by kernel_rfl) (by kernel_rfl) (fun _ _ _ h => h) (Or.inl ⟨by rfl, ?_⟩) (by assumption) ?_
  rotate_left
  · intro w hSw; (try dsimp only at hSw); first | (go_simp; done) | (go_simp; with_reducible rfl)
  try simp only [Act.put, List.setIfInBounds_toArray, List.set_cons_zero, List.set_cons_succ]
  refine wpAnyH_take (oi := ⟨_, _, _, _, _, _⟩) (i := 7) (v := ?_) rfl (by kernel_rfl) (by kernel_rfl) (by kernel_rfl) (fun _ _ _ h => h) (Or.inl ⟨by rfl, ?_⟩) (by assumption) ?_
  rotate_left
  · intro w hSw; (try dsimp only at hSw); first | (go_simp; done) | (go_simp; with_reducible rfl)
  try simp only [Act.put, List.setIfInBounds_toArray, List.set_cons_zero, List.set_cons_succ]
  refine wpAnyH_ready (rs := [8]) (by kernel_rfl) (by simp) ?_
  refine AllReadyH.cons (o := ⟨_, _, _, _, _, _⟩) rfl (fun K hK => ?_) AllReadyH.nil
  go_simp
  refine (hnm _).mono ?_; rintro e w' ⟨rfl, hb⟩; (try go_wp2_with fail)
  refine hK.out _ _ (HSt _ (hHeld.1.trans (hb.mono hHeld.1.size))) (fun hHeld => ?_)
  clear hK K
  try simp only [Act.put, List.setIfInBounds_toArray, List.set_cons_zero, List.set_cons_succ]
  refine wpAnyH_take (oi := ⟨_, _, _, _, _, _⟩) (i := 9) (v := ?_) rfl (by kernel_rfl) (by kernel_rfl) (by kernel_rfl) (fun _ _ _ h => h) (Or.inl ⟨by rfl, ?_⟩) (by assumption) ?_
  rotate_left
  · intro w hSw; (try dsimp only at hSw); first | (go_simp; done) | (go_simp; with_reducible rfl)
  try simp only [Act.put, List.setIfInBounds_toArray, List.set_cons_zero, List.set_cons_succ]
  refine wpAnyH_take (oi := ⟨_, _, _, _, _, _⟩) (i := 10) (v := ?_) rfl (by kernel_rfl) (by kernel_rfl) (by kernel_rfl) (fun _ _ _ h => h) (Or.inl ⟨by rfl, ?_⟩) (by assumption) ?_
  rotate_left
  · intro w hSw; (try dsimp only at hSw); first | (go_simp; done) | (go_simp; with_reducible rfl)
  try simp only [Act.put, List.setIfInBounds_toArray, List.set_cons_zero, List.set_cons_succ]
  refine wpAnyH_take (oi := ⟨_, _, _, _, _, _⟩) (i := 11) (v := ?_) rfl (by kernel_rfl) (by kernel_rfl) (by kernel_rfl) (fun _ _ _ h => h) (Or.inl ⟨by rfl, ?_⟩) (by assumption) ?_
  rotate_left
  · intro w hSw; (try dsimp only at hSw); first | (go_simp; done) | (go_simp; with_reducible rfl)
  try simp only [Act.put, List.setIfInBounds_toArray, List.set_cons_zero, List.set_cons_succ]
  refine wpAnyH_take (oi := ⟨_, _, _, _, _, _⟩) (i := 12) (v := ?_) rfl (by kernel_rfl) (by kernel_rfl) (by kernel_rfl) (fun _ _ _ h => h) (Or.inl ⟨by rfl, ?_⟩) (by assumption) ?_
  rotate_left
  · intro w hSw; (try dsimp only at hSw); first | (go_simp; done) | (go_simp; with_reducible rfl)
  try simp only [Act.put, List.setIfInBounds_toArray, List.set_cons_zero, List.set_cons_succ]
  refine wpAnyH_take (oi := ⟨_, _, _, _, _, _⟩) (i := 13) (v := ?_) rfl (by kernel_rfl) (by kernel_rfl) (by kernel_rfl) (fun _ _ _ h => h) (Or.inl ⟨by rfl, ?_⟩) (by assumption) ?_
  rotate_left
  · intro w hSw; (try dsimp only at hSw); first | (go_simp; done) | (go_simp; with_reducible rfl)
  try simp only [Act.put, List.setIfInBounds_toArray, List.set_cons_zero, List.set_cons_succ]
  refine wpAnyH_take (oi := ⟨_, _, _, _, _, _⟩) (i := 14) (v := ?_) rfl (by kernel_rfl) (by kernel_rfl) (by kernel_rfl) (fun _ _ _ h => h) (Or.inl ⟨by rfl, ?_⟩) (by assumption) ?_
  rotate_left
  · intro w hSw; (try dsimp only at hSw); first | (go_simp; done) | (go_simp; with_reducible rfl)
  try simp only [Act.put, List.setIfInBounds_toArray, List.set_cons_zero, List.set_cons_succ]
  refine wpAnyH_take (oi := ⟨_, _, _, _, _, _⟩) (i := 15) (v := .int .u8 99) rfl (by kernel_rfl) (by kernel_rfl) (by kernel_rfl) (fun _ _ _ h => h) (Or.inl ⟨by rfl, ?_⟩) (by assumption) ?_
  · intro w hSw; kernel_rfl
  try simp only [Act.put, List.setIfInBounds_toArray, List.set_cons_zero, List.set_cons_succ]
  refine wpAnyH_take (oi := ⟨_, _, _, _, _, _⟩) (i := 16) (v := ?_) rfl (by kernel_rfl) (by kernel_rfl) (by kernel_rfl) (fun _ _ _ h => h) (Or.inl ⟨by rfl, ?_⟩) (by assumption) ?_
  rotate_left
  · intro w hSw; (try dsimp only at hSw); first | (go_simp; done) | (go_simp; with_reducible rfl)
  try simp only [Act.put, List.setIfInBounds_toArray, List.set_cons_zero, List.set_cons_succ]
  refine wpAnyH_take (oi := ⟨_, _, _, _, _, _⟩) (i := 17) (v := ?_) rfl (by kernel_rfl) (by kernel_rfl) (by kernel_rfl) (fun _ _ _ h => h) (Or.inl ⟨by rfl, ?_⟩) (by assumption) ?_
  rotate_left
  · intro w hSw; (try dsimp only at hSw); first | (go_simp; done) | (go_simp; with_reducible rfl)
  try simp only [Act.put, List.setIfInBounds_toArray, List.set_cons_zero, List.set_cons_succ]
  refine wpAnyH_done (by kernel_rfl) ?_ _
  refine NoPanic.normal ?_
  have HB4 := Lib.hid (HB.out.trans (hHeld.1.mono HB.out.size))
  have cc := (HCL.out _ hHeld.1).2
  clear hHeld HSt
  have hs2 : (2 : Int) ≤ ((strOf (99 :: nb :: t.data.toList)).size : Int) := by rw [strOf_size]; simp only [List.length_cons]; omega
  have hex := tail_text nb t
  generalize strOf (99 :: nb :: t.data.toList) = Ct at hs2 hex cc
  go_wp2_with fail
  go_ret2
  exact ⟨rfl, HB4.out⟩
end Go.Proofs.YtkmpfmhbkflgpaaGreatDoor.Pr

/- WholeSecret: the plain law. Those who are none can't come to the view's key. -/
set_option linter.unusedVariables false
set_option linter.unusedSimpArgs false
namespace Go.Proofs.YtkmpfmhbkflgpaaGreatDoor.Pr
open Go.RowKit Go.Proofs.YtkmpfmhbkflgpaaGreatDoorW.PrintWords Go.Proofs.YtkmpfmhbkflgpaaGreatDoorW.PrintLast Go.Proofs.YtkmpfmhbkflgpaaGreatDoorW.PrintMore Go.Proofs.YtkmpfmhbkflgpaaGreatDoor.TT Go.Proofs.YtkmpfmhbkflgpaaGreatDoor.Kw

theorem isEmpty_empty : isEmpty ByteArray.empty = true := by
  unfold isEmpty
  rw [ByteArray.toList_eq]
  rfl
/-- The number of a node's key, when members m came to be. -/
def kn (m n : Nat) : Int := if 16 ≤ n then ((1000 + n : Nat) : Int) else 2000 + ((freshI ((0 : Nat) : Int) (m : Int)).idxOf (n : Int) : Int)
theorem kn_range (m n : Nat) (hn : n < 32) : 1000 ≤ kn m n ∧ kn m n < 2100 := by
  unfold kn
  split
  · omega
  · have h1 := fresh_len ((0 : Nat) : Int) (m : Int)
    have h2 : (freshI ((0 : Nat) : Int) (m : Int)).idxOf (n : Int) ≤ (freshI ((0 : Nat) : Int) (m : Int)).length := List.idxOf_le_length
    omega
theorem idx_inj {α : Type} [BEq α] [LawfulBEq α] {l : List α} {a b : α} (ha : a ∈ l) (h : l.idxOf a = l.idxOf b) : a = b := by
  have h1 := List.idxOf_lt_length_of_mem ha
  have e1 : l[l.idxOf a]'h1 = a := List.getElem_idxOf h1
  have h2 : l.idxOf b < l.length := by omega
  have e2 : l[l.idxOf b]'h2 = b := List.getElem_idxOf h2
  rw [← e1, ← e2]
  congr 1
theorem grown_mem {m n : Nat} (h1 : 1 ≤ n) (h2 : n ≤ 15) (hA : Any m n) : (n : Int) ∈ freshI ((0 : Nat) : Int) (m : Int) := by
  have h := (any_iff h1 (by omega)).1 hA
  exact mem_fresh.2 ⟨n, rfl, h1, h2, by rw [Nat.zero_xor]; exact h, h⟩
theorem kn_inj {m a b : Nat} (ha : a < 32) (hb : b < 32) (h1 : 1 ≤ a) (hA : 16 ≤ a ∨ Any m a) (h2 : 1 ≤ b) (hB : 16 ≤ b ∨ Any m b) (h : kn m a = kn m b) : a = b := by
  unfold kn at h
  by_cases ca : 16 ≤ a
  · rw [if_pos ca] at h
    by_cases cb : 16 ≤ b
    · rw [if_pos cb] at h; omega
    · rw [if_neg cb] at h; omega
  · rw [if_neg ca] at h
    by_cases cb : 16 ≤ b
    · rw [if_pos cb] at h; omega
    · rw [if_neg cb] at h
      have := idx_inj (grown_mem h1 (by omega) (hA.resolve_left ca)) (show (freshI ((0 : Nat) : Int) (m : Int)).idxOf (a : Int) = (freshI ((0 : Nat) : Int) (m : Int)).idxOf (b : Int) by omega)
      omega
theorem grown_key {m : Nat} (hm : m < 65536) (n : Nat) (h1 : 1 ≤ n) (hn : n < 32) :
    (16 ≤ n ∨ Any m n → key (grownF (m : Int)).1 n = nonceN (kn m n)) ∧ (n ≤ 15 → ¬ Any m n → key (grownF (m : Int)).1 n = ByteArray.empty) := by
  have hx : (grownF (m : Int)).1 = leafUp (newKeys (m : Int) (freshI ((0 : Nat) : Int) (m : Int)) leavesL 2000) 16 := by
    unfold grownF
    have h := rekey_good (first := 2000) good_leaves (by decide) hm (by decide) (by decide)
    rw [show ((0 : Nat) : Int) = 0 from rfl] at h ⊢
    rw [h]
  have hl := newKeys_len (m : Int) (freshI ((0 : Nat) : Int) (m : Int)) leavesL 2000
  rw [hx, leafUp_key _ hl n hn 16 (Nat.le_refl _)]
  constructor
  · intro h
    unfold kn
    by_cases c : 16 ≤ n
    · rw [if_pos ⟨c, by omega⟩, if_pos c]
    · rw [if_neg (fun h => c h.1), if_neg c, new_key _ _ (fresh_range _ _) (fresh_nodup _ _) _ _ n hn, if_pos (grown_mem h1 (by omega) (h.resolve_left c))]
  · intro h2 hA
    rw [if_neg (by omega), new_key _ _ (fresh_range _ _) (fresh_nodup _ _) _ _ n hn]
    have hnm : ¬ (n : Int) ∈ freshI ((0 : Nat) : Int) (m : Int) := fun h => by
      obtain ⟨q, e, q1, q2, _, q4⟩ := mem_fresh.1 h
      have : n = q := by omega
      subst this
      exact hA ((any_iff q1 (by omega)).2 q4)
    have hb : ¬ (1 ≤ n ∧ belowI (m : Int) (n : Int) ≠ 0) := fun h => hA h.2
    rw [if_neg hnm, if_neg hb]
/-- What one who is none has: of a member that was, its keys; of others, the leaf's. -/
def hadF (was id : Nat) : List ByteArray := if bit was id then ownF (grownF (was : Int)).1 (pathI (id : Int)) else ownF leavesL (pathI (id : Int))
theorem hadF_len (was id : Nat) : (hadF was id).length = 32 := by unfold hadF; split <;> exact ownF_len _ _
def NF (was is : Nat) : Nat → List ByteArray
  | 0 => []
  | j + 1 => NF was is j ++ (if bit is j then [] else haveF (hadF was j))
theorem have_mem {ks : List ByteArray} (hl : ks.length = 32) {s : ByteArray} (h : s ∈ haveF ks) : ∃ j, 1 ≤ j ∧ j < 32 ∧ s = key ks j ∧ s ≠ ByteArray.empty := by
  unfold haveF keptL at h
  obtain ⟨h1, h2⟩ := List.mem_filter.1 h
  obtain ⟨i, hi, e⟩ := List.mem_iff_getElem.1 h1
  rw [List.length_drop] at hi
  refine ⟨1 + i, by omega, by omega, ?_, fun he => ?_⟩
  · rw [← e, List.getElem_drop]
    unfold key
    rw [List.getD_eq_getElem?_getD, List.getElem?_eq_getElem (by omega)]
    rfl
  · rw [he, isEmpty_empty] at h2
    exact absurd h2 (by decide)
theorem NF_mem {was is : Nat} {s : ByteArray} : ∀ {j : Nat}, s ∈ NF was is j → ∃ id, id < j ∧ bit is id = false ∧ s ∈ haveF (hadF was id)
  | 0, h => by cases h
  | j + 1, h => by
    unfold NF at h
    rcases List.mem_append.1 h with h | h
    · obtain ⟨id, h1, h2, h3⟩ := NF_mem h
      exact ⟨id, by omega, h2, h3⟩
    · cases hb : bit is j with
      | true => rw [hb, if_pos rfl] at h; cases h
      | false => rw [hb, if_neg (by decide)] at h; exact ⟨j, by omega, hb, h⟩
/-- A text of one who is none: a nonce, of a node on its way. -/
theorem none_text {was : Nat} (hw : was < 65536) {id : Nat} (hid : id < 16) {s : ByteArray} (h : s ∈ haveF (hadF was id)) :
    ∃ j, 1 ≤ j ∧ j < 32 ∧ onP id j = true ∧ s = nonceN (kn was j) ∧ (j = 16 + id ∨ bit was id = true ∧ Any was j) := by
  obtain ⟨j, h1, h2, e, hne⟩ := have_mem (hadF_len was id) h
  have hP : ∀ n ∈ pathI (id : Int), 0 ≤ n ∧ n ≤ 31 := fun n hn => by have := path_small hn; omega
  obtain ⟨w0, w1, w2⟩ := way_at hid
  unfold hadF at e
  cases hb : bit was id with
  | true =>
    rw [hb, if_pos rfl, ownF_key _ _ hP j h2] at e
    by_cases hon : (pathI (id : Int)).contains (j : Int) = true
    · rw [if_pos hon] at e
      have hA := any_path hw hid hb h1 h2 (show onP id j = true from hon)
      exact ⟨j, h1, h2, hon, e.trans ((grown_key hw j h1 h2).1 (.inr hA)), .inr ⟨rfl, hA⟩⟩
    · rw [if_neg hon] at e; exact absurd e hne
  | false =>
    rw [hb, if_neg (by decide), ownF_key _ _ hP j h2] at e
    by_cases hon : (pathI (id : Int)).contains (j : Int) = true
    · rw [if_pos hon] at e
      by_cases c : 16 ≤ j
      · have ej := (w2 j h2).2.2 hon c
        refine ⟨j, h1, h2, hon, ?_, .inl ej⟩
        rw [e, good_leaves.leaf j c h2]
        unfold kn
        rw [if_pos c]
      · have : key leavesL j = ByteArray.empty := by
          unfold leavesL
          rw [leafUp_key _ noKeys_len j h2 16 (Nat.le_refl _), if_neg (by omega), key_none]
        rw [this] at e
        exact absurd e hne
    · rw [if_neg hon] at e; exact absurd e hne
/-- No key of a step is among them; nor the root's new one. -/
theorem step_apart {was is : Nat} (hw : was < 65536) (hi : is < 65536) {id : Nat} (hid : id < 16) (hb : bit is id = false) {s : ByteArray} (h : s ∈ haveF (hadF was id)) {c : Nat} (hc : c < 32) (h1 : 1 ≤ c) (hA : Any is c) :
    s ≠ key (newKeys (is : Int) (freshI (was : Int) (is : Int)) (grownF (was : Int)).1 100) c := by
  obtain ⟨j, j1, j2, hon, e, hj⟩ := none_text hw hid h
  have hkj := kn_range was j j2
  intro he
  rw [e, new_key _ _ (fresh_range _ _) (fresh_nodup _ _) _ _ c hc] at he
  have inj : ∀ b : Int, 0 ≤ b ∧ b < 65536 → nonceN (kn was j) = nonceN b → kn was j = b := fun b hb h => by
    rw [nonce_str _ (by omega) (by omega), nonce_str b hb.1 hb.2] at h
    exact nonce_inj (by omega) hb h
  by_cases hm : (c : Int) ∈ freshI (was : Int) (is : Int)
  · rw [if_pos hm] at he
    have h2 := List.idxOf_lt_length_of_mem hm
    have h3 := fresh_len (was : Int) (is : Int)
    have := inj _ (by omega) he
    omega
  · have hA' : belowI (is : Int) (c : Int) ≠ 0 := hA
    rw [if_neg hm, if_pos ⟨h1, hA'⟩] at he
    have hno : id = id → c ≠ j := by
      rintro - rfl
      by_cases c16 : 16 ≤ c
      · have ec := ((way_at hid).2.2 c hc).2.2 hon c16
        obtain ⟨i, hi2, hb2, hm2⟩ := (below_ne hi hc).1 ((any_iff h1 (by omega)).1 hA)
        rw [mask_bit c i hc hi2] at hm2
        have ec2 := ((way_at hi2).2.2 c hc).2.2 hm2 c16
        have : i = id := by omega
        subst this
        rw [hb] at hb2
        exact absurd hb2 (by decide)
      · rcases hj with hj | ⟨hbw, _⟩
        · omega
        · refine hm (mem_fresh.2 ⟨c, rfl, h1, by omega, ?_, (any_iff h1 (by omega)).1 hA⟩)
          exact (below_ne (Nat.xor_lt_two_pow (n := 16) hw hi) hc).2 ⟨id, hid, by rw [bit_xor, hbw, hb]; rfl, by rw [mask_bit c id hc hid]; exact hon⟩
    have hwc : 16 ≤ c ∨ Any was c := by
      by_cases c16 : 16 ≤ c
      · exact .inl c16
      · exact .inr (any_old hw hi h1 (by omega) hA hm)
    rw [(grown_key hw c h1 hc).1 hwc] at he
    have hkc := kn_range was c hc
    have := inj _ (by omega) he
    have hwj : 16 ≤ j ∨ Any was j := by
      rcases hj with hj | hj
      · exact .inl (by omega)
      · exact .inr hj.2
    exact hno rfl (kn_inj hc j2 h1 hwc j1 hwj this.symm)
theorem own_few_all : ((List.range 16).all fun id => decide (((List.range' 1 31).filter fun j => onP id j).length ≤ 5)) = true := by decide +kernel
theorem have_few (k : List ByteArray) {id : Nat} (hid : id < 16) : (haveF (ownF k (pathI (id : Int)))).length ≤ 5 := by
  have hP : ∀ n ∈ pathI (id : Int), 0 ≤ n ∧ n ≤ 31 := fun n hn => by have := path_small hn; omega
  have hl := ownF_len k (pathI (id : Int))
  have e : (ownF k (pathI (id : Int))).drop 1 = (List.range' 1 31).map fun j => key (ownF k (pathI (id : Int))) j := by
    apply List.ext_getElem
    · simp [hl]
    · intro i h1 h2
      rw [List.length_drop] at h1
      rw [List.getElem_drop, List.getElem_map, List.getElem_range']
      unfold key
      rw [List.getD_eq_getElem?_getD, List.getElem?_eq_getElem (by omega)]
      simp
  unfold haveF keptL
  rw [e, List.filter_map, List.length_map]
  have h5 := of_decide_eq_true (List.all_eq_true.1 own_few_all id (List.mem_range.2 hid))
  refine Nat.le_trans ?_ h5
  rw [← List.countP_eq_length_filter, ← List.countP_eq_length_filter]
  refine List.countP_mono_left ?_
  intro j _ hj
  have h32 : j < 32 ∨ ¬ j < 32 := by omega
  rcases h32 with h32 | h32
  · simp only [Function.comp] at hj
    rw [ownF_key _ _ hP j h32] at hj
    by_cases hon : (pathI (id : Int)).contains (j : Int) = true
    · exact hon
    · rw [if_neg hon, isEmpty_empty] at hj; exact absurd hj (by decide)
  · simp only [Function.comp] at hj
    have : key (ownF k (pathI (id : Int))) j = ByteArray.empty := by unfold key; rw [List.getD_eq_getElem?_getD, List.getElem?_eq_none (by omega)]; rfl
    rw [this, isEmpty_empty] at hj
    exact absurd hj (by decide)
theorem NF_len (was is : Nat) : ∀ j, j ≤ 16 → (NF was is j).length ≤ 5 * j
  | 0, _ => by simp [NF]
  | j + 1, h => by
    have ih := NF_len was is j (by omega)
    unfold NF
    rw [List.length_append]
    have : (if bit is j then [] else haveF (hadF was j)).length ≤ 5 := by
      split
      · simp
      · unfold hadF
        split <;> exact have_few _ (by omega)
    omega
end Go.Proofs.YtkmpfmhbkflgpaaGreatDoor.Pr

/- WholeSecret: the plain law, joined. -/
set_option linter.unusedVariables false
set_option linter.unusedSimpArgs false
namespace Go.Proofs.YtkmpfmhbkflgpaaGreatDoor.Pr
open Go.RowKit Go.Proofs.YtkmpfmhbkflgpaaGreatDoorW.PrintWords Go.Proofs.YtkmpfmhbkflgpaaGreatDoorW.PrintLast Go.Proofs.YtkmpfmhbkflgpaaGreatDoorW.PrintMore Go.Proofs.YtkmpfmhbkflgpaaGreatDoor.TT Go.Proofs.YtkmpfmhbkflgpaaGreatDoor.Kw

/-- The sealed nonce. -/
def zTm (v b : Int) : Tm := .two 115 (eTm v b) (nTm 50000)
theorem zTm_ok (v b : Int) : (zTm v b).ok ∧ (zTm v b).depth ≤ 3 ∧ (zTm v b).enc.length ≤ 20 := by
  obtain ⟨o1, d1, l1⟩ := eTm_ok v b
  obtain ⟨o2, d2, l2⟩ := nTm_ok 50000
  unfold zTm
  refine ⟨?_, ?_, ?_⟩
  · simp only [Tm.ok]; exact ⟨by decide, o1, o2⟩
  · simp only [Tm.depth]; omega
  · simp only [Tm.enc, List.length_cons, List.length_append]; omega
theorem zTm_check (v b : Int) : check (zTm v b).str = 0 := by
  obtain ⟨o, d, l⟩ := zTm_ok v b
  exact check_str o (by omega) (by omega)
theorem zTm_parts (v b : Int) : b0 (zTm v b).str = 115 ∧ ps (zTm v b).str = [(eTm v b).str, (nTm 50000).str] := by
  obtain ⟨o, d, l⟩ := zTm_ok v b
  refine ⟨b0_str _, ?_⟩
  rw [ps_str o (by omega) (by omega)]
  rfl
theorem sTm_parts (v b : Int) (t : ByteArray) (ht : t.size ≤ 40) : b0 (sTm v b t).str = 115 ∧ ps (sTm v b t).str = [(eTm v b).str, (pTm v t).str] := by
  obtain ⟨o, d, l⟩ := sTm_ok v b t ht
  refine ⟨b0_str _, ?_⟩
  rw [ps_str o (by omega) (by omega)]
  rfl
/-- What is heard, of one of its kinds: told by a key, sealed by the view's key, or a nonce of one who is none. -/
inductive Heard (was is : Nat) (v b : Int) (s : ByteArray) : Prop
  | told (c : Nat) (C n X : Int) : 1 ≤ c → c < 32 → Any is c → 0 ≤ C ∧ C < 65536 → key (newKeys (is : Int) (freshI (was : Int) (is : Int)) (grownF (was : Int)).1 100) c = nonceN C → s = (tTm C n X).str → Heard was is v b s
  | shut (p : ByteArray) : b0 s = 115 → ps s = [(eTm v b).str, p] → check s = 0 → Heard was is v b s
  | none (id : Nat) : id < 16 → bit is id = false → s ∈ haveF (hadF was id) → Heard was is v b s
theorem heard_check {was is : Nat} {v b : Int} {H : List ByteArray} (hw : was < 65536) (hh : ∀ s ∈ H, Heard was is v b s) {s : ByteArray} (hs : s ∈ H) : check s = 0 := by
  cases hh _ hs with
  | told c C n X _ _ _ _ _ e => rw [e]; exact (tTm_ok C n X).2
  | shut p _ _ h => exact h
  | none id hid hb h =>
    obtain ⟨j, j1, j2, _, e, _⟩ := none_text hw hid h
    have hkj := kn_range was j j2
    rw [e]
    exact nonce_check _ (by omega) (by omega)
section
variable {was is : Nat} {v b : Int} {H : List ByteArray} (hw : was < 65536) (hi : is < 65536) (hh : ∀ s ∈ H, Heard was is v b s)
include hw hi hh
theorem heard_nonce {a : Int} (ha : 0 ≤ a ∧ a < 65536) (hx : (a < 1000 ∨ 2100 ≤ a) ∨ ∃ c, 1 ≤ c ∧ c < 32 ∧ Any is c ∧ key (newKeys (is : Int) (freshI (was : Int) (is : Int)) (grownF (was : Int)).1 100) c = nonceN a) : (nTm a).str ∉ H := by
  intro hm
  cases hh _ hm with
  | told c C n X _ _ _ _ _ e =>
    have := congrArg b0 e
    rw [nonce_b0, (told_parts C n X).1] at this
    exact absurd this (by decide)
  | shut p h _ _ =>
    rw [nonce_b0] at h
    exact absurd h (by decide)
  | none id hid hb h =>
    rcases hx with hx | ⟨c, c1, c2, hA, hk⟩
    · obtain ⟨j, j1, j2, _, e, _⟩ := none_text hw hid h
      have hkj := kn_range was j j2
      rw [nonce_str _ (by omega) (by omega)] at e
      have := nonce_inj ha (by omega) e
      omega
    · refine step_apart hw hi hid hb h c2 c1 hA ?_
      rw [hk, nonce_str a ha.1 ha.2]
variable (hb : 0 ≤ b ∧ b < 65536) (hr : ∃ c, 1 ≤ c ∧ c < 32 ∧ Any is c ∧ key (newKeys (is : Int) (freshI (was : Int) (is : Int)) (grownF (was : Int)).1 100) c = nonceN b)
include hb hr
theorem heard_key : ¬ Bq H (eTm v b).str := by
  intro h
  cases h with
  | mem hm =>
    cases hh _ hm with
    | told c C n X _ _ _ _ _ e =>
      have := congrArg b0 e
      rw [(key_parts v b).1, (told_parts C n X).1] at this
      exact absurd this (by decide)
    | shut p h _ _ =>
      rw [(key_parts v b).1] at h
      exact absurd h (by decide)
    | none id hid hbi h =>
      obtain ⟨j, j1, j2, _, e, _⟩ := none_text hw hid h
      have hkj := kn_range was j j2
      rw [nonce_str _ (by omega) (by omega)] at e
      have := congrArg b0 e
      rw [(key_parts v b).1, nonce_b0] at this
      exact absurd this (by decide)
  | const hc =>
    rw [(key_parts v b).1] at hc
    exact absurd hc (by decide)
  | built _ hp =>
    exact nonce_free (heard_nonce hw hi hh hb (.inr hr)) (hp _ (by rw [(key_parts v b).2]; simp))
theorem heard_dv {t : ByteArray} (d : Dv H t) : Bq H t := by
  refine dv_bq (fun s hs => ?_) d
  cases hh _ hs with
  | told c C n X c1 c2 hA hC hk e =>
    subst e
    refine ⟨by rw [(told_parts C n X).1]; decide, fun _ k p hp => ?_⟩
    rw [(told_parts C n X).2] at hp
    injection hp with hp _
    rw [← hp]
    exact nonce_free (heard_nonce hw hi hh hC (.inr ⟨c, c1, c2, hA, hk⟩))
  | shut q h1 h2 _ =>
    refine ⟨by rw [h1]; decide, fun _ k p hp => ?_⟩
    rw [h2] at hp
    injection hp with hp _
    rw [← hp]
    exact heard_key hw hi hh hb hr
  | none id hid hbi h =>
    obtain ⟨j, j1, j2, _, e, _⟩ := none_text hw hid h
    have hkj := kn_range was j j2
    rw [nonce_str _ (by omega) (by omega)] at e
    have hb0 : b0 s = 110 := by rw [e]; exact nonce_b0 _
    refine ⟨by rw [hb0]; decide, fun h => ?_⟩
    rw [hb0] at h
    exact absurd h (by decide)
theorem heard_der (hl : H.length ≤ 200) : derOf H (eTm v b).str = (false, 0) ∧ derOf H (nTm 50000).str = (false, 0) := by
  have he : errOf H = 0 := errOf_ok.2 fun s hs => heard_check hw hh hs
  have hg1 := eTm_check v b
  have hg2 : check (nTm 50000).str = 0 := by
    rw [← nonce_str 50000 (by decide) (by decide)]
    exact nonce_check 50000 (by decide) (by decide)
  have hd1 : dvB H (eTm v b).str = false := by
    rw [Bool.eq_false_iff]
    intro h
    exact heard_key hw hi hh hb hr (heard_dv hw hi hh hb hr ((dvB_iff hl he hg1).1 h))
  have hd2 : dvB H (nTm 50000).str = false := by
    rw [Bool.eq_false_iff]
    intro h
    exact nonce_free (heard_nonce hw hi hh (a := 50000) (by decide) (.inl (.inr (by decide)))) (heard_dv hw hi hh hb hr ((dvB_iff hl he hg2).1 h))
  constructor
  · unfold derOf; rw [if_neg (by omega), if_pos he, if_pos hg1, hd1]
  · unfold derOf; rw [if_neg (by omega), if_pos he, if_pos hg2, hd2]
end
/-- All that is heard in WholeSecret. -/
theorem all_heard {was is : Nat} (hw : was < 65536) (hi : is < 65536) (hn : is ≠ 0) {v : Int} {t : ByteArray} (ht : t.size ≤ 40) :
    ∃ b : Int, (0 ≤ b ∧ b < 65536) ∧ key (rekeyF (was : Int) (is : Int) (grownF (was : Int)).1 100).1 1 = nonceN b ∧
      derOf (((rekeyF (was : Int) (is : Int) (grownF (was : Int)).1 100).2.1 ++ [(sTm v b t).str]) ++ NF was is 16) (eTm v b).str = (false, 0) ∧
      derOf ((((rekeyF (was : Int) (is : Int) (grownF (was : Int)).1 100).2.1 ++ [(sTm v b t).str]) ++ NF was is 16) ++ [(zTm v b).str]) (nTm 50000).str = (false, 0) := by
  have hgood := (grown_good was hw).2
  have hrg := rekey_good (first := 100) hgood hw hi (by decide) (by decide)
  obtain ⟨b, b1, b2, hk⟩ := new_nonce (first := 100) hgood hw hi (by decide) (by decide) 1 (by decide) (by decide) (any_root is hi hn)
  refine ⟨b, ⟨b1, b2⟩, by rw [hrg]; exact hk, ?_⟩
  have hr : ∃ c, 1 ≤ c ∧ c < 32 ∧ Any is c ∧ key (newKeys (is : Int) (freshI (was : Int) (is : Int)) (grownF (was : Int)).1 100) c = nonceN b := ⟨1, by decide, by decide, any_root is hi hn, hk⟩
  have hL : ∀ s ∈ (rekeyF (was : Int) (is : Int) (grownF (was : Int)).1 100).2.1, Heard was is v b s := by
    rw [hrg]
    intro s hs
    obtain ⟨p, hp, rfl⟩ := List.mem_map.1 hs
    obtain ⟨n, c, C, X, h⟩ := step_ok (first := 100) hgood hw hi (by decide) (by decide) p hp
    have hcr : 1 ≤ c ∧ c < 32 := by have := h.n1; have := h.n2; have := h.kid; omega
    exact .told c C n X hcr.1 hcr.2 h.any h.C0 h.kc (by rw [h.told])
  have hl : (rekeyF (was : Int) (is : Int) (grownF (was : Int)).1 100).2.1.length ≤ 30 := by
    rw [hrg]
    have h1 := pairs_len (is : Int) (freshI (was : Int) (is : Int))
    have h2 := fresh_len (was : Int) (is : Int)
    simp only [List.length_map]
    omega
  have hN := NF_len was is 16 (Nat.le_refl _)
  generalize (rekeyF (was : Int) (is : Int) (grownF (was : Int)).1 100).2.1 = L at hL hl
  have h1 : ∀ s ∈ (L ++ [(sTm v b t).str]) ++ NF was is 16, Heard was is v b s := by
    intro s hs
    rcases List.mem_append.1 hs with hs | hs
    · rcases List.mem_append.1 hs with hs | hs
      · exact hL s hs
      · rw [List.mem_singleton.1 hs]
        exact .shut _ (sTm_parts v b t ht).1 (sTm_parts v b t ht).2 (sTm_check v b t ht)
    · obtain ⟨id, i1, i2, i3⟩ := NF_mem hs
      exact .none id i1 i2 i3
  have h2 : ∀ s ∈ ((L ++ [(sTm v b t).str]) ++ NF was is 16) ++ [(zTm v b).str], Heard was is v b s := by
    intro s hs
    rcases List.mem_append.1 hs with hs | hs
    · exact h1 s hs
    · rw [List.mem_singleton.1 hs]
      exact .shut _ (zTm_parts v b).1 (zTm_parts v b).2 (zTm_check v b)
  exact ⟨(heard_der hw hi h1 ⟨b1, b2⟩ hr (by simp only [List.length_append, List.length_singleton]; omega)).1, (heard_der hw hi h2 ⟨b1, b2⟩ hr (by simp only [List.length_append, List.length_singleton]; omega)).2⟩
end Go.Proofs.YtkmpfmhbkflgpaaGreatDoor.Pr
