/- know: look. -/
import Derived.Test.YtinkkiglkjihmaaKp
import Derived.Deep.RegionLaw
import Derived.BigRegion
set_option linter.unusedVariables false
set_option linter.unusedSimpArgs false
namespace Go.Proofs.Ytinkkiglkjihmaa.Kw
open Go.RowKit Go.Maps Go.WideMaps Go.Proofs.YtinkkiglkjihmaaW.PrintWords Go.Proofs.YtinkkiglkjihmaaW.PrintWords.Kd

theorem subs_in (t : ByteArray) (w : World) : Calls Try.prog 51 #[.string t] w fun e w' => ∃ v : Value, e = .returned (.tuple #[v, .int .i64 (TT.subsOf t).2]) ∧ QRow w.heap.size w' v (TT.subsOf t).1 ∧ RowKit.Below w.heap.size w w' := by
  have hc := term_subs.calls t (TT.subsOf t).1 (TT.subsOf t).2 w rfl
  go_enter Try.func51, Try.ntmps51
  go_wp2_with (go_at_call 55; refine hc.mono ?_; rintro e w1 ⟨v, rfl, hr, hb⟩; have HR := Lib.hid hr; have HB := Lib.hid hb; clear hr hb)
  go_ret2
  exact ⟨v, rfl, QRow.of_own (Rdr.R_elems HR.out) rfl rfl, HB.out⟩
theorem parts_in (t : ByteArray) (w : World) : Calls Try.prog 52 #[.string t] w fun e w' => ∃ v : Value, e = .returned (.tuple #[.int .u8 (TT.partsOf t).1, v, .int .i64 (TT.partsOf t).2.2]) ∧ QRow w.heap.size w' v (PFg t.data.toList) ∧ RowKit.Below w.heap.size w w' := by
  refine (term_Parts.calls t (TT.partsOf t).1 (TT.partsOf t).2.1 (TT.partsOf t).2.2 w rfl).mono ?_
  rintro e w' ⟨v, rfl, hr, hb⟩
  exact ⟨v, rfl, by rw [PFg_of]; exact QRow.of_own (Rdr.R_elems hr) rfl rfl, hb⟩
theorem index_b0 (t : ByteArray) (h : 0 < t.size) (w : World) : (Instr.index 23 (.string t) (.int .i64 0)).run Try.prog w = .ok (.int .u8 ((b0 t).toNat : Int)) w := by
  rw [index0 t h w, b0_at t h]
theorem KU.ok {X : Xs} {base wb bh bm bi : Nat} {w : World} {a : Lk} (h : KU X base wb bh bm bi w a) (s : ByteArray) (hs : s.size ≤ maxLen) :
    ∃ A n c, (Instr.lookup 59 (.map (some bm)) (.string s) true).run Try.prog w = .ok (.tuple #[.slice A n c, .bool (decide (s ∈ a.U))]) w := by
  obtain ⟨M, I, ⟨_, tv, own, s0⟩, h2, _⟩ := h
  have hl := s0.m.look_ok Try.underlying59 (zeroS w) s hs
  rw [h2 s] at hl
  cases hk : M s.data.toList with
  | none => rw [hk] at hl; exact ⟨_, _, _, hl⟩
  | some v =>
    rw [hk] at hl
    obtain ⟨A, c, e⟩ := (s0.mr _ _ hk).1.form
    subst e
    exact ⟨_, _, _, hl⟩
theorem KU.wat {X : Xs} {base wb bh bm bi : Nat} {w : World} {a : Lk} (h : KU X base wb bh bm bi w a) :
    ∃ tv, w.cell? ⟨wb, 0, none⟩ = some (.map (some bh)) ∧ w.cell? ⟨wb, 1, none⟩ = some (.map (some bm)) ∧ w.cell? ⟨wb, 2, none⟩ = some (.map (some bi)) ∧ w.cell? ⟨wb, 3, none⟩ = some tv := by
  obtain ⟨M, I, h1, _⟩ := h; exact h1.wat
theorem KU.base {X : Xs} {base wb bh bm bi : Nat} {w : World} {a : Lk} (h : KU X base wb bh bm bi w a) : base ≤ w.heap.size := by
  obtain ⟨M, I, h1, _⟩ := h; exact h1.1
/-- In the midst of a term's parts. -/
def KV (X : Xs) (base wb bh bm bi : Nat) (w : World) (a : Lk) (s : ByteArray) (j : Nat) : Prop :=
  ∃ M I, KX X base wb bh bm bi w M I PFg (a.wholes s ((PFg s.data.toList).take j)) ⟨a.σ.H, a.σ.todo, a.σ.N + 1 + j⟩ ∧ (∀ x : ByteArray, (M x.data.toList).isSome = decide (x ∈ a.U ++ [s])) ∧ ∀ k, I k = none → a.wholes s ((PFg s.data.toList).take j) k = []
theorem KV.wat {X : Xs} {base wb bh bm bi : Nat} {w : World} {a : Lk} {s : ByteArray} {j : Nat} (h : KV X base wb bh bm bi w a s j) :
    ∃ tv, w.cell? ⟨wb, 0, none⟩ = some (.map (some bh)) ∧ w.cell? ⟨wb, 1, none⟩ = some (.map (some bm)) ∧ w.cell? ⟨wb, 2, none⟩ = some (.map (some bi)) ∧ w.cell? ⟨wb, 3, none⟩ = some tv := by
  obtain ⟨M, I, h1, _⟩ := h; exact h1.wat
theorem KV.base {X : Xs} {base wb bh bm bi : Nat} {w : World} {a : Lk} {s : ByteArray} {j : Nat} (h : KV X base wb bh bm bi w a s j) : base ≤ w.heap.size := by
  obtain ⟨M, I, h1, _⟩ := h; exact h1.1
theorem KV.drew {X : Xs} {base wb bh bm bi : Nat} {w : World} {a : Lk} {s : ByteArray} {j : Nat} (h : KV X base wb bh bm bi w a s j) : KV X base wb bh bm bi w.drew a s j := by
  obtain ⟨M, I, h1, h2, h3⟩ := h; exact ⟨M, I, h1.below (RowKit.Below.refl _ _).drew, h2, h3⟩
theorem KV.xrow {X : Xs} {base wb bh bm bi : Nat} {w : World} {a : Lk} {s : ByteArray} {j : Nat} (h : KV X base wb bh bm bi w a s j) {g off n c : Nat} {xs : List ByteArray} (hv : X (.slice (some ⟨g, off, none⟩) n c) xs) (i : Nat) (x : ByteArray) (hi : xs[i]? = some x) : w.cell? ⟨g, off + i, none⟩ = some (.string x) := by
  obtain ⟨M, I, h1, _⟩ := h; exact h1.xrow hv i x hi
theorem KU.xrow {X : Xs} {base wb bh bm bi : Nat} {w : World} {a : Lk} (h : KU X base wb bh bm bi w a) {g off n c : Nat} {xs : List ByteArray} (hv : X (.slice (some ⟨g, off, none⟩) n c) xs) (i : Nat) (x : ByteArray) (hi : xs[i]? = some x) : w.cell? ⟨g, off + i, none⟩ = some (.string x) := by
  obtain ⟨M, I, h1, _⟩ := h; exact h1.xrow hv i x hi
theorem data_inj {a b : ByteArray} (h : a.data.toList = b.data.toList) : a = b := ByteArray.ext (Array.ext' h)
theorem KU.made {X : Xs} {base wb bh bm bi : Nat} {w : World} {a : Lk} (h : KU X base wb bh bm bi w a) {v : Value} {s : ByteArray} (hv : X v (PFg s.data.toList)) (hs : s.size ≤ maxLen) (hN : a.σ.N < 100000000) :
    ∃ w2, (Instr.mapUpdate 59 (.map (some bm)) (.string s) v).run Try.prog w = .ok () w2 ∧ RowKit.Below base w w2 ∧ KV X base wb bh bm bi w2 a s 0 := by
  obtain ⟨M, I, h1, h2, h3⟩ := h
  obtain ⟨w2, hrun, hb, h4⟩ := h1.made hv hs hN
  refine ⟨w2, hrun, hb, _, I, h4, fun x => ?_, h3⟩
  unfold put
  by_cases e : x = s
  · subst e; rw [if_pos rfl]; simp
  · rw [if_neg (fun q => e (data_inj q)), h2 x]
    simp only [List.mem_append, List.mem_singleton, e, or_false]
theorem KV.next {X : Xs} {base wb bh bm bi : Nat} {w : World} {a : Lk} {s : ByteArray} {j : Nat} (h : KV X base wb bh bm bi w a s j) {p : ByteArray} (hp : (PFg s.data.toList)[j]? = some p) (hps : p.size ≤ maxLen) (hN : a.σ.N + 1 + j < 100000000) (hf : a.Fits) (ty : TypeId) :
    ∃ A n c, (Instr.lookup 59 (.map (some bi)) (.string p) false).run Try.prog w = .ok (.slice A n c) w ∧ (Instr.lookup 59 (.map (some bi)) (.string p) false).run Try.prog (w.alloc (.cells #[.string s] 23)) = .ok (.slice A n c) (w.alloc (.cells #[.string s] 23)) ∧ ∃ A2 n2 c2 w2, (Builtin.append_ #[22, 22] ty #[.slice A n c, .slice (some ⟨w.heap.size, 0, none⟩) 1 1]).run Try.prog (w.alloc (.cells #[.string s] 23)) = .ok (.slice A2 n2 c2) w2 ∧ w2.cell? ⟨wb, 2, none⟩ = some (.map (some bi)) ∧
      ∃ w3, (Instr.mapUpdate 59 (.map (some bi)) (.string p) (.slice A2 n2 c2)).run Try.prog w2 = .ok () w3 ∧ RowKit.Below base w w3 ∧ KV X base wb bh bm bi w3 a s (j + 1) := by
  obtain ⟨M, I, h1, h2, h3⟩ := h
  have hl : (a.wholes s ((PFg s.data.toList).take j) p.data.toList).length + 1 ≤ 100000000 := by
    have := wholes_len a.IL s ((PFg s.data.toList).take j) p.data.toList
    have := hf.il p.data.toList
    have : ((PFg s.data.toList).take j).length ≤ j := by rw [List.length_take]; omega
    unfold Lk.wholes; omega
  obtain ⟨A, n, c, hlk, hlk2, A2, n2, c2, w2, hr2, hcb, w3, hr3, hb, I', h4, h5⟩ := h1.put h3 p s hps hN hl ty
  have e : addIn (a.wholes s ((PFg s.data.toList).take j)) p s = a.wholes s ((PFg s.data.toList).take (j + 1)) := by
    obtain ⟨hj, rfl⟩ := List.getElem?_eq_some_iff.1 hp
    unfold Lk.wholes
    rw [List.take_succ_eq_append_getElem hj, List.foldl_append]
    rfl
  rw [e] at h4 h5
  exact ⟨A, n, c, hlk, hlk2, A2, n2, c2, w2, hr2, hcb, w3, hr3, hb, M, I', h4, h2, h5⟩
theorem step_q {ops : Array Oper} {o : Oper} {a : Act} {w w' : World} {K : Act → World → Prop} {Q : Exit → Act → World → Prop} {E : Prop} {v v' x : Value} (hg : o.guard = none) (s q : Operand)
    (hop : o.op = Op.call { callee := Callee.builtin Builtin.append, args := #[s, q], argTypes := #[22, 22] }) (hs : a.eval s = v) (hx : a.eval q = x)
    (hrun : (Builtin.append_ #[22, 22] o.type #[v, x]).run Try.prog w = .ok v' w') (hK : K (a.put o.dst v') w') :
    if Region.wanted o (yielded ops a.tmps) = true then Oper.wp Try.prog o a w K Q else E := by
  have hw : Region.wanted o (yielded ops a.tmps) = true := by simp [Region.wanted, hg]
  rw [if_pos hw]
  unfold Oper.wp
  simp [execOp, hop, resolve, invoke, builtin, hs, hx, hrun, Result.andThen]
  exact hK
set_option maxHeartbeats 4000000 in
set_option maxRecDepth 100000 in
theorem look_any {X : Xs} {base wb bh bm bi : Nat} {w : World} {a : Lk} (h : KU X base wb bh bm bi w a) (hf : a.Fits) (t : ByteArray) (hN : a.σ.N + 10000 < 100000000) :
    Calls Try.prog 32 #[.pointer (some ⟨wb, 0, none⟩), .string t] w fun e w' => e = .returned (.int .i64 (TT.check t)) ∧ RowKit.Below base w w' ∧ (TT.check t = 0 → KU X base wb bh bm bi w' (a.look (TT.subsOf t).1)) := by
  have hsub := subs_in t w
  by_cases hc : TT.check t = 0
  case neg =>
    have hc2 : (TT.check t == 0) = false := by rw [beq_eq_false_iff_ne]; exact hc
    have hc3 : (TT.check t != 0) = true := bne_iff_ne.mpr hc
    have hb0 := Lib.hid h.base
    rw [TT.subsOf_bad hc] at hsub
    clear h
    go_enter Try.func32, Try.ntmps32
    go_wp2_with (go_at_call 51; refine hsub.mono ?_; rintro e w1 ⟨v, rfl, hr, hb⟩; have HB := Lib.hid hb; clear hr hb hsub)
    go_ret
    exact ⟨rfl, HB.out.mono hb0.out, fun q => absurd q hc⟩
  case pos =>
    have hall : ∀ s ∈ (TT.subsOf t).1, TT.check s = 0 := fun s hs => check_subs hc hs
    have hcnt := subs_count hc
    have hs2 : (TT.subsOf t).2 = 0 := by
      obtain ⟨t', _, rfl, _⟩ := (check_iff t).1 hc
      unfold TT.subsOf; rw [if_pos hc]
    rw [hs2] at hsub
    rw [hc]
    clear hs2 hc
    generalize (TT.subsOf t).1 = l at hsub hall hcnt ⊢
    have HK := Lib.hid h; have HF := Lib.hid hf; have HA := Lib.hid hall
    clear h hf hall
    go_enter Try.func32, Try.ntmps32
    go_wp2_with (go_at_call 51; refine hsub.mono ?_; clear hsub; rintro e w1 ⟨v, rfl, hr, hb⟩; have HB := Lib.hid (hb.mono HK.out.base); have HK1 := Lib.hid (HK.out.more hb hr); obtain ⟨A, cp, ev⟩ := hr.form; subst ev; have HR := Lib.hid hr; clear hr hb HK)
    obtain ⟨Y, hY⟩ : ∃ Y : Xs, Y = (fun u ys => X u ys ∨ (u = .slice A l.length cp ∧ ys = l)) := ⟨_, rfl⟩
    rw [← hY] at HK1
    have hYl : Y (.slice A l.length cp) l := by rw [hY]; exact .inr ⟨rfl, rfl⟩
    have hYX : ∀ v xs, X v xs → Y v xs := by rw [hY]; exact fun v xs h => .inl h
    clear hY
    have hoff : A = none ∨ ∃ g off, A = some ⟨g, off, none⟩ := by
      rcases HR.out with ⟨q, _⟩ | ⟨g, off, cap, cur, q, _⟩
      · injection q with q; exact .inl q
      · injection q with q; exact .inr ⟨g, off, q⟩
    have hlen : 0 < l.length → A ≠ none := by
      intro h0 q
      rcases HR.out with ⟨_, q⟩ | ⟨g, off, cap, cur, q', _⟩
      · rw [q] at h0; exact absurd h0 (by simp)
      · injection q' with q'; rw [q'] at q; cases q
    have HL := Lib.hid hlen; have HO := Lib.hid hoff
    clear hlen hoff HR
    go_loopw [26] (fun i wr => ∃ j : Nat, j ≤ l.length ∧ i = .int .i64 j ∧ RowKit.Below base w wr ∧ KU Y base wb bh bm bi wr (a.look (l.take j))) (fun i _ => l.length - (intOf i).toNat)
    case atStart => exact ⟨0, Nat.zero_le _, rfl, HB.out, HK1.out⟩
    case round =>
      obtain ⟨j, hj, rfl, hbel, hku⟩ := hrel
      have HBEL := Lib.hid hbel; have HKU := Lib.hid hku
      clear hbel hku
      by_cases hlt : j < l.length
      · have hA := HL.out (by omega)
        obtain ⟨g, off, rfl⟩ : ∃ g off, A = some ⟨g, off, none⟩ := by rcases HO.out with q | q; exact absurd q hA; exact q
        clear hA HL HO
        obtain ⟨s, hs⟩ : ∃ s, l[j]? = some s := ⟨_, List.getElem?_eq_getElem hlt⟩
        have hcs := HA.out s (List.mem_of_getElem? hs)
        have hcl := HKU.out.xrow hYl j s hs
        have hnx : a.look (l.take (j + 1)) = (a.look (l.take j)).one s := by
          obtain ⟨_, rfl⟩ := List.getElem?_eq_some_iff.1 hs
          rw [List.take_succ_eq_append_getElem hlt]; unfold Lk.look; rw [List.foldl_append]; rfl
        have hfit := HF.out.look (l.take j) (fun x hx => HA.out x (List.mem_of_mem_take hx))
        have hNb : (a.look (l.take j)).σ.N + 100 < 100000000 := by
          have := a.look_N (l.take j) (fun x hx => HA.out x (List.mem_of_mem_take hx))
          rw [List.length_take] at this; omega
        generalize a.look (l.take j) = b at HKU hnx hfit hNb
        have HNX := Lib.hid hnx; have HFIT := Lib.hid hfit; have HCS := Lib.hid hcs
        clear hnx hfit hcs hs
        obtain ⟨hz0, hz1⟩ := check_size HCS.out
        obtain ⟨A1, n1, c1, hlk⟩ := HKU.out.ok s (by unfold maxLen; omega)
        obtain ⟨tv, e0, e1, e2, e3⟩ := HKU.out.wat
        cases hmem : decide (s ∈ b.U) with
        | true =>
          rw [hmem] at hlk
          have hone : b.one s = b := by unfold Lk.one; rw [if_pos (of_decide_eq_true hmem)]
          rw [hone] at HNX
          clear hone hmem
          go_wp2
          go_roundw
          case rel => exact ⟨j + 1, by omega, by simp, HBEL.out, by rw [HNX.out]; exact HKU.out⟩
          case measure => simp [intOf]; omega
        | false =>
          rw [hmem] at hlk
          have hpt := parts_in s wr
          have hpc := parts_count HCS.out
          have HPC := Lib.hid (fun p (hp : p ∈ PFg s.data.toList) => check_part HCS.out hp)
          have hps : (s.size : Nat) ≤ maxLen := by unfold maxLen; omega
          have hone : b.one s = ⟨if b0 s = 99 then (⟨b.σ.H, b.σ.todo, b.σ.N + 1 + (PFg s.data.toList).length⟩ : St).get s else ⟨b.σ.H, b.σ.todo, b.σ.N + 1 + (PFg s.data.toList).length⟩, b.U ++ [s], b.wholes s (PFg s.data.toList)⟩ := by unfold Lk.one; rw [if_neg (of_decide_eq_false hmem)]
          have HONE := Lib.hid hone
          clear hone hmem
          obtain ⟨ps, hpsd⟩ : ∃ ps, ps = PFg s.data.toList := ⟨_, rfl⟩
          have HPS := Lib.hid hpsd
          rw [← hpsd] at hpt hpc
          clear hpsd
          obtain ⟨np, hnp⟩ : ∃ np, np = ps.length := ⟨_, rfl⟩
          rw [← hnp] at hpc
          have HNP := Lib.hid hnp
          clear hnp
          go_wp2_with (go_at_call 52; refine hpt.mono ?_; clear hpt; rintro e w2 ⟨v2, rfl, hr, hb⟩; obtain ⟨A2, cp2, ev2⟩ := hr.form; (rw [← HNP.out] at ev2); subst ev2; have HK2 := Lib.hid (HKU.out.more hb hr); obtain ⟨w3, hrun3, hb3, hk3⟩ := HK2.out.made (s := s) (v := .slice A2 np cp2) (.inr ⟨rfl, HPS.out.symm⟩) hps (by omega); have HK3 := Lib.hid hk3; have HB3 := Lib.hid ((HBEL.out.trans (hb.mono HKU.out.base)).trans hb3); obtain ⟨tv2, f0, f1, f2, f3⟩ := HK2.out.wat; clear hk3 hb3 hb HKU HBEL HK2; have HR2 := Lib.hid hr; clear hr)
          obtain ⟨Z, hZ⟩ : ∃ Z : Xs, Z = (fun u ys => Y u ys ∨ (u = .slice A2 np cp2 ∧ ys = ps)) := ⟨_, rfl⟩
          rw [← hZ] at HK3
          have hZl : Z (.slice A2 np cp2) ps := by rw [hZ]; exact .inr ⟨rfl, rfl⟩
          have hZY : ∀ v xs, Y v xs → Z v xs := by rw [hZ]; exact fun v xs h => .inl h
          clear hZ
          have hA2 : 0 < np → ∃ g2 off2, A2 = some ⟨g2, off2, none⟩ := by
            intro h0
            rcases HR2.out with ⟨q', q⟩ | ⟨g2, off2, cap, cur, q', _⟩
            · have := HNP.out; rw [q] at this; simp at this; omega
            · injection q' with q'; exact ⟨g2, off2, q'⟩
          have HA2 := Lib.hid hA2
          clear hA2 HR2 f0 f1 f2 f3 e0 e1 e2 e3 hlk hcl hrun3
          have hnm : (np : Int) ≤ 2 := by omega
          go_loopw [54] (fun i wq => ∃ q : Nat, q ≤ np ∧ i = .int .i64 q ∧ RowKit.Below base w wq ∧ KV Z base wb bh bm bi wq b s q) (fun i _ => np - (intOf i).toNat)
          case atStart => exact ⟨0, Nat.zero_le _, rfl, HB3.out, HK3.out⟩
          case round =>
            obtain ⟨q, hq, rfl, hbel, hkv⟩ := hrel
            have HBEL := Lib.hid hbel; have HKV := Lib.hid hkv
            clear hbel hkv
            by_cases hql : q < np
            · obtain ⟨g2, off2, rfl⟩ := HA2.out (by omega)
              obtain ⟨p, hp⟩ : ∃ p, ps[q]? = some p := ⟨_, List.getElem?_eq_getElem (by have := HNP.out; omega)⟩
              have hcl := HKV.out.xrow hZl q p hp
              have hpz := check_size (HPC.out p (by rw [← HPS.out]; exact List.mem_of_getElem? hp))
              have HKD := Lib.hid HKV.out.drew
              obtain ⟨tv, e0, e1, e2, e3⟩ := HKD.out.wat
              obtain ⟨A4, n4, c4, hlk, hlk2, A5, n5, c5, w5, hr5, hcb, w6, hr6, hb6, hk6⟩ := HKD.out.next (p := p) (by rw [← HPS.out]; exact hp) (by unfold maxLen; omega) (by omega) HFIT.out 22
              have hwbl : wb < wr.heap.size := by
                have hn : wb < wr.drew.heap.size := by
                  rcases Nat.lt_or_ge wb wr.drew.heap.size with h | h
                  · exact h
                  · simp [World.cell?, Array.getElem?_eq_none h] at e0
                simpa using hn
              have hlk3 : (Instr.lookup 59 (.map (some bi)) (.string p) false).run Try.prog (wr.alloc (.cells #[.string s] 23)).drew = .ok (.slice A4 n4 c4) (wr.alloc (.cells #[.string s] 23)).drew := hlk2
              clear hlk2
              have d2 : (wr.alloc (.cells #[.string s] 23)).cell? ⟨wb, 2, none⟩ = some (.map (some bi)) := by rw [World.cell?_alloc_past _ _ _ (by simpa using hwbl)]; exact e2
              have HB6 := Lib.hid (HBEL.out.drew.trans hb6)
              have HK6 := Lib.hid hk6
              have HR5 := Lib.hid hr5
              clear hb6 hk6 hp HKD HKV hr5
              go_wp2_with fail
              go_region_law (refine step_q rfl (.tmp 68) (.tmp 70) rfl rfl rfl HR5.out ?_)
              all_goals
                go_wp2_with fail
                go_roundw
                case rel => exact ⟨q + 1, by omega, by simp, HB6.out, HK6.out⟩
                case measure => simp [intOf]; omega
            · obtain rfl : q = np := by omega
              have hidx := index_b0 s hz0
              obtain ⟨M, I, hkx, hM, hI⟩ := HKV.out
              rw [HNP.out, HPS.out] at hkx hI
              rw [List.take_length] at hkx hI
              have HMX := Lib.hid hkx; have HMM := Lib.hid hM; have HII := Lib.hid hI
              by_cases h99 : b0 s = 99
              · have hget := kx_get HMX.out s (by unfold maxLen; omega) (by simp only; have := HNP.out; rw [HPS.out] at this; omega) (by simp only; have := HFIT.out.todo; omega)
                rw [h99, show (((99 : UInt8).toNat : Nat) : Int) = 99 from rfl] at hidx
                clear hkx hM hI HKV
                go_wp2_with (go_at_call 43; refine hget.mono ?_; clear hget; rintro e w7 ⟨rfl, hb7, hk7⟩; have HB7 := Lib.hid (HBEL.out.trans hb7); have HK7 := Lib.hid hk7; clear hb7 hk7)
                go_roundw
                case rel => exact ⟨j + 1, by omega, by simp, HB7.out, by rw [HNX.out, HONE.out, if_pos h99]; exact ⟨M, I, HK7.out.less hZY, HMM.out, HII.out⟩⟩
                case measure => simp [intOf]; omega
              · have hne : (((b0 s).toNat : Int) == 99) = false := by
                  rw [beq_eq_false_iff_ne]; intro e; exact h99 (UInt8.toNat.inj (by show (b0 s).toNat = 99; omega))
                clear hkx hM hI HKV
                go_wp2_with fail
                go_roundw
                case rel => exact ⟨j + 1, by omega, by simp, HBEL.out, by rw [HNX.out, HONE.out, if_neg h99]; exact ⟨M, I, HMX.out.less hZY, HMM.out, HII.out⟩⟩
                case measure => simp [intOf]; omega
      · obtain rfl : j = l.length := by omega
        rw [List.take_length] at HKU
        go_wp2_with fail
        go_ret
        exact ⟨rfl, HBEL.out, fun _ => HKU.out.less hYX⟩
end Go.Proofs.Ytinkkiglkjihmaa.Kw
