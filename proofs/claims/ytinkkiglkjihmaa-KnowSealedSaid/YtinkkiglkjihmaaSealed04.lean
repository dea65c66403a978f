/- KnowSealed: its walk, by hand (an array as a parameter). -/
import Derived.Test.YtinkkiglkjihmaaLw04
import Derived.Test.YtinkkiglkjihmaaPrxC
import Derived.Deep.QuietTactic
import Derived.BigQuiet
set_option linter.unusedVariables false
set_option linter.unusedSimpArgs false
namespace Go.Proofs.Ytinkkiglkjihmaa.Ev04
open Go.RowKit Go.Proofs.Ytinkkiglkjihmaa.Pr Go.Proofs.YtinkkiglkjihmaaW.PrintWords Go.Proofs.YtinkkiglkjihmaaW.PrintLast Go.Proofs.YtinkkiglkjihmaaW.PrintMore Go.Proofs.Ytinkkiglkjihmaa.TT Go.Proofs.Ytinkkiglkjihmaa.Ev03 Go.Proofs.Ytinkkiglkjihmaa.Kw

theorem lit1 (w : World) (a : ByteArray) : Kd.C Kd.string (w.alloc (.cells #[.string a] 23 (0, 0))) (some ⟨w.heap.size, 0, none⟩) 1 [a] := by
  refine Kd.C_of_reads (d := ByteArray.empty) ⟨rfl, by simp, fun _ => ⟨_, rfl, fun j hj => ?_⟩⟩
  obtain rfl : j = 0 := by simpa using hj
  exact blk_cell (blk_new w _) 0
theorem lit2 (w : World) (a b : ByteArray) : Kd.C Kd.string (w.alloc (.cells #[.string a, .string b] 23 (0, 0))) (some ⟨w.heap.size, 0, none⟩) 2 [a, b] := by
  refine Kd.C_of_reads (d := ByteArray.empty) ⟨rfl, by simp, fun _ => ⟨_, rfl, fun j hj => ?_⟩⟩
  have hj' : j < 2 := by simpa using hj
  rcases (by omega : j = 0 ∨ j = 1) with rfl | rfl
  · exact blk_cell (blk_new w _) 0
  · exact blk_cell (blk_new w _) 1
set_option maxRecDepth 100000 in
/-- append(nil, l...), then one more: the new row. -/
theorem copy_row (A : Option Addr) (c : Nat) (l : List ByteArray) (s : ByteArray) (W : World) (hr : Kd.C Kd.string W A l.length l) (hl : l.length ≤ 1000) (ty : TypeId) :
    ∃ A1 c1 W1, (Builtin.append_ #[22, 22] ty #[.slice none 0 0, .slice A l.length c]).run Try.prog W = .ok (.slice A1 l.length c1) W1 ∧ RowKit.Below W.heap.size W W1 ∧
      ∃ A2 c2 W2, (Builtin.append_ #[22, 22] ty #[.slice A1 l.length c1, .slice (some ⟨W1.heap.size, 0, none⟩) 1 1]).run Try.prog (W1.alloc (.cells #[.string s] 23 (0, 0))) = .ok (.slice A2 (l.length + 1) c2) W2 ∧ RowKit.Below W.heap.size W W2 ∧
        Kd.C Kd.string W2 A2 (l ++ [s]).length (l ++ [s]) ∧ l.length + 1 ≤ c2 := by
  obtain ⟨i, hi, hz0, hz1, hz2⟩ := info_parts Rdr.infoT
  have h63 : maxLen = 9223372036854775807 := rfl
  have h1 : ∀ q ∈ l.map Value.string, q.oneCell' = true := by
    intro u hu; obtain ⟨x, _, rfl⟩ := List.mem_map.1 hu; rfl
  have first : ∃ A1 c1 W1, (Builtin.append_ #[22, 22] ty #[.slice none 0 0, .slice A l.length c]).run Try.prog W = .ok (.slice A1 l.length c1) W1 ∧ RowKit.Below W.heap.size W W1 ∧ W1.ownsRow W.heap.size 23 1 (.slice A1 l.length c1) l.length (l.map Value.string) := by
    rcases A with _ | ad
    · have h0 : l.length = 0 := by
        rcases Nat.eq_zero_or_pos l.length with h0 | h0
        · exact h0
        · obtain ⟨ad, h, _⟩ := Kd.at_string hr 0 (Int.le_refl _) (by omega)
          cases h
      obtain rfl : l = [] := List.eq_nil_of_length_eq_zero h0
      refine ⟨none, 0, W, ?_, RowKit.Below.refl _ _, World.ownsRow_nil _ _ _ _⟩
      simp [Builtin.append_, run_underlying Try.underlying22, sizeOf, typeInfo, hi, Builtin.lenOf, Builtin.firstCells]
    · have hcell : ∀ j u, (l.map Value.string)[j]? = some u → W.cell? (ad.add j) = some u := by
        intro j u hj
        rw [List.getElem?_map] at hj
        obtain ⟨x, hx, rfl⟩ := Option.map_eq_some_iff.1 hj
        obtain ⟨hl2, rfl⟩ := List.getElem?_eq_some_iff.1 hx
        obtain ⟨ad2, h2, h3⟩ := Kd.at_string hr (j : Int) (by omega) (by omega)
        injection h2 with h2
        subst h2
        rw [Int.toNat_natCast] at h3
        rw [h3, rd_at l j hl2]
      obtain ⟨v1, W1, hrun, hown, hg, _, _⟩ := run_append_own_at (P := Try.prog) (w := W) W.heap.size 22 ty 23 i (.string ⟨#[]⟩) 1 16 Try.underlying22 hi hz0 hz1 hz2 rfl (by decide) (.slice none 0 0) 0 [] (World.ownsRow_nil _ _ _ _) ad l.length c (l.map Value.string) (by simp) hcell h1 (by omega) (by omega) (Nat.le_refl _)
      obtain ⟨A1, c1, rfl⟩ := own_slice hown
      rw [Nat.zero_add, List.nil_append] at hown
      exact ⟨A1, c1, W1, by rw [hrun, Nat.zero_add], (RowKit.Below.refl _ _).grown hg (Nat.le_refl _) (by simp [Value.ownBlock]), hown⟩
  obtain ⟨A1, c1, W1, hrun1, hb1, hown1⟩ := first
  have hsz := hb1.size
  obtain ⟨v2, W2, hrun2, hown2, hg2, _, _⟩ := run_append_own_at (P := Try.prog) (w := W1.alloc (.cells #[.string s] 23 (0, 0))) W.heap.size 22 ty 23 i (.string ⟨#[]⟩) 1 16 Try.underlying22 hi hz0 hz1 hz2 rfl (by decide) (.slice A1 l.length c1) l.length (l.map Value.string) (hown1.alloc _) ⟨W1.heap.size, 0, none⟩ 1 1 [.string s] rfl
    (by
      intro j u hj
      match j, hj with
      | 0, hj => simp at hj; subst hj; exact blk_cell (blk_new W1 _) 0)
    (by intro u hu; simp at hu; subst hu; rfl) (by omega) (by omega) (by simp; omega)
  obtain ⟨A2, c2, rfl⟩ := own_slice hown2
  refine ⟨A1, c1, W1, hrun1, hb1, A2, c2, W2, hrun2, (hb1.alloc hsz _).grown hg2 (by simp; omega) (fun k hk => (hown1.lt k hk).1), ?_, ?_⟩
  · have e : (l.map Value.string ++ [Value.string s]) = (l ++ [s]).map Value.string := by simp
    rw [e] at hown2
    have hR := Rdr.R_of_own (l := l ++ [s]) (by simpa using hown2)
    exact (Kd.R_reads' hR).2.2
  · rcases hown2.2 with ⟨h, _⟩ | ⟨g, cap, cur, h, _, _, h3, _⟩
    · injection h with _ h _; omega
    · injection h with h4 h5 h6; omega
theorem wpList_qq {ops : Array Oper} {rest : List Oper} {o : Oper} {a : Act} {Q : Exit → Act → World → Prop} {W W' : World} {v x v' : Value} (hgd : o.guard = none) (s q : Operand)
    (ho : o.op = Op.call { callee := Callee.builtin Builtin.append, args := #[s, q], argTypes := #[22, 22] }) (hs : a.eval s = v) (hx : a.eval q = x)
    (hrun : (Builtin.append_ #[22, 22] o.type #[v, x]).run Try.prog W = .ok v' W') (h : wpList Try.prog ops Q rest (a.put o.dst v') W') : wpList Try.prog ops Q (o :: rest) a W := by
  refine wpList_plain hgd fun K hK => ?_
  unfold Oper.wp execOp
  simp only [ho, resolve, invoke, builtin, Sem.run_bind, Sem.run_pure, Result.andThen_ok, List.map_toArray, List.map_cons, List.map_nil, hs, hx, hrun]
  exact hK _ _ h
/-- What is sealed by a key that one can't come to leads to nothing more. -/
inductive Pz (l : List ByteArray) (s : ByteArray) : ByteArray → Prop
  | dv {u : ByteArray} : Dv l u → Pz l s u
  | itself : Pz l s s
  | built {u : ByteArray} : check u = 0 → ps u ≠ [] → (∀ p ∈ ps u, Pz l s p) → Pz l s u
theorem pz_dv {l : List ByteArray} {s u : ByteArray} (hs : check s = 0) (h : Pz l s u) : s ∉ (subsOf u).1 → Dv l u := by
  induction h with
  | dv d => exact fun _ => d
  | itself => exact fun q => absurd (self_subs hs) q
  | built h1 h2 _ ih => exact fun q => .built h1 h2 (fun p hp => ih p hp (fun hx => q ((subs_in_parts h1).2 (.inr ⟨p, hp, hx⟩))))
theorem sub_short {s k : ByteArray} (hs : check s = 0) (hk : k ∈ ps s) : s ∉ (subsOf k).1 := by
  obtain ⟨t, h1, rfl, h3, h4⟩ := (check_iff s).1 hs
  unfold ps at hk
  rw [PFg_str h1 h3 h4] at hk
  obtain ⟨u, hu, rfl⟩ := List.mem_map.1 hk
  obtain ⟨k1, k2, k3⟩ := subs_ok t u (parts_subs hu) h1
  have hlt : u.enc.length < t.enc.length := by
    cases t with
    | nonce a b => cases hu
    | const l => cases hu
    | hash t => simp only [Tm.parts, List.mem_singleton] at hu; subst hu; simp [Tm.enc]
    | two c a b =>
      simp only [Tm.parts, List.mem_cons, List.not_mem_nil, or_false] at hu
      have := a.enc_pos
      have := b.enc_pos
      rcases hu with rfl | rfl <;> simp only [Tm.enc, List.length_cons, List.length_append] <;> omega
  rw [subsOf_str k1 (by omega) (by omega)]
  intro hx
  obtain ⟨v, hv, e⟩ := List.mem_map.1 hx
  obtain ⟨j1, j2, j3⟩ := subs_ok u v hv k1
  have : v = t := enc_inj j1 h1 (strOf_inj e)
  subst this
  omega
theorem sealed_law {l : List ByteArray} {key t g : ByteArray} (hl : checkL l = 0) (hk : check key = 0) (ht : check t = 0) (hs : check (TT.strOf (115 :: (key.data.toList ++ t.data.toList))) = 0)
    (hn : ∀ x ∈ l, TT.strOf (115 :: (key.data.toList ++ t.data.toList)) ∉ (subsOf x).1) (hgn : TT.strOf (115 :: (key.data.toList ++ t.data.toList)) ∉ (subsOf g).1) (hc : ¬ Dv l key) :
    Dv (l ++ [TT.strOf (115 :: (key.data.toList ++ t.data.toList))]) g ↔ Dv l g := by
  obtain ⟨_, hv⟩ := ck_of hl
  obtain ⟨s1, s2⟩ := two_facts (c := 115) (by decide) hk ht hs
  generalize TT.strOf (115 :: (key.data.toList ++ t.data.toList)) = s at hs hn hgn s1 s2 ⊢
  have free : ∀ {u : ByteArray}, Dv l u → s ∉ (subsOf u).1 := fun d => dv_free hv hn (by rw [s1]; decide) (fun _ => ⟨key, by rw [s2]; simp, hc⟩) d
  have hpz : ∀ {u : ByteArray}, Dv (l ++ [s]) u → Pz l s u := by
    intro u d
    induction d with
    | mem hm =>
      rcases List.mem_append.1 hm with hm | hm
      · exact .dv (.mem hm)
      · rw [List.mem_singleton.1 hm]; exact .itself
    | const h1 h2 => exact .dv (.const h1 h2)
    | built h1 h2 _ ih => exact .built h1 h2 ih
    | pair _ h2 hp ih =>
      cases ih with
      | dv d => exact .dv (d.pair h2 hp)
      | itself => rw [s1] at h2; exact absurd h2 (by decide)
      | built _ _ hb => exact hb _ hp
    | opn _ h2 hp _ ih1 ih2 =>
      cases ih1 with
      | dv d =>
        refine .dv (d.opn h2 hp (pz_dv hs ih2 ?_))
        intro hx
        exact free d ((subs_in_parts (d.check hv)).2 (.inr ⟨_, by rw [hp]; simp, hx⟩))
      | itself =>
        rw [s2] at hp
        simp only [List.cons.injEq, and_true] at hp
        obtain ⟨rfl, rfl⟩ := hp
        exact absurd (pz_dv hs ih2 (sub_short hs (by rw [s2]; simp))) hc
      | built _ _ hb => exact hb _ (by rw [hp]; simp)
  exact ⟨fun d => pz_dv hs (hpz d) hgn, dv_trans fun x hx => .mem (List.mem_append_left _ hx)⟩
set_option maxHeartbeats 4000000 in
set_option maxRecDepth 100000 in
theorem sealed_any (A : Option Addr) (c : Nat) (l : List ByteArray) (key t g : ByteArray) (w : World) (hr : Kd.C Kd.string w A l.length l) (hc : l.length ≤ c) (hl : l.length ≤ maxLen) :
    Calls Try.prog 9 #[.slice A l.length c, .agg #[.string key, .string t], .string g] w fun e w' => e = .returned (.bool true) ∧ RowKit.Below w.heap.size w w' := by
  obtain ⟨K1, bf, f1, f2⟩ := few_spec l hl
  obtain ⟨K, hK⟩ : ∃ K, K = K1 + 4000000 := ⟨_, rfl⟩
  have HFEW := Lib.hid (f1 K (by omega)); have HRG := Lib.hid (right_spec K (by omega) l); have HF2 := Lib.hid f2
  have HCK := Lib.hid (fun s => check_spec K (by omega) s)
  have HAS := Lib.hid (fun (l : List ByteArray) (t : ByteArray) (h1 : l.length ≤ 1000) (h2 : ∀ s ∈ l, check s = 0) => has_spec l t h1 h2 K (by omega))
  clear f1 f2 hK
  have HRC := Lib.hid (fun (W : World) (hb : RowKit.Below w.heap.size w W) => Kd.C_below hr hb)
  have HC := Lib.hid hc
  clear hr hc
  have HB := Lib.hid ((RowKit.Below.refl w.heap.size w).alloc (Nat.le_refl _) (.cells #[.string key, .string t] 47 (0, 0)))
  have HN := Lib.hid (blk_new w (.cells #[.string key, .string t] 47 (0, 0)))
  go_enter Try.func9, Try.ntmps9
  go_wp2_with fail
  refine (chantrylaw04_alive.calls true _ alive_spec).mono ?_
  rintro e w1 ⟨rfl, hb⟩
  have HB1 := Lib.hid (HB.out.trans (hb.mono HB.out.size))
  have B1 := blk_below HN.out hb
  have c0 : w1.cell? ⟨w.heap.size, 0, none⟩ = some (.string key) := blk_cell B1 0
  have c1 : w1.cell? ⟨w.heap.size, 1, none⟩ = some (.string t) := blk_cell B1 1
  clear hb B1
  go_wp2_with fail
  go_quiet (fail)
  have HBq := Lib.hid (Rdr.below_of_drewN HB1.out nq)
  clear c0 c1
  generalize w1.drewN nq = w1 at HBq ⊢
  go_wp2_with fail
  refine (chantrylaw04_Few.calls K A c l bf _ (HRC.out _ HBq.out) HC.out HFEW.out).mono ?_
  rintro e w2 ⟨rfl, ⟨m, rfl⟩⟩
  have HB2 := Lib.hid (Rdr.below_of_drewN HBq.out m)
  generalize w1.drewN m = w2 at HB2 ⊢
  cases bf with
  | false =>
    go_wp2_with fail
    go_ret
    exact ⟨rfl, HB2.out⟩
  | true =>
    have hn := HF2.out rfl
    go_wp2_with fail
    refine (chantrylaw04_right.calls K A c l _ w2 (HRC.out _ HB2.out) HC.out HRG.out).mono ?_
    rintro e w3 ⟨rfl, hb⟩
    have HB3 := Lib.hid (HB2.out.trans (hb.mono HB2.out.size))
    clear hb
    by_cases hr : checkL l = 0
    rotate_left
    · have hd : decide (checkL l = 0) = false := decide_eq_false hr
      rw [hd]
      clear hd hr
      go_wp2_with fail
      go_ret
      exact ⟨rfl, HB3.out⟩
    have hd : decide (checkL l = 0) = true := decide_eq_true hr
    rw [hd]
    have HR0 := Lib.hid hr
    clear hd hr
    by_cases z1 : (key.size : Int) > 400
    · go_wp2_with fail
      go_ret
      exact ⟨rfl, HB3.out⟩
    by_cases z2 : (t.size : Int) > 400
    · go_wp2_with fail
      go_ret
      exact ⟨rfl, HB3.out⟩
    by_cases z3 : (g.size : Int) > 400
    · go_wp2_with fail
      go_ret
      exact ⟨rfl, HB3.out⟩
    go_wp2_with fail
    refine (chantryref03_Check.calls K key _ w3 (HCK.out key)).mono ?_
    rintro e w4 ⟨rfl, hb⟩
    have HB4 := Lib.hid (HB3.out.trans (hb.mono HB3.out.size))
    clear hb
    obtain ⟨ck1, hck1⟩ : ∃ ck, check key = ck := ⟨_, rfl⟩
    rw [hck1]
    have HK1 := Lib.hid hck1
    clear hck1
    by_cases q1 : ck1 = 0
    rotate_left
    · have q2 : (ck1 != 0) = true := bne_iff_ne.mpr q1
      clear q1
      go_wp2_with fail
      go_ret
      exact ⟨rfl, HB4.out⟩
    subst q1
    go_wp2_with fail
    refine (chantryref03_Check.calls K t _ w4 (HCK.out t)).mono ?_
    rintro e w5 ⟨rfl, hb⟩
    have HB5 := Lib.hid (HB4.out.trans (hb.mono HB4.out.size))
    clear hb
    obtain ⟨ck1, hck1⟩ : ∃ ck, check t = ck := ⟨_, rfl⟩
    rw [hck1]
    have HK2 := Lib.hid hck1
    clear hck1
    by_cases q1 : ck1 = 0
    rotate_left
    · have q2 : (ck1 != 0) = true := bne_iff_ne.mpr q1
      clear q1
      go_wp2_with fail
      go_ret
      exact ⟨rfl, HB5.out⟩
    subst q1
    go_wp2_with fail
    refine (chantryref03_Check.calls K g _ w5 (HCK.out g)).mono ?_
    rintro e w6 ⟨rfl, hb⟩
    have HB6 := Lib.hid (HB5.out.trans (hb.mono HB5.out.size))
    clear hb
    obtain ⟨ck1, hck1⟩ : ∃ ck, check g = ck := ⟨_, rfl⟩
    rw [hck1]
    have HK3 := Lib.hid hck1
    clear hck1
    by_cases q1 : ck1 = 0
    rotate_left
    · have q2 : (ck1 != 0) = true := bne_iff_ne.mpr q1
      clear q1
      go_wp2_with fail
      go_ret
      exact ⟨rfl, HB6.out⟩
    subst q1
    go_wp2_with fail
    obtain ⟨s, hs⟩ : ∃ s, s = TT.strOf (115 :: (key.data.toList ++ t.data.toList)) := ⟨_, rfl⟩
    have hmk : term_Make.f 115 [key, t] = some (if check s = 0 then (s, 0) else (⟨#[]⟩, 3)) := by
      unfold term_Make.f
      rw [if_pos (by decide), show UInt8.ofNat (115 : Int).toNat = 115 from rfl, make_two (c := 115) (by decide) HK1.out HK2.out, ← hs]
    have HS := Lib.hid hs
    clear hs
    have hB6s := HB6.out.size
    by_cases hcs : check s = 0
    rotate_left
    · rw [if_neg hcs] at hmk
      refine (term_Make.calls 115 _ 2 [key, t] ⟨#[]⟩ 3 _ (lit2 w6 key t) (by simp) hmk).mono ?_
      rintro e w7 ⟨rfl, hb⟩
      have HB7 := Lib.hid ((HB6.out.alloc hB6s (.cells #[.string key, .string t] 23 (0, 0))).trans (hb.mono (by simp; omega)))
      clear hb hcs hmk
      go_wp2_with fail
      go_ret
      exact ⟨rfl, HB7.out⟩
    rw [if_pos hcs] at hmk
    refine (term_Make.calls 115 _ 2 [key, t] s 0 _ (lit2 w6 key t) (by simp) hmk).mono ?_
    rintro e w7 ⟨rfl, hb⟩
    have HB7 := Lib.hid ((HB6.out.alloc hB6s (.cells #[.string key, .string t] 23 (0, 0))).trans (hb.mono (by simp; omega)))
    have HCS := Lib.hid hcs
    clear hb hcs hmk
    obtain ⟨hn200, hv⟩ := ck_of HR0.out
    have HV := Lib.hid hv
    clear hv
    go_wp2_with fail
    refine (chantrylaw04_Has.calls K A c l s _ w7 (HRC.out _ HB7.out) HC.out (HAS.out l s (by omega) HV.out)).mono ?_
    rintro e w8 ⟨rfl, hb⟩
    have HB8 := Lib.hid (HB7.out.trans (hb.mono HB7.out.size))
    clear hb
    by_cases hh : ∃ x ∈ l, s ∈ (subsOf x).1
    · rw [decide_eq_true hh]
      clear hh
      go_wp2_with fail
      go_ret
      exact ⟨rfl, HB8.out⟩
    rw [decide_eq_false hh]
    have HH := Lib.hid hh
    clear hh
    go_wp2_with fail
    have hB8s := HB8.out.size
    refine (chantrylaw04_Has.calls K _ 1 [g] s _ _ (lit1 w8 g) (by simp) (HAS.out [g] s (by simp) (fun x hx => by rw [List.mem_singleton.1 hx]; exact HK3.out))).mono ?_
    rintro e w9 ⟨rfl, hb⟩
    have HB9 := Lib.hid ((HB8.out.alloc hB8s (.cells #[.string g] 23 (0, 0))).trans (hb.mono (by simp; omega)))
    clear hb
    by_cases hh : ∃ x ∈ [g], s ∈ (subsOf x).1
    · rw [decide_eq_true hh]
      clear hh
      go_wp2_with fail
      go_ret
      exact ⟨rfl, HB9.out⟩
    rw [decide_eq_false hh]
    have HG := Lib.hid hh
    clear hh
    go_wp2_with fail
    refine (know_Derives.calls A c l key (dvB l key) 0 w9 (HRC.out _ HB9.out) HC.out (der_ok HR0.out HK1.out)).mono ?_
    rintro e w10 ⟨rfl, hb⟩
    have HB10 := Lib.hid (HB9.out.trans (hb.mono HB9.out.size))
    clear hb
    obtain ⟨can, hcan⟩ : ∃ can, dvB l key = can := ⟨_, rfl⟩
    rw [hcan]
    have HCAN := Lib.hid hcan
    clear hcan
    cases can with
    | true =>
      go_wp2_with fail
      go_ret
      exact ⟨rfl, HB10.out⟩
    | false =>
      go_wp2_with fail
      refine (know_Derives.calls A c l g (dvB l g) 0 w10 (HRC.out _ HB10.out) HC.out (der_ok HR0.out HK3.out)).mono ?_
      rintro e w11 ⟨rfl, hb⟩
      have HB11 := Lib.hid (HB10.out.trans (hb.mono HB10.out.size))
      clear hb
      obtain ⟨A1, c1, W1, hrun1, hb1, A2, c2, W2, hrun2, hb2, hC2, hc2⟩ := copy_row A c l s w11 (HRC.out _ HB11.out) (by omega) 22
      have HB12 := Lib.hid (HB11.out.trans (hb2.mono HB11.out.size))
      have HR1 := Lib.hid hrun1; have HR2 := Lib.hid hrun2; have HC2 := Lib.hid hC2
      clear hb1 hb2 hrun1 hrun2 hC2
      have hL : checkL (l ++ [s]) = 0 := checkL_of (by simp; omega) (fun x hx => (List.mem_append.1 hx).elim (HV.out x) (fun e => by rw [List.mem_singleton.1 e]; exact HCS.out))
      have hval : dvB (l ++ [s]) g = dvB l g := by
        refine dvL_eq hL HR0.out HK3.out HK3.out ?_
        have hs := HS.out
        have hcs := HCS.out
        have h1 := HH.out
        have h2 := HG.out
        rw [hs] at hcs h1 h2 ⊢
        exact sealed_law HR0.out HK1.out HK2.out hcs (fun x hx hy => h1 ⟨x, hx, hy⟩) (fun hy => h2 ⟨g, by simp, hy⟩) (fun d => by have := HCAN.out; rw [(dvL HR0.out HK1.out).2 d] at this; cases this)
      have hder := know_Derives.calls A2 c2 (l ++ [s]) g (dvB (l ++ [s]) g) 0 W2 HC2.out (by rw [List.length_append]; exact hc2) (der_ok hL HK3.out)
      rw [hval, List.length_append, List.length_singleton] at hder
      clear hval hL
      generalize dvB l g = x at hder ⊢
      go_wp2_with (first | (at_builtin; refine wpList_qq rfl (.const (.slice none 0 0)) (.tmp 97) rfl rfl rfl HR1.out ?_) | (at_builtin; refine wpList_qq rfl (.tmp 98) (.tmp 100) rfl rfl rfl HR2.out ?_) | (go_at_call 15; refine hder.mono ?_; clear hder; rintro e w13 ⟨rfl, hb⟩; have HB13 := Lib.hid (HB12.out.trans (hb.mono HB12.out.size)); clear hb))
      go_ret
      exact ⟨by simp, HB13.out⟩
end Go.Proofs.Ytinkkiglkjihmaa.Ev04
