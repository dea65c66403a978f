/- TreeBoth and TreeGone: the plain laws. -/
import Derived.Test.YtnpabhoflkppaaaDoorPaths14
import Derived.Test.YtnpabhoflkppaaaDoorPrxBoth
import Derived.Test.YtnpabhoflkppaaaDoorPrxGone
set_option linter.unusedVariables false
set_option linter.unusedSimpArgs false
namespace Go.Proofs.YtnpabhoflkppaaaDoor.Pr
open Go.RowKit Go.Proofs.YtnpabhoflkppaaaDoorW.PrintWords

theorem xor_zero {a b : Nat} (h : a ^^^ b = 0) : a = b := by
  apply Nat.eq_of_testBit_eq
  intro i
  have := congrArg (fun n : Nat => n.testBit i) h
  simp only [Nat.testBit_xor, Nat.zero_testBit] at this
  revert this
  cases a.testBit i <;> cases b.testBit i <;> simp
theorem rd_at (l : List Int) (j : Nat) (h : j < l.length) : rd l (j : Int) = l[j] := by simp [rd, h]
theorem w1 (j : Nat) (h : j < 1000000) : wrap64 ((j : Int) + 1) = ((j + 1 : Nat) : Int) := by unfold wrap64; omega
theorem fresh_len (a b : Int) : (freshI a b).length ≤ 15 := by
  unfold freshI
  rw [List.length_map]
  exact Nat.le_trans (List.length_filter_le _ _) (by decide)
theorem mem_fresh {a b : Nat} {x : Int} : x ∈ freshI (a : Int) (b : Int) ↔ ∃ n : Nat, x = (n : Int) ∧ 1 ≤ n ∧ n ≤ 15 ∧ (a ^^^ b) &&& maskN n ≠ 0 ∧ b &&& maskN n ≠ 0 := by
  unfold freshI
  rw [List.mem_map]
  constructor
  · rintro ⟨n, hn, rfl⟩
    obtain ⟨q1, q2⟩ := List.mem_filter.1 hn
    obtain ⟨h1, h2⟩ := (mem_down n).1 q1
    unfold freshB at q2
    simp only [Int.toNat_natCast, Bool.and_eq_true, bne_iff_ne] at q2
    exact ⟨n, rfl, h1, h2, q2.1, q2.2⟩
  · rintro ⟨n, rfl, h1, h2, h3, h4⟩
    refine ⟨n, List.mem_filter.2 ⟨(mem_down n).2 ⟨h1, h2⟩, ?_⟩, rfl⟩
    unfold freshB
    simp only [Int.toNat_natCast, Bool.and_eq_true, bne_iff_ne]
    exact ⟨h3, h4⟩

/-- The inner loop of TreeBoth: is a node among others? -/
theorem both_in (x0 : Nat) (hx : x0 < 65536) (x1 : Int) (x5 x6 : List Int) (x8 : Int) (x20 : List Int) (x21 x22 : Int) (x26 : List Int) (hl : x26.length < 1000) : ∀ (d j : Nat) (fnd : Bool), x26.length - j = d → j ≤ x26.length →
    ((fnd || (x26.drop j).contains x8) = true ∨ belowI (x0 : Int) x8 = 0) → Ev (fun k => chantrylaw14_TreeBoth.l0 k (x0 : Int) x1 x5 x6 x20 x21 (wrap64 (x22 + 1))) true →
    Ev (fun k => chantrylaw14_TreeBoth.l1 k (x0 : Int) x1 x5 x6 x8 fnd x20 x21 x22 x26 (x26.length : Int) (j : Int)) true := by
  intro d
  induction d with
  | zero =>
    intro j fnd hd hj hf hk
    rw [List.drop_of_length_le (by omega)] at hf
    cases fnd with
    | true => exact Ev.step (fun k => by simp only [chantrylaw14_TreeBoth.l1]; rw [if_neg (by omega), if_pos trivial]) hk
    | false =>
      have hz : belowI (x0 : Int) x8 = 0 := by simpa using hf
      refine Ev.step (f := fun k => chantrylaw14_TreeBoth.l0 k (x0 : Int) x1 x5 x6 x20 x21 (wrap64 (x22 + 1))) (fun k => ?_) hk
      simp only [chantrylaw14_TreeBoth.l1]
      rw [if_neg (by omega), if_neg (by simp), below_f x0 hx, hz]
      rfl
  | succ d ih =>
    intro j fnd hd hj hf hk
    have hjl : j < x26.length := by omega
    rw [List.drop_eq_getElem_cons hjl, List.contains_cons] at hf
    have hr := rd_at x26 j hjl
    cases fnd with
    | true =>
      refine Ev.step (f := fun k => chantrylaw14_TreeBoth.l1 k (x0 : Int) x1 x5 x6 x8 true x20 x21 x22 x26 (x26.length : Int) ((j + 1 : Nat) : Int)) (fun k => ?_) (ih (j + 1) true (by omega) (by omega) (.inl rfl) hk)
      simp only [chantrylaw14_TreeBoth.l1]
      rw [if_pos (by omega), if_pos (by omega), if_pos (by omega), if_pos trivial, w1 j (by omega)]
    | false =>
      refine Ev.step (f := fun k => chantrylaw14_TreeBoth.l1 k (x0 : Int) x1 x5 x6 x8 (x26[j] == x8) x20 x21 x22 x26 (x26.length : Int) ((j + 1 : Nat) : Int)) (fun k => ?_) (ih (j + 1) _ (by omega) (by omega) ?_ hk)
      · simp only [chantrylaw14_TreeBoth.l1]
        rw [if_pos (by omega), if_pos (by omega), if_pos (by omega), if_neg (by simp), w1 j (by omega), hr]
      · rw [Bool.false_or] at hf
        rwa [show (x26[j] == x8) = (x8 == x26[j]) from Bool.beq_comm]
theorem TreeBoth : chantrylaw14_TreeBoth.Pure := by
  intro a0 a1 h0 h1
  obtain ⟨a, rfl, ha⟩ := wf16 h0
  obtain ⟨b, rfl, hb⟩ := wf16 h1
  refine Ev.rounds (?_ : Ev (fun k => chantrylaw14_TreeBoth.f k (a : Int) (b : Int)) true)
  unfold chantrylaw14_TreeBoth.f
  refine Ev.bind alive_ev ?_
  simp only [if_true]
  refine Ev.bind (fresh_ev a b ha hb) ?_
  refine Ev.bind (fresh_ev b a hb ha) ?_
  have hlen := fresh_len (a : Int) (b : Int)
  have hlen2 := fresh_len (b : Int) (a : Int)
  have hall : ∀ (d i : Nat), (freshI (a : Int) (b : Int)).length - i = d → i ≤ (freshI (a : Int) (b : Int)).length → Ev (fun k => chantrylaw14_TreeBoth.l0 k (a : Int) (b : Int) (freshI (a : Int) (b : Int)) (freshI (b : Int) (a : Int)) (freshI (a : Int) (b : Int)) ((freshI (a : Int) (b : Int)).length : Int) (i : Int)) true := by
    intro d
    induction d with
    | zero =>
      intro i hd hi
      by_cases hab : a = b
      · subst hab
        have hnil : freshI (a : Int) (a : Int) = [] := by
          cases hf : freshI (a : Int) (a : Int) with
          | nil => rfl
          | cons x t =>
            obtain ⟨n, _, _, _, h3, _⟩ := mem_fresh.1 (show x ∈ freshI (a : Int) (a : Int) by rw [hf]; exact List.mem_cons_self)
            rw [Nat.xor_self, Nat.zero_and] at h3
            exact absurd rfl h3
        refine Ev.step (f := fun _ => some true) (fun k => ?_) (Ev.now _)
        simp only [chantrylaw14_TreeBoth.l0]
        rw [if_neg (by omega), if_pos trivial, hnil]; rfl
      · refine Ev.step (f := fun _ => some true) (fun k => ?_) (Ev.now _)
        simp only [chantrylaw14_TreeBoth.l0]
        rw [if_neg (by omega), if_neg (by omega)]
        by_cases hz : b = 0
        · subst hz
          have hnil : freshI (a : Int) ((0 : Nat) : Int) = [] := by
            cases hf : freshI (a : Int) ((0 : Nat) : Int) with
            | nil => rfl
            | cons x t =>
              obtain ⟨n, _, _, _, _, h4⟩ := mem_fresh.1 (show x ∈ freshI (a : Int) ((0 : Nat) : Int) by rw [hf]; exact List.mem_cons_self)
              rw [Nat.zero_and] at h4
              exact absurd rfl h4
          rw [hnil]; rfl
        · have hx : a ^^^ b < 65536 := Nat.xor_lt_two_pow (n := 16) ha hb
          have hm : maskN 1 = 65535 := rfl
          have and_all : ∀ n, n < 65536 → n &&& maskN 1 = n := fun n hn => by
            rw [hm, show (65535 : Nat) = 2 ^ 16 - 1 from rfl, Nat.and_two_pow_sub_one_eq_mod]
            exact Nat.mod_eq_of_lt hn
          have h1m : ((1 : Nat) : Int) ∈ freshI (a : Int) (b : Int) := mem_fresh.2 ⟨1, rfl, by omega, by omega, by rw [and_all _ hx]; exact fun e => hab (xor_zero e), by rw [and_all _ hb]; exact hz⟩
          have hpos := List.length_pos_of_mem h1m
          have e1 : decide (((freshI (a : Int) (b : Int)).length : Int) > 0) = true := decide_eq_true (by omega)
          have e2 : ((b : Int) != 0) = true := by simp; omega
          rw [e1, e2]; rfl
    | succ d ih =>
      intro i hd hi
      have hil : i < (freshI (a : Int) (b : Int)).length := by omega
      have hmem := List.getElem_mem hil
      obtain ⟨n, hn, g1, g2, g3, g4⟩ := mem_fresh.1 hmem
      refine Ev.step (f := fun k => chantrylaw14_TreeBoth.l1 k (a : Int) (b : Int) (freshI (a : Int) (b : Int)) (freshI (b : Int) (a : Int)) (freshI (a : Int) (b : Int))[i] false (freshI (a : Int) (b : Int)) ((freshI (a : Int) (b : Int)).length : Int) (i : Int) (freshI (b : Int) (a : Int)) ((freshI (b : Int) (a : Int)).length : Int) ((0 : Nat) : Int)) (fun k => ?_) ?_
      · simp only [chantrylaw14_TreeBoth.l0]
        rw [if_pos (by omega), if_pos (by omega), if_pos (by omega), rd_at _ i hil]; rfl
      · refine both_in a ha _ _ _ _ _ _ _ _ (by omega) _ 0 false rfl (Nat.zero_le _) ?_ (by rw [w1 i (by omega)]; exact ih (i + 1) (by omega) (by omega))
        rw [List.drop_zero, Bool.false_or, hn, List.contains_iff_mem, belowI_nat a n g1 (by omega)]
        by_cases hz : a &&& maskN n = 0
        · exact .inr (by rw [hz]; rfl)
        · exact .inl (mem_fresh.2 ⟨n, rfl, g1, g2, by rw [Nat.xor_comm]; exact g3, hz⟩)
  exact hall _ 0 rfl (Nat.zero_le _)

/-- The inner loop of TreeGone. -/
theorem gone_in (x1 : Nat) (hx : x1 < 65536) (x7 x8 : List Int) (i : Nat) (hi : i < x8.length) (h8 : x8.length < 1000) (h7 : x7.length < 1000) : ∀ (d j : Nat) (fnd : Bool), x7.length - j = d → j ≤ x7.length →
    ((fnd || (x7.drop j).contains x8[i]) = (belowI (x1 : Int) x8[i] != 0)) → Ev (fun k => chantrylaw14_TreeGone.l0 k (x1 : Int) x7 x8 ((i + 1 : Nat) : Int)) true →
    Ev (fun k => chantrylaw14_TreeGone.l1 k (x1 : Int) x7 x8 (i : Int) fnd x7 (x7.length : Int) (j : Int)) true := by
  intro d
  induction d with
  | zero =>
    intro j fnd hd hj hf hk
    rw [List.drop_of_length_le (by omega)] at hf
    have hf' : fnd = (belowI (x1 : Int) x8[i] != 0) := by simpa using hf
    refine Ev.step (f := fun k => chantrylaw14_TreeGone.l0 k (x1 : Int) x7 x8 ((i + 1 : Nat) : Int)) (fun k => ?_) hk
    simp only [chantrylaw14_TreeGone.l1]
    rw [if_neg (by omega), if_pos (by omega), if_pos (by omega), rd_at x8 i hi, below_f x1 hx, w1 i (by omega)]
    simp only [Option.bind_some]
    rw [hf', if_neg (by simp)]
  | succ d ih =>
    intro j fnd hd hj hf hk
    have hjl : j < x7.length := by omega
    rw [List.drop_eq_getElem_cons hjl, List.contains_cons] at hf
    cases fnd with
    | true =>
      refine Ev.step (f := fun k => chantrylaw14_TreeGone.l1 k (x1 : Int) x7 x8 (i : Int) true x7 (x7.length : Int) ((j + 1 : Nat) : Int)) (fun k => ?_) (ih (j + 1) true (by omega) (by omega) (by rw [Bool.true_or] at hf ⊢; exact hf) hk)
      simp only [chantrylaw14_TreeGone.l1]
      rw [if_pos (by omega), if_pos (by omega), if_pos (by omega), if_pos trivial, w1 j (by omega)]
    | false =>
      refine Ev.step (f := fun k => chantrylaw14_TreeGone.l1 k (x1 : Int) x7 x8 (i : Int) (x7[j] == x8[i]) x7 (x7.length : Int) ((j + 1 : Nat) : Int)) (fun k => ?_) (ih (j + 1) _ (by omega) (by omega) ?_ hk)
      · simp only [chantrylaw14_TreeGone.l1]
        rw [if_pos (by omega), if_pos (by omega), if_pos (by omega), if_neg (by simp), if_pos (by omega), if_pos (by omega), w1 j (by omega), rd_at x7 j hjl, rd_at x8 i hi]
      · rw [Bool.false_or] at hf
        rwa [show (x7[j] == x8[i]) = (x8[i] == x7[j]) from Bool.beq_comm]
theorem path_tail_at {id : Nat} (h : id < 16) (i : Nat) (h1 : 1 ≤ i) (hi : i < (pathI (id : Int)).length) : (pathI (id : Int))[i] ∈ (pathI (id : Int)).tail := by
  have ht : i - 1 < (pathI (id : Int)).tail.length := by rw [List.length_tail]; omega
  have : (pathI (id : Int)).tail[i - 1] = (pathI (id : Int))[i] := by
    rw [List.getElem_tail]; congr 1; omega
  rw [← this]
  exact List.getElem_mem _
theorem TreeGone : chantrylaw14_TreeGone.Pure := by
  intro a0 a1 a2 h0 h1 h2
  obtain ⟨a, rfl, ha⟩ := wf16 h0
  obtain ⟨b, rfl, hb⟩ := wf16 h1
  obtain ⟨p0, p1⟩ := wf8 h2
  obtain ⟨id, rfl⟩ := Int.eq_ofNat_of_zero_le p0
  refine Ev.rounds (?_ : Ev (fun k => chantrylaw14_TreeGone.f k (a : Int) (b : Int) (id : Int)) true)
  unfold chantrylaw14_TreeGone.f
  refine Ev.bind alive_ev ?_
  simp only [if_true]
  refine Ev.bind (fresh_ev a b ha hb) ?_
  by_cases hab : a = b
  · subst hab
    simp only [if_true]
    have hnil : freshI (a : Int) (a : Int) = [] := by
      cases hf : freshI (a : Int) (a : Int) with
      | nil => rfl
      | cons x t =>
        obtain ⟨n, _, _, _, h3, _⟩ := mem_fresh.1 (show x ∈ freshI (a : Int) (a : Int) by rw [hf]; exact List.mem_cons_self)
        rw [Nat.xor_self, Nat.zero_and] at h3
        exact absurd rfl h3
    rw [hnil]
    exact Ev.now _
  · simp only [show ((a : Int) = (b : Int)) = False from eq_false (by omega), if_false]
    refine Ev.bind (has_f a id ha (by omega)) ?_
    refine Ev.bind (has_f b id hb (by omega)) ?_
    by_cases hh : (hasB a id == hasB b id) = true
    · simp only [hh, if_true]
      exact Ev.now _
    · simp only [hh, if_false]
      have hid : id < 16 := by
        apply Classical.byContradiction
        intro hn
        unfold hasB at hh
        rw [decide_eq_false hn] at hh
        simp at hh
      have hbit : bit (a ^^^ b) id = true := by
        unfold hasB at hh
        rw [decide_eq_true hid, Bool.true_and, Bool.true_and] at hh
        rw [bit_xor]
        revert hh
        cases bit a id <;> cases bit b id <;> simp
      refine Ev.bind (path_f (id : Int) p0 p1) ?_
      have hpl := path_len id hid
      have hfl := fresh_len (a : Int) (b : Int)
      have hall : ∀ (d i : Nat), 5 - i = d → 1 ≤ i → i ≤ 5 → Ev (fun k => chantrylaw14_TreeGone.l0 k (b : Int) (freshI (a : Int) (b : Int)) (pathI (id : Int)) (i : Int)) true := by
        intro d
        induction d with
        | zero =>
          intro i hd h1 hi
          refine Ev.step (f := fun _ => some true) (fun k => ?_) (Ev.now _)
          simp only [chantrylaw14_TreeGone.l0]
          rw [if_neg (by omega), hpl]; rfl
        | succ d ih =>
          intro i hd h1 hi
          have hil : i < (pathI (id : Int)).length := by omega
          refine Ev.step (f := fun k => chantrylaw14_TreeGone.l1 k (b : Int) (freshI (a : Int) (b : Int)) (pathI (id : Int)) (i : Int) false (freshI (a : Int) (b : Int)) ((freshI (a : Int) (b : Int)).length : Int) ((0 : Nat) : Int)) (fun k => ?_) ?_
          · simp only [chantrylaw14_TreeGone.l0]
            rw [if_pos (by omega)]; rfl
          · refine gone_in b hb _ _ i hil (by omega) (by omega) _ 0 false rfl (Nat.zero_le _) ?_ (ih (i + 1) (by omega) (by omega) (by omega))
            have hm := path_tail_at hid i h1 hil
            have hr := path_range hid hm
            obtain ⟨n, hn⟩ := Int.eq_ofNat_of_zero_le (show 0 ≤ (pathI (id : Int))[i] by omega)
            rw [hn] at hm hr ⊢
            have hb2 := (mem_tail hid (show 1 ≤ n by omega) (by omega)).1 hm
            have hx : a ^^^ b < 65536 := Nat.xor_lt_two_pow (n := 16) ha hb
            rw [List.drop_zero, Bool.false_or, belowI_nat b n (by omega) (by omega), Bool.eq_iff_iff, List.contains_iff_mem, mem_fresh, bne_iff_ne]
            constructor
            · rintro ⟨m, hmn, _, _, _, h4⟩
              have : n = m := by omega
              subst this
              omega
            · intro h4
              exact ⟨n, rfl, by omega, by omega, (below_ne hx (by omega)).2 ⟨id, hid, hbit, hb2⟩, by omega⟩
      exact hall 4 1 rfl (by omega) (by omega)
end Go.Proofs.YtnpabhoflkppaaaDoor.Pr
