import Derived.Test.YtecimagjeelgbaaDoorCAlive
import Derived.Test.YtecimagjeelgbaaDoorCLOwn15
/- The new keys, told and learned: plain maths. -/
set_option linter.unusedVariables false
set_option linter.unusedSimpArgs false
namespace Go.Proofs.YtecimagjeelgbaaDoor.Pr
open Go.RowKit Go.Proofs.YtecimagjeelgbaaDoorW.PrintWords Go.Proofs.YtecimagjeelgbaaDoorW.PrintLast Go.Proofs.YtecimagjeelgbaaDoorW.PrintMore Go.Proofs.YtecimagjeelgbaaDoor.TT

/-! ### Terms -/
def nTm (a : Int) : Tm := .nonce (UInt8.ofNat (a / 256).toNat) (UInt8.ofNat (a % 256).toNat)
def lTm (n : Int) : Tm := .const [107, UInt8.ofNat (n % 256).toNat]
theorem nonce_str (a : Int) (h0 : 0 ≤ a) (h1 : a < 65536) : nonceN a = (nTm a).str := Option.some.inj (Ev03.nonce_spec a h0 h1)
theorem label_str (n : Int) : Ev03.labelOf n = (lTm n).str := by
  unfold Ev03.labelOf Ev03.constOf strOfNums
  rw [if_neg (by simp [ByteArray.size])]
  rfl
theorem nTm_ok (a : Int) : (nTm a).ok ∧ (nTm a).depth = 1 ∧ (nTm a).enc.length = 3 := by unfold nTm; exact ⟨by simp [Tm.ok], by simp [Tm.depth], by simp [Tm.enc]⟩
theorem lTm_ok (n : Int) : (lTm n).ok ∧ (lTm n).depth = 1 ∧ (lTm n).enc.length = 4 := by unfold lTm; exact ⟨by simp [Tm.ok], by simp [Tm.depth], by simp [Tm.enc]⟩
theorem ar_two {k : UInt8} (h : isTwo k = true) : ar k = 2 := by
  have := isTwo_ne h
  unfold ar
  rw [if_neg (by simp [this.1, this.2.1]), if_neg this.2.2, if_pos h]
theorem make_two {k : UInt8} (hk : isTwo k = true) {s t : Tm} (hs : s.ok) (ht : t.ok) (ds : s.depth ≤ 50) (dt : t.depth ≤ 50) (ls : s.enc.length ≤ 900) (lt : t.enc.length ≤ 900) :
    makeOf k [s.str, t.str] = ((Tm.two k s t).str, 0) := by
  have c1 := check_str hs (by omega) (by omega)
  have c2 := check_str ht (by omega) (by omega)
  have c3 : check (Tm.two k s t).str = 0 := check_str (by simp only [Tm.ok]; exact ⟨hk, hs, ht⟩) (by simp only [Tm.depth]; omega) (by simp only [Tm.enc, List.length_cons, List.length_append]; omega)
  have e : strOf (k :: (([s.str, t.str].map fun s => s.data.toList).flatten)) = (Tm.two k s t).str := by
    rw [← Ev03.two_str]; simp
  unfold makeOf
  rw [if_neg (by rw [ar_two hk]; simp)]
  have hf : [s.str, t.str].find? (fun s => decide (check s ≠ 0)) = none := by simp [c1, c2]
  rw [hf]
  simp only
  rw [e, if_pos c3]
/-- What is told. -/
def tTm (C : Int) (n : Int) (X : Int) : Tm := .two 115 (nTm C) (.two 112 (lTm n) (nTm X))
theorem tell_str (C n X : Int) (hC : 0 ≤ C ∧ C < 65536) (hX : 0 ≤ X ∧ X < 65536) : Ev03.tellOf (nonceN C) n (nonceN X) = ((tTm C n X).str, 0) := by
  obtain ⟨o1, d1, l1⟩ := nTm_ok C
  obtain ⟨o2, d2, l2⟩ := nTm_ok X
  obtain ⟨o3, d3, l3⟩ := lTm_ok n
  unfold Ev03.tellOf
  rw [nonce_str C hC.1 hC.2, nonce_str X hX.1 hX.2, label_str]
  rw [make_two (by decide) o3 o2 (by omega) (by omega) (by omega) (by omega)]
  rw [if_pos rfl]
  exact make_two (by decide) o1 (by simp only [Tm.ok]; exact ⟨by decide, o3, o2⟩) (by omega) (by simp only [Tm.depth]; omega) (by omega) (by simp only [Tm.enc, List.length_cons, List.length_append]; omega)
theorem tTm_ok (C n X : Int) : (tTm C n X).ok ∧ check (tTm C n X).str = 0 := by
  obtain ⟨o1, d1, l1⟩ := nTm_ok C
  obtain ⟨o2, d2, l2⟩ := nTm_ok X
  obtain ⟨o3, d3, l3⟩ := lTm_ok n
  have ho : (tTm C n X).ok := by unfold tTm; simp only [Tm.ok]; exact ⟨by decide, o1, by decide, o3, o2⟩
  exact ⟨ho, check_str ho (by unfold tTm; simp only [Tm.depth]; omega) (by unfold tTm; simp only [Tm.enc, List.length_cons, List.length_append]; omega)⟩
theorem nonce_check (a : Int) (h0 : 0 ≤ a) (h1 : a < 65536) : check (nonceN a) = 0 := by
  rw [nonce_str a h0 h1]
  obtain ⟨o, d, l⟩ := nTm_ok a
  exact check_str o (by omega) (by omega)
theorem str_inj {s t : Tm} (hs : s.ok) (ht : t.ok) (h : s.str = t.str) : s = t := enc_inj hs ht (strOf_inj h)
theorem label_inj {m n : Int} (hm : 0 ≤ m ∧ m < 256) (hn : 0 ≤ n ∧ n < 256) (h : (lTm m).str = (lTm n).str) : m = n := by
  have := str_inj (lTm_ok m).1 (lTm_ok n).1 h
  unfold lTm at this
  injection this with this
  have h2 : UInt8.ofNat (m % 256).toNat = UInt8.ofNat (n % 256).toNat := by
    injection this with _ this
    injection this
  have h3 := congrArg UInt8.toNat h2
  simp only [UInt8.toNat_ofNat'] at h3
  omega
/-- A key of a node opens what is told just where it is the child's, and the label is the node's. -/
theorem open_told (ks : List ByteArray) (C n X : Int) (hC : 0 ≤ C ∧ C < 65536) (hX : 0 ≤ X ∧ X < 65536) (hn : 0 ≤ n ∧ n < 256) (c : Nat) (hc : c < 32) :
    openK ks (tTm C n X).str c = if key ks c = nonceN C ∧ ((c / 2 : Nat) : Int) = n then (nonceN X, true) else (⟨#[]⟩, false) := by
  obtain ⟨ot, ct⟩ := tTm_ok C n X
  obtain ⟨o1, d1, l1⟩ := nTm_ok C
  obtain ⟨o2, d2, l2⟩ := nTm_ok X
  obtain ⟨o3, d3, l3⟩ := lTm_ok n
  have op : (Tm.two 112 (lTm n) (nTm X)).ok := by simp only [Tm.ok]; exact ⟨by decide, o3, o2⟩
  have cp : check (Tm.two 112 (lTm n) (nTm X)).str = 0 := check_str op (by simp only [Tm.depth]; omega) (by simp only [Tm.enc, List.length_cons, List.length_append]; omega)
  have hC2 : (nTm C).str = nonceN C := (nonce_str C hC.1 hC.2).symm
  by_cases hk : key ks c = nonceN C
  · have hkc : check (key ks c) = 0 := by rw [hk]; exact nonce_check C hC.1 hC.2
    have hop : Ev03.openOf (key ks c) (tTm C n X).str = ((Tm.two 112 (lTm n) (nTm X)).str, 0) := by
      unfold Ev03.openOf
      rw [if_pos hkc, if_pos ct, read_str _ ot]
      unfold tTm
      simp only
      rw [if_pos trivial, if_pos (by rw [hC2, hk])]
    unfold openK
    rw [hop, if_pos rfl]
    unfold pairOf
    rw [partsOf_ok cp (read_str _ op)]
    simp only [Tm.kind, Tm.parts, List.map_cons, List.map_nil]
    rw [if_pos (show ((112 : UInt8).toNat : Int) = 112 by decide), label_str]
    by_cases hl : ((c / 2 : Nat) : Int) = n
    · rw [if_pos (by rw [hl]), if_pos ⟨hk, hl⟩, ← nonce_str X hX.1 hX.2]
    · rw [if_neg (fun e => hl (label_inj hn (by omega) e).symm), if_neg (fun e => hl e.2)]
  · rw [if_neg (fun e : key ks c = nonceN C ∧ _ => hk e.1)]
    have hop : (Ev03.openOf (key ks c) (tTm C n X).str).2 ≠ 0 := by
      unfold Ev03.openOf
      by_cases hkc : check (key ks c) = 0
      · rw [if_pos hkc, if_pos ct, read_str _ ot]
        unfold tTm
        simp only
        rw [if_pos trivial, if_neg (by rw [hC2]; exact fun e => hk e.symm)]
        decide
      · rw [if_neg hkc]; exact hkc
    unfold openK
    rw [if_neg hop]
/-- Who has a child's key? -/
def Opens (K : List ByteArray) (C : Int) (n : Nat) : Prop := key K (2 * n) = nonceN C ∨ key K (2 * n + 1) = nonceN C
theorem learn_told (K : List ByteArray) (m : Nat) (C X : Int) (hC : 0 ≤ C ∧ C < 65536) (hX : 0 ≤ X ∧ X < 65536) (n : Nat) (h1 : 1 ≤ n) (h2 : n ≤ 15) :
    (Opens K C n ∧ (learnStep (K, m) (tTm C n X).str).1 = K.set n (nonceN X)) ∨ (¬ Opens K C n ∧ (learnStep (K, m) (tTm C n X).str).1 = K) := by
  have ho := fun c hc => open_told K C (n : Int) X hC hX (by omega) c hc
  cases hf : findOpen K (tTm C n X).str with
  | none =>
    right
    refine ⟨?_, by unfold learnStep; simp only; rw [hf]⟩
    intro hop
    unfold findOpen at hf
    rw [List.find?_eq_none] at hf
    rcases hop with h | h
    · have := hf (2 * n) (List.mem_range'_1.2 (by omega))
      rw [ho (2 * n) (by omega), if_pos ⟨h, by omega⟩] at this
      exact this rfl
    · have := hf (2 * n + 1) (List.mem_range'_1.2 (by omega))
      rw [ho (2 * n + 1) (by omega), if_pos ⟨h, by omega⟩] at this
      exact this rfl
  | some c =>
    left
    have hm := List.mem_of_find?_eq_some hf
    have hp := List.find?_some hf
    rw [List.mem_range'_1] at hm
    rw [ho c (by omega)] at hp
    split at hp
    · rename_i hcc
      have hcn : c / 2 = n := by have := hcc.2; omega
      refine ⟨?_, ?_⟩
      · rcases (show c = 2 * n ∨ c = 2 * n + 1 by omega) with e | e
        · exact .inl (e ▸ hcc.1)
        · exact .inr (e ▸ hcc.1)
      · unfold learnStep
        simp only
        rw [hf]
        simp only
        rw [hcn, ho c (by omega), if_pos hcc]
    · cases hp
end Go.Proofs.YtecimagjeelgbaaDoor.Pr

/- The new keys' numbers; who has which. -/
set_option linter.unusedVariables false
set_option linter.unusedSimpArgs false
namespace Go.Proofs.YtecimagjeelgbaaDoor.Pr
open Go.RowKit Go.Proofs.YtecimagjeelgbaaDoorW.PrintWords Go.Proofs.YtecimagjeelgbaaDoorW.PrintLast Go.Proofs.YtecimagjeelgbaaDoorW.PrintMore Go.Proofs.YtecimagjeelgbaaDoor.TT

/-! ### Nodes -/
theorem mem_fresh {a b : Nat} {x : Int} : x ∈ freshI (a : Int) (b : Int) ↔ ∃ n : Nat, x = (n : Int) ∧ 1 ≤ n ∧ n ≤ 15 ∧ (a ^^^ b) &&& maskN n ≠ 0 ∧ b &&& maskN n ≠ 0 := by
  unfold freshI
  rw [List.mem_map]
  constructor
  · rintro ⟨n, hn, rfl⟩
    obtain ⟨q1, q2⟩ := List.mem_filter.1 hn
    obtain ⟨h1, h2⟩ := (mem_down n).1 q1
    unfold freshB at q2
    simp only [Int.toNat_natCast, Bool.and_eq_true, bne_iff_ne] at q2
    exact ⟨n, rfl, h1, h2, q2.1, q2.2⟩
  · rintro ⟨n, rfl, h1, h2, h3, h4⟩
    refine ⟨n, List.mem_filter.2 ⟨(mem_down n).2 ⟨h1, h2⟩, ?_⟩, rfl⟩
    unfold freshB
    simp only [Int.toNat_natCast, Bool.and_eq_true, bne_iff_ne]
    exact ⟨h3, h4⟩
theorem fresh_falls (a b : Int) : (freshI a b).Pairwise (· > ·) := by
  unfold freshI
  rw [List.pairwise_map]
  refine List.Pairwise.filter _ ?_
  show List.Pairwise (fun a b : Nat => (a : Int) > (b : Int)) downL
  decide
/-- Is anybody below a node? -/
def Any (s n : Nat) : Prop := belowI (s : Int) (n : Int) ≠ 0
theorem any_iff {s n : Nat} (h1 : 1 ≤ n) (hn : n ≤ 31) : Any s n ↔ s &&& maskN n ≠ 0 := by
  unfold Any
  rw [belowI_nat s n h1 hn]
  omega
theorem any_zero (n : Nat) : ¬ Any 0 n := by
  unfold Any belowI
  split
  · simp
  · simp
/-- A node that is not new, and has somebody below, had somebody below. -/
theorem any_old {a b n : Nat} (ha : a < 65536) (hb : b < 65536) (h1 : 1 ≤ n) (hn : n ≤ 15) (hA : Any b n) (hf : ¬ (n : Int) ∈ freshI (a : Int) (b : Int)) : Any a n := by
  rw [any_iff h1 (by omega)] at hA ⊢
  have hx : (a ^^^ b) &&& maskN n = 0 := by
    by_cases h : (a ^^^ b) &&& maskN n = 0
    · exact h
    · exact absurd (mem_fresh.2 ⟨n, rfl, h1, hn, h, hA⟩) hf
  have : a &&& maskN n = b &&& maskN n := by
    apply Nat.eq_of_testBit_eq
    intro i
    have h2 := congrArg (fun x => x.testBit i) hx
    simp only [Nat.testBit_and, Nat.testBit_xor, Nat.zero_testBit] at h2 ⊢
    revert h2
    cases a.testBit i <;> cases b.testBit i <;> cases (maskN n).testBit i <;> simp
  rw [this]; exact hA
/-- Is a node on a way? -/
def onP (id n : Nat) : Bool := (pathI (id : Int)).contains (n : Int)
theorem way_all : ((List.range 16).all fun id => (!onP id 0) && onP id (16 + id) && (List.range 32).all fun c => (!(onP id c && decide (2 ≤ c)) || onP id (c / 2)) && (!(onP id c && decide (1 ≤ c) && decide (c ≤ 15)) || onP id (2 * c) || onP id (2 * c + 1)) && (!(onP id c && decide (16 ≤ c)) || c == 16 + id)) = true := by decide +kernel
theorem way_at {id : Nat} (hid : id < 16) : onP id 0 = false ∧ onP id (16 + id) = true ∧ ∀ c, c < 32 → (onP id c = true → 2 ≤ c → onP id (c / 2) = true) ∧ (onP id c = true → 1 ≤ c → c ≤ 15 → onP id (2 * c) = true ∨ onP id (2 * c + 1) = true) ∧ (onP id c = true → 16 ≤ c → c = 16 + id) := by
  have h := List.all_eq_true.1 way_all id (List.mem_range.2 hid)
  simp only [Bool.and_eq_true, Bool.not_eq_true'] at h
  refine ⟨h.1.1, h.1.2, fun c hc => ?_⟩
  have h2 := List.all_eq_true.1 h.2 c (List.mem_range.2 hc)
  simp only [Bool.and_eq_true, Bool.or_eq_true, Bool.not_eq_true', Bool.and_eq_false_iff, decide_eq_false_iff_not, beq_iff_eq] at h2
  obtain ⟨⟨q1, q2⟩, q3⟩ := h2
  refine ⟨fun e e2 => ?_, fun e e1 e2 => ?_, fun e e1 => ?_⟩
  · rcases q1 with (q | q) | q
    · rw [q] at e; cases e
    · exact absurd e2 q
    · exact q
  · rcases q2 with (((q | q) | q) | q) | q
    · rw [q] at e; cases e
    · exact absurd e1 q
    · exact absurd e2 q
    · exact .inl q
    · exact .inr q
  · rcases q3 with (q | q) | q
    · rw [q] at e; cases e
    · exact absurd e1 q
    · exact q
theorem any_path {s id n : Nat} (hs : s < 65536) (hid : id < 16) (hb : bit s id = true) (h1 : 1 ≤ n) (hn : n < 32) (ho : onP id n = true) : Any s n := by
  rw [any_iff h1 (by omega), below_ne hs hn]
  exact ⟨id, hid, hb, by rw [mask_bit n id hn hid]; exact ho⟩
theorem fresh_path {a b id n : Nat} (ha : a < 65536) (hb : b < 65536) (hid : id < 16) (h2 : bit b id = true) (hx : bit a id = false) (h1 : 1 ≤ n) (hn : n ≤ 15) (ho : onP id n = true) : (n : Int) ∈ freshI (a : Int) (b : Int) := by
  have hm : bit (maskN n) id = true := by rw [mask_bit n id (by omega) hid]; exact ho
  refine mem_fresh.2 ⟨n, rfl, h1, hn, ?_, ?_⟩
  · exact (below_ne (Nat.xor_lt_two_pow (n := 16) ha hb) (by omega)).2 ⟨id, hid, by rw [bit_xor, hx, h2]; rfl, hm⟩
  · exact (below_ne hb (by omega)).2 ⟨id, hid, h2, hm⟩

/-! ### The new keys -/
theorem base_key (is : Int) (ks : List ByteArray) (n : Nat) (hn : n < 32) : ∀ j, j ≤ 31 → key (baseUp is ks j) n = if 1 ≤ n ∧ n ≤ j ∧ belowI is (n : Int) ≠ 0 then key ks n else ByteArray.empty := by
  intro j
  induction j with
  | zero => intro _; rw [if_neg (by omega)]; exact key_none n
  | succ j ih =>
    intro hj
    have ih := ih (by omega)
    rw [baseUp_succ]
    unfold baseOne
    by_cases hb : belowI is ((1 + j : Nat) : Int) = 0
    · rw [if_pos hb, ih]
      by_cases e : n = 1 + j
      · rw [if_neg (by omega), if_neg (by rw [e]; exact fun h => h.2.2 hb)]
      · by_cases hc : 1 ≤ n ∧ n ≤ j ∧ belowI is (n : Int) ≠ 0
        · rw [if_pos hc, if_pos ⟨hc.1, by omega, hc.2.2⟩]
        · rw [if_neg hc, if_neg (fun h => hc ⟨h.1, by omega, h.2.2⟩)]
    · rw [if_neg hb, key_set _ (baseUp_len _ _ _) _ (by omega)]
      by_cases e : n = 1 + j
      · rw [if_pos e, if_pos ⟨by omega, by omega, by rw [e]; exact hb⟩, e]
      · rw [if_neg e, ih]
        by_cases hc : 1 ≤ n ∧ n ≤ j ∧ belowI is (n : Int) ≠ 0
        · rw [if_pos hc, if_pos ⟨hc.1, by omega, hc.2.2⟩]
        · rw [if_neg hc, if_neg (fun h => hc ⟨h.1, by omega, h.2.2⟩)]
theorem freshUp_key (F : List Int) (hF : ∀ n ∈ F, 1 ≤ n ∧ n ≤ 15) (hnd : F.Nodup) (first : Int) (o : List ByteArray) (ho : o.length = 32) (n : Nat) (hn : n < 32) : ∀ j, j ≤ F.length → key (freshUp F first o j) n = if (n : Int) ∈ F.take j then nonceN (first + (F.idxOf (n : Int) : Int)) else key o n := by
  intro j
  induction j with
  | zero => intro _; rw [if_neg (by simp)]; rfl
  | succ j ih =>
    intro hj
    have hjl : j < F.length := by omega
    have hg : F.getD j 0 = F[j] := by simp [hjl]
    have hr := hF F[j] (List.getElem_mem hjl)
    rw [freshUp_succ, hg, key_set _ (freshUp_len _ _ _ ho _) _ (by omega), ih (by omega)]
    by_cases e : n = F[j].toNat
    · have e2 : (n : Int) = F[j] := by omega
      rw [if_pos e, if_pos (show (n : Int) ∈ F.take (j + 1) by rw [List.take_succ_eq_append_getElem hjl]; exact List.mem_append_right _ (List.mem_singleton.2 e2))]
      rw [e2, hnd.idxOf_getElem j hjl]
    · have e2 : ¬ (n : Int) = F[j] := by omega
      rw [if_neg e]
      have : (n : Int) ∈ F.take (j + 1) ↔ (n : Int) ∈ F.take j := by
        rw [List.take_succ_eq_append_getElem hjl, List.mem_append, List.mem_singleton]
        exact ⟨fun h => h.resolve_right e2, .inl⟩
      by_cases hm : (n : Int) ∈ F.take j
      · rw [if_pos hm, if_pos (this.2 hm)]
      · rw [if_neg hm, if_neg (fun h => hm (this.1 h))]
theorem fresh_nodup (a b : Int) : (freshI a b).Nodup := (fresh_falls a b).imp (fun h e => by omega)
theorem new_key (is : Int) (F : List Int) (hF : ∀ n ∈ F, 1 ≤ n ∧ n ≤ 15) (hnd : F.Nodup) (ks : List ByteArray) (first : Int) (n : Nat) (hn : n < 32) :
    key (newKeys is F ks first) n = if (n : Int) ∈ F then nonceN (first + (F.idxOf (n : Int) : Int)) else if 1 ≤ n ∧ belowI is (n : Int) ≠ 0 then key ks n else ByteArray.empty := by
  unfold newKeys
  rw [freshUp_key F hF hnd first _ (baseUp_len _ _ _) n hn F.length (Nat.le_refl _), List.take_length, base_key is ks n hn 31 (Nat.le_refl _)]
  split
  · rfl
  · by_cases hc : 1 ≤ n ∧ belowI is (n : Int) ≠ 0
    · rw [if_pos hc, if_pos ⟨hc.1, by omega, hc.2⟩]
    · rw [if_neg hc, if_neg (fun h => hc ⟨h.1, h.2.2⟩)]

/-- Keys that may be: each leaf's nonce, and a nonce at each node below which there is somebody. -/
structure Good (k : List ByteArray) (s : Nat) : Prop where
  len : k.length = 32
  leaf : ∀ n, 16 ≤ n → n < 32 → key k n = nonceN ((1000 + n : Nat) : Int)
  node : ∀ n, 1 ≤ n → n ≤ 15 → Any s n → ∃ a : Int, 0 ≤ a ∧ a < 65536 ∧ key k n = nonceN a
theorem leafUp_key (o : List ByteArray) (ho : o.length = 32) (n : Nat) (hn : n < 32) : ∀ j, j ≤ 16 → key (leafUp o j) n = if 16 ≤ n ∧ n < 16 + j then nonceN ((1000 + n : Nat) : Int) else key o n := by
  intro j
  induction j with
  | zero => intro _; rw [if_neg (by omega)]; rfl
  | succ j ih =>
    intro hj
    rw [leafUp_succ, key_set _ (leafUp_len _ ho _) _ (by omega), ih (by omega)]
    by_cases e : n = 16 + j
    · rw [if_pos e, if_pos (by omega), show 1000 + n = 1016 + j by omega]
    · rw [if_neg e]
      by_cases hc : 16 ≤ n ∧ n < 16 + j
      · rw [if_pos hc, if_pos (by omega)]
      · rw [if_neg hc, if_neg (by omega)]
theorem good_leaves : Good leavesL 0 :=
  ⟨leaves_len, fun n h1 h2 => by unfold leavesL; rw [leafUp_key _ noKeys_len n h2 16 (Nat.le_refl _), if_pos (by omega)], fun n _ _ h => absurd h (any_zero n)⟩
end Go.Proofs.YtecimagjeelgbaaDoor.Pr

/- Who is a member learns the keys on its way. -/
set_option linter.unusedVariables false
set_option linter.unusedSimpArgs false
namespace Go.Proofs.YtecimagjeelgbaaDoor.Pr
open Go.RowKit Go.Proofs.YtecimagjeelgbaaDoorW.PrintWords Go.Proofs.YtecimagjeelgbaaDoorW.PrintLast Go.Proofs.YtecimagjeelgbaaDoorW.PrintMore Go.Proofs.YtecimagjeelgbaaDoor.TT

theorem nonce_ne (a : Int) (h0 : 0 ≤ a) (h1 : a < 65536) : nonceN a ≠ ByteArray.empty := by
  intro e
  have := nonce_check a h0 h1
  rw [e] at this
  exact absurd this (by decide)
section
variable {k : List ByteArray} {was is : Nat} {first : Int}
/-- All that is needed has a key. -/
theorem new_nonce (hg : Good k was) (hw : was < 65536) (hi : is < 65536) (h0 : 0 ≤ first) (hf : first + 15 ≤ 65535) (n : Nat) (h1 : 1 ≤ n) (hn : n < 32) (hA : Any is n) :
    ∃ a : Int, 0 ≤ a ∧ a < 65536 ∧ key (newKeys (is : Int) (freshI (was : Int) (is : Int)) k first) n = nonceN a := by
  rw [new_key _ _ (fresh_range _ _) (fresh_nodup _ _) k first n hn]
  by_cases hm : (n : Int) ∈ freshI (was : Int) (is : Int)
  · rw [if_pos hm]
    have h2 := List.idxOf_lt_length_of_mem hm
    have h3 := fresh_len (was : Int) (is : Int)
    exact ⟨_, by omega, by omega, rfl⟩
  · rw [if_neg hm, if_pos ⟨h1, hA⟩]
    by_cases h16 : 16 ≤ n
    · exact ⟨_, by omega, by omega, hg.leaf n h16 hn⟩
    · exact hg.node n h1 (by omega) (any_old hw hi h1 (by omega) hA hm)
/-- One step's parts. -/
structure Step15 (x : List ByteArray) (is : Nat) (F : List Int) (p : Int × Int) (n c : Nat) (C X : Int) : Prop where
  eq : p = ((n : Int), (c : Int))
  n1 : 1 ≤ n
  n2 : n ≤ 15
  kid : c = 2 * n ∨ c = 2 * n + 1
  mem : (n : Int) ∈ F
  any : Any is c
  C0 : 0 ≤ C ∧ C < 65536
  X0 : 0 ≤ X ∧ X < 65536
  kc : key x c = nonceN C
  kn : key x n = nonceN X
  told : tellOne x p = ((tTm C (n : Int) X).str, 0)
theorem step_ok (hg : Good k was) (hw : was < 65536) (hi : is < 65536) (h0 : 0 ≤ first) (hf : first + 15 ≤ 65535) (p : Int × Int) (hp : p ∈ pairsL (is : Int) (freshI (was : Int) (is : Int))) :
    ∃ n c C X, Step15 (newKeys (is : Int) (freshI (was : Int) (is : Int)) k first) is (freshI (was : Int) (is : Int)) p n c C X := by
  obtain ⟨q1, q2, q3, q4, q5, q6, q7⟩ := pair_range (is : Int) _ (fresh_range (was : Int) (is : Int)) p hp
  obtain ⟨pn, pc⟩ := p
  dsimp only at *
  obtain ⟨n, rfl⟩ : ∃ n : Nat, pn = (n : Int) := ⟨pn.toNat, by omega⟩
  obtain ⟨c, rfl⟩ : ∃ c : Nat, pc = (c : Int) := ⟨pc.toNat, by omega⟩
  obtain ⟨C, C0, C1, kc⟩ := new_nonce hg hw hi h0 hf c (by omega) (by omega) q7
  have hAn : Any is n := by
    obtain ⟨m, e, _, _, _, h4⟩ := mem_fresh.1 q6
    obtain rfl : n = m := by omega
    exact (any_iff (by omega) (by omega)).2 h4
  obtain ⟨X, X0, X1, kn⟩ := new_nonce hg hw hi h0 hf n (by omega) (by omega) hAn
  refine ⟨n, c, C, X, rfl, by omega, by omega, by omega, q6, q7, ⟨C0, C1⟩, ⟨X0, X1⟩, kc, kn, ?_⟩
  unfold tellOne
  simp only [Int.toNat_natCast]
  rw [kc, kn]
  exact tell_str C n X ⟨C0, C1⟩ ⟨X0, X1⟩
/-- With keys that may be nothing is refused. -/
theorem rekey_good (hg : Good k was) (hw : was < 65536) (hi : is < 65536) (h0 : 0 ≤ first) (hf : first + 15 ≤ 65535) :
    rekeyF (was : Int) (is : Int) k first = (newKeys (is : Int) (freshI (was : Int) (is : Int)) k first, (pairsL (is : Int) (freshI (was : Int) (is : Int))).map (fun p => (tellOne (newKeys (is : Int) (freshI (was : Int) (is : Int)) k first) p).1), 0) := by
  unfold rekeyF
  have hfl := fresh_len (was : Int) (is : Int)
  rw [if_neg, if_neg (by omega), if_neg]
  · rw [List.any_eq_true]
    rintro ⟨p, hp, hb⟩
    obtain ⟨n, c, C, X, st⟩ := step_ok hg hw hi h0 hf p hp
    rw [st.told] at hb
    simp at hb
  · rw [List.any_eq_true]
    rintro ⟨p, hp, hb⟩
    obtain ⟨n, c, C, X, st⟩ := step_ok hg hw hi h0 hf p hp
    have hc := st.kc
    have hk := st.kid
    have h2 := st.n2
    have h1 := st.n1
    rw [st.eq] at hb
    unfold lackOne at hb
    simp only [Int.toNat_natCast, Bool.and_eq_true, Bool.not_eq_true', decide_eq_true_eq] at hb
    have hm : ¬ (c : Int) ∈ freshI (was : Int) (is : Int) := by
      intro h
      rw [← List.contains_iff_mem] at h
      rw [h] at hb
      exact absurd hb.1 (by decide)
    rw [new_key _ _ (fresh_range _ _) (fresh_nodup _ _) k first c (by omega), if_neg hm, if_pos ⟨by omega, st.any⟩] at hc
    rw [hc] at hb
    exact hb.2 (nonce_check C st.C0.1 st.C0.2)
theorem good_next (hg : Good k was) (hw : was < 65536) (hi : is < 65536) (h0 : 0 ≤ first) (hf : first + 15 ≤ 65535) : Good (leafUp (newKeys (is : Int) (freshI (was : Int) (is : Int)) k first) 16) is :=
  ⟨leafUp_len _ (newKeys_len _ _ _ _) 16, fun n h1 h2 => by rw [leafUp_key _ (newKeys_len _ _ _ _) n h2 16 (Nat.le_refl _), if_pos (by omega)],
    fun n h1 h2 hA => by rw [leafUp_key _ (newKeys_len _ _ _ _) n (by omega) 16 (Nat.le_refl _), if_neg (by omega)]; exact new_nonce hg hw hi h0 hf n h1 (by omega) hA⟩

/-! ### Learning -/
def Off (id : Nat) (K : List ByteArray) : Prop := ∀ j, j < 32 → onP id j = false → key K j = ByteArray.empty
theorem learn_block (x : List ByteArray) {id : Nat} (hid : id < 16) (F : List Int) (n : Nat) (hn : n < 32) : ∀ q : List (Int × Int), (∀ p ∈ q, ∃ c C X, Step15 x is F p n c C X) → ∀ (K : List ByteArray) (m : Nat), K.length = 32 → Off id K →
    ∃ K' m', (q.map (fun p => (tellOne x p).1)).foldl learnStep (K, m) = (K', m') ∧ K'.length = 32 ∧ (∀ j, j < 32 → j ≠ n → key K' j = key K j) ∧ (key K' n = key K n ∨ (onP id n = true ∧ key K' n = key x n)) ∧ ((∃ c : Nat, ((n : Int), (c : Int)) ∈ q ∧ key K c = key x c) → key K' n = key x n) := by
  intro q
  induction q with
  | nil => intro _ K m hl ho; exact ⟨K, m, rfl, hl, fun _ _ _ => rfl, .inl rfl, fun ⟨c, h, _⟩ => by cases h⟩
  | cons p q ih =>
    intro hq K m hl ho
    obtain ⟨c, C, X, st⟩ := hq p (List.mem_cons_self ..)
    have hq2 : ∀ p ∈ q, ∃ c C X, Step15 x is F p n c C X := fun p hp => hq p (List.mem_cons_of_mem _ hp)
    have n1 := st.n1
    have n2 := st.n2
    have hw := way_at hid
    rcases learn_told K m C X st.C0 st.X0 n n1 n2 with ⟨hop, hst⟩ | ⟨hop, hst⟩
    · have hon : onP id n = true := by
        rcases hop with h | h
        · have hc : onP id (2 * n) = true := by
            cases hh : onP id (2 * n) with
            | true => rfl
            | false => rw [ho _ (by omega) hh] at h; exact absurd h.symm (nonce_ne C st.C0.1 st.C0.2)
          have := (hw.2.2 (2 * n) (by omega)).1 hc (by omega)
          rwa [show 2 * n / 2 = n by omega] at this
        · have hc : onP id (2 * n + 1) = true := by
            cases hh : onP id (2 * n + 1) with
            | true => rfl
            | false => rw [ho _ (by omega) hh] at h; exact absurd h.symm (nonce_ne C st.C0.1 st.C0.2)
          have := (hw.2.2 (2 * n + 1) (by omega)).1 hc (by omega)
          rwa [show (2 * n + 1) / 2 = n by omega] at this
      have hks := fun j => key_set K hl n hn (nonceN X) j
      have ho2 : Off id (K.set n (nonceN X)) := by
        intro j hj hf
        rw [hks, if_neg (by intro e; rw [e, hon] at hf; cases hf)]
        exact ho j hj hf
      obtain ⟨K', m', e1, e2, e3, e4, e5⟩ := ih hq2 (K.set n (nonceN X)) (learnStep (K, m) (tTm C (n : Int) X).str).2 (by rw [List.length_set]; exact hl) ho2
      have hkn : key K' n = key x n := by
        rcases e4 with h | h
        · rw [h, hks, if_pos rfl, st.kn]
        · exact h.2
      refine ⟨K', m', ?_, e2, fun j hj hne => by rw [e3 j hj hne, hks, if_neg hne], .inr ⟨hon, hkn⟩, fun _ => hkn⟩
      rw [List.map_cons, List.foldl_cons, st.told]
      have : learnStep (K, m) (tTm C (n : Int) X).str = (K.set n (nonceN X), (learnStep (K, m) (tTm C (n : Int) X).str).2) := Prod.ext hst rfl
      rw [this]
      exact e1
    · obtain ⟨K', m', e1, e2, e3, e4, e5⟩ := ih hq2 K (learnStep (K, m) (tTm C (n : Int) X).str).2 hl ho
      refine ⟨K', m', ?_, e2, e3, e4, ?_⟩
      · rw [List.map_cons, List.foldl_cons, st.told]
        have : learnStep (K, m) (tTm C (n : Int) X).str = (K, (learnStep (K, m) (tTm C (n : Int) X).str).2) := Prod.ext hst rfl
        rw [this]
        exact e1
      · rintro ⟨c2, hm, hk⟩
        rcases List.mem_cons.1 hm with e | hm
        · exfalso
          have e2 := st.eq.symm.trans e.symm
          have e3 : c = c2 := by injection e2 with _ e2; omega
          subst e3
          apply hop
          rw [st.kc] at hk
          rcases st.kid with e | e
          · exact .inl (e ▸ hk)
          · exact .inr (e ▸ hk)
        · exact e5 ⟨c2, hm, hk⟩
theorem learn_members {x : List ByteArray} {id : Nat} (hid : id < 16) (hi : is < 65536) (hb : bit is id = true) (F : List Int) (hF : F.Pairwise (· > ·)) (hst : ∀ p ∈ pairsL (is : Int) F, ∃ n c C X, Step15 x is F p n c C X) (hr : ∀ n ∈ F, 1 ≤ n ∧ n ≤ 15) : ∀ (F2 F1 : List Int), F = F1 ++ F2 → ∀ (K : List ByteArray) (m : Nat), K.length = 32 → Off id K → (∀ j, j < 32 → onP id j = true → (¬ (j : Int) ∈ F ∨ (j : Int) ∈ F1) → key K j = key x j) →
    ∃ K' m', ((pairsL (is : Int) F2).map (fun p => (tellOne x p).1)).foldl learnStep (K, m) = (K', m') ∧ K'.length = 32 ∧ Off id K' ∧ (∀ j, j < 32 → onP id j = true → key K' j = key x j) := by
  intro F2
  induction F2 with
  | nil =>
    intro F1 he K m hl ho hk
    rw [List.append_nil] at he
    refine ⟨K, m, rfl, hl, ho, fun j hj hon => hk j hj hon ?_⟩
    rw [he]
    exact (Classical.em _).symm
  | cons nI F2 ih =>
    intro F1 he K m hl ho hk
    have hnr := hr nI (by rw [he]; simp)
    obtain ⟨n, rfl⟩ : ∃ n : Nat, nI = (n : Int) := ⟨nI.toNat, by omega⟩
    have hsub : ∀ p ∈ kidsL (is : Int) (n : Int), p ∈ pairsL (is : Int) F := by
      intro p hp
      unfold pairsL
      rw [List.mem_flatMap]
      exact ⟨(n : Int), by rw [he]; simp, hp⟩
    have hq : ∀ p ∈ kidsL (is : Int) (n : Int), ∃ c C X, Step15 x is F p n c C X := by
      intro p hp
      obtain ⟨n2, c, C, X, st⟩ := hst p (hsub p hp)
      have hp1 : p.1 = (n : Int) := by
        unfold kidsL kid at hp
        rw [List.mem_append] at hp
        rcases hp with hp | hp
        · split at hp
          · cases hp
          · rw [List.mem_singleton.1 hp]
        · split at hp
          · cases hp
          · rw [List.mem_singleton.1 hp]
      have e : n2 = n := by rw [st.eq] at hp1; exact Int.ofNat.inj hp1
      subst e
      exact ⟨c, C, X, st⟩
    obtain ⟨K1, m1, e1, e2, e3, e4, e5⟩ := learn_block x hid F n (by omega) (kidsL (is : Int) (n : Int)) hq K m hl ho
    have hw := way_at hid
    have ho1 : Off id K1 := by
      intro j hj hf
      by_cases hjn : j = n
      · subst hjn
        rcases e4 with h | h
        · rw [h]; exact ho j hj hf
        · rw [h.1] at hf; cases hf
      · rw [e3 j hj hjn]; exact ho j hj hf
    have hpw := hF
    rw [he, List.pairwise_append, List.pairwise_cons] at hpw
    have hk1 : ∀ j, j < 32 → onP id j = true → (¬ (j : Int) ∈ F ∨ (j : Int) ∈ F1 ++ [(n : Int)]) → key K1 j = key x j := by
      intro j hj hon hor
      by_cases hjn : j = n
      · subst hjn
        apply e5
        have hkid : ∃ c, c < 32 ∧ (c = 2 * j ∨ c = 2 * j + 1) ∧ onP id c = true := by
          rcases (hw.2.2 j hj).2.1 hon (by omega) (by omega) with h | h
          · exact ⟨2 * j, by omega, .inl rfl, h⟩
          · exact ⟨2 * j + 1, by omega, .inr rfl, h⟩
        obtain ⟨c, hc, hcc, hco⟩ := hkid
        have hA : belowI (is : Int) (c : Int) ≠ 0 := any_path hi hid hb (by omega) hc hco
        refine ⟨c, ?_, hk c hc hco ?_⟩
        · unfold kidsL kid
          rw [List.mem_append]
          rcases hcc with e | e
          · left
            rw [show 2 * (j : Int) = (c : Int) by omega, if_neg hA]
            exact List.mem_singleton.2 rfl
          · right
            rw [show 2 * (j : Int) + 1 = (c : Int) by omega, if_neg hA]
            exact List.mem_singleton.2 rfl
        · by_cases hm : (c : Int) ∈ F
          · right
            rw [he, List.mem_append, List.mem_cons] at hm
            rcases hm with h | h | h
            · exact h
            · omega
            · have := hpw.2.1.1 _ h
              omega
          · exact .inl hm
      · rw [e3 j hj hjn]
        refine hk j hj hon ?_
        rcases hor with h | h
        · exact .inl h
        · rw [List.mem_append, List.mem_singleton] at h
          exact .inr (h.resolve_right (fun e => hjn (by omega)))
    obtain ⟨K', m', g1, g2, g3, g4⟩ := ih (F1 ++ [(n : Int)]) (by rw [he]; simp) K1 m1 e2 ho1 hk1
    refine ⟨K', m', ?_, g2, g3, g4⟩
    have hfc : pairsL (is : Int) ((n : Int) :: F2) = kidsL (is : Int) (n : Int) ++ pairsL (is : Int) F2 := rfl
    rw [hfc, List.map_append, List.foldl_append, e1]
    exact g1
/-- WHO IS A MEMBER HAS ALL KEYS ON ITS WAY BEHIND WHAT IS TOLD. -/
theorem members_learn (hg : Good k was) (hw : was < 65536) (hi : is < 65536) (h0 : 0 ≤ first) (hf : first + 15 ≤ 65535) {id : Nat} (hid : id < 16) (hb : bit is id = true) (mine : List ByteArray)
    (hm : mine = ownF k (pathI (id : Int)) ∧ bit was id = true ∨ mine = ownF leavesL (pathI (id : Int)) ∧ bit was id = false) :
    (learnF mine (rekeyF (was : Int) (is : Int) k first).2.1).1 = ownF (rekeyF (was : Int) (is : Int) k first).1 (pathI (id : Int)) ∧
      ∀ n : Nat, n < 32 → onP id n = true → key (rekeyF (was : Int) (is : Int) k first).1 n ≠ ByteArray.empty := by
  rw [rekey_good hg hw hi h0 hf]
  have hP : ∀ n ∈ pathI (id : Int), 0 ≤ n ∧ n ≤ 31 := fun n hn => by have := path_small hn; omega
  have hst := step_ok (first := first) hg hw hi h0 hf
  have hnn := fun n h1 hn hA => new_nonce (first := first) hg hw hi h0 hf n h1 hn hA
  have hnk := fun n hn => new_key (is : Int) (freshI (was : Int) (is : Int)) (fresh_range _ _) (fresh_nodup _ _) k first n hn
  dsimp only
  generalize newKeys (is : Int) (freshI (was : Int) (is : Int)) k first = x at hst hnn hnk ⊢
  have hwy := way_at hid
  have hml : mine.length = 32 := by rcases hm with h | h <;> rw [h.1] <;> exact ownF_len _ _
  have hoff : Off id mine := by
    intro j hj ho
    have ho' : ¬ (pathI (id : Int)).contains (j : Int) = true := by intro h; unfold onP at ho; rw [h] at ho; cases ho
    rcases hm with h | h <;> rw [h.1, ownF_key _ _ hP j hj, if_neg ho']
  have hon : ∀ j, j < 32 → onP id j = true → (¬ (j : Int) ∈ freshI (was : Int) (is : Int) ∨ (j : Int) ∈ ([] : List Int)) → key mine j = key x j := by
    intro j hj ho hor
    have hnf : ¬ (j : Int) ∈ freshI (was : Int) (is : Int) := by rcases hor with h | h; exact h; cases h
    have j1 : 1 ≤ j := by
      by_cases e : j = 0
      · subst e; rw [hwy.1] at ho; cases ho
      · omega
    have hA := any_path hi hid hb j1 hj ho
    rw [hnk j hj, if_neg hnf, if_pos ⟨j1, hA⟩]
    rcases hm with h | h
    · rw [h.1, ownF_key _ _ hP j hj, if_pos (show (pathI (id : Int)).contains (j : Int) = true from ho)]
    · rw [h.1, ownF_key _ _ hP j hj, if_pos (show (pathI (id : Int)).contains (j : Int) = true from ho)]
      by_cases h16 : 16 ≤ j
      · rw [good_leaves.leaf j h16 hj, hg.leaf j h16 hj]
      · exact absurd (fresh_path hw hi hid hb h.2 j1 (by omega) ho) hnf
  obtain ⟨K', m', e1, e2, e3, e4⟩ := learn_members hid hi hb (freshI (was : Int) (is : Int)) (fresh_falls _ _) hst (fresh_range _ _) (freshI (was : Int) (is : Int)) [] rfl mine 0 hml hoff hon
  refine ⟨?_, ?_⟩
  · unfold learnF
    rw [e1]
    refine key_ext e2 (ownF_len _ _) (fun j hj => ?_)
    rw [ownF_key _ _ hP j hj]
    cases ho : onP id j with
    | true => rw [if_pos (show (pathI (id : Int)).contains (j : Int) = true from ho)]; exact e4 j hj ho
    | false => rw [if_neg (by intro h; unfold onP at ho; rw [h] at ho; cases ho)]; exact e3 j hj ho
  · intro n hn ho
    have j1 : 1 ≤ n := by
      by_cases e : n = 0
      · subst e; rw [hwy.1] at ho; cases ho
      · omega
    obtain ⟨a, a0, a1, e⟩ := hnn n j1 hn (any_path hi hid hb j1 hn ho)
    rw [e]
    exact nonce_ne a a0 a1
end
end Go.Proofs.YtecimagjeelgbaaDoor.Pr
