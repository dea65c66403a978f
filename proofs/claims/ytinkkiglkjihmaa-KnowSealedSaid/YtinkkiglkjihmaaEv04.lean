/- Lists of texts in order; the laws' helpers of layer 4: what they come to. -/
import Derived.Test.YtinkkiglkjihmaaEv03k
import Derived.Test.YtinkkiglkjihmaaKnow
import Derived.Sort.Walk0
import Derived.Test.YtinkkiglkjihmaaPrxB
import Derived.Test.YtinkkiglkjihmaaPrxC
import Derived.Test.YtinkkiglkjihmaaPrxA
set_option linter.unusedVariables false
set_option linter.unusedSimpArgs false
namespace Go.Proofs.Ytinkkiglkjihmaa.Ev04
open Go.RowKit Go.Proofs.Ytinkkiglkjihmaa.Pr Go.Proofs.YtinkkiglkjihmaaW.PrintWords Go.Proofs.YtinkkiglkjihmaaW.PrintLast Go.Proofs.YtinkkiglkjihmaaW.PrintMore Go.Proofs.Ytinkkiglkjihmaa.TT Go.Proofs.Ytinkkiglkjihmaa.Ev03 Go.Proofs.Ytinkkiglkjihmaa.Kw

theorem toList_iff (a b : ByteArray) : a.toList = b.toList ↔ a = b := by
  rw [ByteArray.toList_eq, ByteArray.toList_eq]
  exact ⟨data_inj, fun h => by rw [h]⟩
theorem less_iff (a b : ByteArray) : Op.bytesLess a.toList b.toList = decide (a.data.toList < b.data.toList) := by rw [Go.Proofs.bytesLess_eq, ByteArray.toList_eq, ByteArray.toList_eq]
theorem rd_at (l : List ByteArray) (i : Nat) (h : i < l.length) : rdOf ByteArray.empty l (i : Int) = l[i] := by
  unfold rdOf
  simp [h]
theorem succ_wrap (i : Nat) (h : i < 9000000000000000000) : wrap64 ((i : Int) + 1) = ((i + 1 : Nat) : Int) := by unfold wrap64; omega
theorem drop_here (l : List ByteArray) (i : Nat) (h : i < l.length) : l.drop i = l[i] :: l.drop (i + 1) := List.drop_eq_getElem_cons h

theorem check_loop (l : List ByteArray) (hl : l.length ≤ 100000) : ∀ (d k i : Nat), l.length - i = d → i ≤ l.length → 4000 + d < k → chantryref04_Check.l0 k l (i : Int) = some (errOf (l.drop i)) := by
  intro d
  induction d with
  | zero =>
    intro k i hd hi hk
    obtain ⟨k, rfl⟩ : ∃ m, k = m + 1 := ⟨k - 1, by omega⟩
    simp only [chantryref04_Check.l0]
    rw [if_neg (by omega), List.drop_eq_nil_of_le (by omega)]; rfl
  | succ d ih =>
    intro k i hd hi hk
    obtain ⟨k, rfl⟩ : ∃ m, k = m + 1 := ⟨k - 1, by omega⟩
    have hlt : i < l.length := by omega
    have E := Lib.hid (succ_wrap i (by omega))
    have hr := Lib.hid (rd_at l i hlt)
    have hd2 := Lib.hid (drop_here l i hlt)
    simp only [chantryref04_Check.l0]
    rw [if_pos (by omega), if_pos (by omega), hr.out, check_spec k (by omega), Option.bind_some, E.out, hd2.out]
    unfold errOf
    by_cases h0 : check l[i] = 0
    · rw [if_pos h0, if_pos h0]
      exact ih k (i + 1) (by omega) (by omega) (by omega)
    · rw [if_neg h0, if_neg h0]
def checkL (l : List ByteArray) : Int := if l.length > 200 then 3 else errOf l
theorem ref_check (k : Nat) (hk : 5000 ≤ k) (l : List ByteArray) : chantryref04_Check.f k l = some (checkL l) := by
  unfold chantryref04_Check.f checkL
  by_cases h : l.length > 200
  · rw [if_pos (by omega), if_pos h]
  · rw [if_neg (by omega), if_neg h]
    exact check_loop l (by omega) l.length k 0 (by omega) (by omega) (by omega)
theorem check_err (s : ByteArray) : 0 ≤ check s := by rcases check_vals s with h | h | h <;> omega

/-- A text at its place among others. -/
def putL : List ByteArray → ByteArray → Bool → List ByteArray
  | [], t, dn => if dn = true then [] else [t]
  | x :: r, t, dn => if x = t then x :: putL r t true else if dn = true then x :: putL r t dn else if t.data.toList < x.data.toList then t :: x :: putL r t true else x :: putL r t dn
theorem mem_putL (x t : ByteArray) : ∀ (l : List ByteArray) (dn : Bool), x ∈ putL l t dn ↔ x ∈ l ∨ (dn = false ∧ x = t) := by
  intro l
  induction l with
  | nil => intro dn; unfold putL; cases dn <;> simp
  | cons y r ih =>
    intro dn
    unfold putL
    split
    · rename_i h; subst h
      rw [List.mem_cons, ih, List.mem_cons]
      constructor
      · rintro (h | h | h)
        · exact .inl (.inl h)
        · exact .inl (.inr h)
        · exact absurd h.1 (by simp)
      · rintro ((h | h) | h)
        · exact .inl h
        · exact .inr (.inl h)
        · exact .inl h.2
    · split
      · rename_i hd
        rw [List.mem_cons, ih, List.mem_cons, or_assoc]
      · rename_i hd
        have hd' : dn = false := by simpa using hd
        split
        · rw [List.mem_cons, List.mem_cons, ih, List.mem_cons]
          subst hd'
          constructor
          · rintro (h | h | h | h)
            · exact .inr ⟨rfl, h⟩
            · exact .inl (.inl h)
            · exact .inl (.inr h)
            · exact absurd h.1 (by simp)
          · rintro ((h | h) | h)
            · exact .inr (.inl h)
            · exact .inr (.inr (.inl h))
            · exact .inl h.2
        · rw [List.mem_cons, ih, List.mem_cons, or_assoc]
/-- In order, each once. -/
def Rises (l : List ByteArray) : Prop := l.Pairwise (fun a b => a.data.toList < b.data.toList)
theorem lt_tri {a b : ByteArray} (h1 : ¬ a = b) (h2 : ¬ b.data.toList < a.data.toList) : a.data.toList < b.data.toList := by
  rcases List.le_iff_lt_or_eq.1 (List.not_lt.1 h2) with h | h
  · exact h
  · exact absurd (data_inj h) h1
theorem putL_same (t : ByteArray) : ∀ r, (∀ x ∈ r, t.data.toList ≤ x.data.toList) → Rises r → putL r t true = r := by
  intro r
  induction r with
  | nil => intro _ _; rfl
  | cons y r ih =>
    intro h1 h2
    unfold putL
    rw [ih (fun x hx => h1 x (List.mem_cons_of_mem _ hx)) (List.pairwise_cons.1 h2).2]
    simp
theorem putL_rises (t : ByteArray) : ∀ (l : List ByteArray), Rises l → Rises (putL l t false) := by
  intro l
  induction l with
  | nil => intro _; simp [putL, Rises]
  | cons y r ih =>
    intro h
    have h1 := (List.pairwise_cons.1 h).1
    have h2 := (List.pairwise_cons.1 h).2
    unfold putL
    split
    · rename_i e; subst e
      rw [putL_same y r (fun x hx => List.le_of_lt (h1 x hx)) h2]
      exact h
    · rename_i hne
      rw [if_neg (by simp)]
      split
      · rename_i hlt
        have hr : ∀ x ∈ r, t.data.toList < x.data.toList := fun x hx => List.lt_trans hlt (h1 x hx)
        rw [putL_same t r (fun x hx => List.le_of_lt (hr x hx)) h2]
        exact List.pairwise_cons.2 ⟨fun x hx => (List.mem_cons.1 hx).elim (fun e => by rw [e]; exact hlt) (hr x), h⟩
      · rename_i hnl
        refine List.pairwise_cons.2 ⟨fun x hx => ?_, ih h2⟩
        rcases (mem_putL x t r false).1 hx with hx | ⟨_, rfl⟩
        · exact h1 x hx
        · exact lt_tri hne hnl
theorem rises_ext {l m : List ByteArray} (hl : Rises l) (hm : Rises m) (h : ∀ x, x ∈ l ↔ x ∈ m) : l = m := by
  have nd : ∀ {n : List ByteArray}, Rises n → n.Nodup := fun hn => List.Pairwise.imp (fun {a b} hab e => by rw [e] at hab; exact List.lt_irrefl _ hab) hn
  have hp : l.Perm m := (List.perm_ext_iff_of_nodup (nd hl) (nd hm)).2 h
  exact List.Perm.eq_of_pairwise (le := fun (a b : ByteArray) => a.data.toList < b.data.toList) (fun a b _ _ (h1 : a.data.toList < b.data.toList) (h2 : b.data.toList < a.data.toList) => absurd (List.lt_trans h1 h2) (List.lt_irrefl a.data.toList)) (show l.Pairwise _ from hl) (show m.Pairwise _ from hm) hp
theorem rises_nodup {n : List ByteArray} (hn : Rises n) : n.Nodup := List.Pairwise.imp (fun {a b} hab e => by rw [e] at hab; exact List.lt_irrefl _ hab) hn
theorem putL_len (t : ByteArray) : ∀ (l : List ByteArray) (dn : Bool), l.length ≤ (putL l t dn).length ∧ (putL l t dn).length ≤ l.length + 1 ∧ (dn = true → (putL l t dn).length = l.length) := by
  intro l
  induction l with
  | nil => intro dn; unfold putL; cases dn <;> simp
  | cons y r ih =>
    intro dn
    unfold putL
    obtain ⟨a1, a2, a3⟩ := ih true
    have a3 := a3 rfl
    split
    · simp only [List.length_cons]; omega
    · split
      · obtain ⟨b1, b2, b3⟩ := ih dn
        simp only [List.length_cons]
        exact ⟨by omega, by omega, fun h => by have := b3 h; omega⟩
      · rename_i hd
        split
        · simp only [List.length_cons]
          exact ⟨by omega, by omega, fun h => absurd h hd⟩
        · obtain ⟨b1, b2, b3⟩ := ih dn
          simp only [List.length_cons]
          exact ⟨by omega, by omega, fun h => absurd h hd⟩
def putsL (l : List ByteArray) (a : List ByteArray) : List ByteArray := l.foldl (fun a s => putL a s false) a
theorem puts_mem (x : ByteArray) : ∀ (l a : List ByteArray), x ∈ putsL l a ↔ x ∈ a ∨ x ∈ l := by
  intro l
  induction l with
  | nil => intro a; simp [putsL]
  | cons s l ih =>
    intro a
    show x ∈ putsL l (putL a s false) ↔ _
    rw [ih, mem_putL, List.mem_cons]
    simp [or_assoc]
theorem puts_rises : ∀ (l a : List ByteArray), Rises a → Rises (putsL l a) := by
  intro l
  induction l with
  | nil => intro a h; exact h
  | cons s l ih => intro a h; exact ih _ (putL_rises s a h)
theorem puts_len : ∀ (l a : List ByteArray), (putsL l a).length ≤ a.length + l.length := by
  intro l
  induction l with
  | nil => intro a; simp [putsL]
  | cons s l ih =>
    intro a
    have h1 := ih (putL a s false)
    have h2 := (putL_len s a false).2.1
    show (putsL l (putL a s false)).length ≤ _
    rw [List.length_cons]; omega
def allL (l a : List ByteArray) : List ByteArray := l.foldl (fun a t => putsL (subsOf t).1 a) a
theorem all_mem (x : ByteArray) : ∀ (l a : List ByteArray), x ∈ allL l a ↔ x ∈ a ∨ ∃ t ∈ l, x ∈ (subsOf t).1 := by
  intro l
  induction l with
  | nil => intro a; simp [allL]
  | cons s l ih =>
    intro a
    show x ∈ allL l (putsL (subsOf s).1 a) ↔ _
    rw [ih, puts_mem]
    simp [or_assoc]
theorem all_rises : ∀ (l a : List ByteArray), Rises a → Rises (allL l a) := by
  intro l
  induction l with
  | nil => intro a h; exact h
  | cons s l ih => intro a h; exact ih _ (puts_rises _ a h)
theorem all_len : ∀ (l a : List ByteArray), (∀ t ∈ l, check t = 0) → (allL l a).length ≤ a.length + 2000 * l.length := by
  intro l
  induction l with
  | nil => intro a _; simp [allL]
  | cons s l ih =>
    intro a h
    have h1 := ih (putsL (subsOf s).1 a) (fun t ht => h t (List.mem_cons_of_mem _ ht))
    have h2 := puts_len (subsOf s).1 a
    have h3 := subs_count (h s List.mem_cons_self)
    show (allL l (putsL (subsOf s).1 a)).length ≤ _
    rw [List.length_cons]; omega
theorem checkL_ok {l : List ByteArray} : checkL l = 0 ↔ l.length ≤ 200 ∧ errOf l = 0 := by
  unfold checkL
  split
  · rename_i h
    exact ⟨fun e => absurd e (by decide), fun e => by omega⟩
  · rename_i h
    exact ⟨fun e => ⟨by omega, e⟩, fun e => e.2⟩
theorem knL_mem {l : List ByteArray} (hn : l.length ≤ 200) (he : errOf l = 0) (x : ByteArray) : x ∈ knL l ↔ (∃ t ∈ l, x ∈ (subsOf t).1) ∧ Dv l x := by
  rw [← knKeys_mem hn he]
  unfold knL
  rw [List.mem_map]
  constructor
  · rintro ⟨k, hk, rfl⟩
    rw [List.mem_mergeSort] at hk
    rw [strOf_data]; exact hk
  · intro h
    exact ⟨x.data.toList, by rw [List.mem_mergeSort]; exact h, strOf_of x⟩
theorem knL_rises (l : List ByteArray) : Rises (knL l) := by
  have tr : ∀ a b c : List UInt8, leB a b = true → leB b c = true → leB a c = true := fun a b c h1 h2 => by simp only [leB, decide_eq_true_eq] at *; exact List.le_trans h1 h2
  have tot : ∀ a b : List UInt8, (leB a b || leB b a) = true := fun a b => by simp only [leB, Bool.or_eq_true, decide_eq_true_eq]; exact List.le_total a b
  have h1 := List.pairwise_mergeSort tr tot (knKeys l)
  have h2 : ((knKeys l).mergeSort leB).Nodup := (List.mergeSort_perm (knKeys l) leB).nodup_iff.2 (knKeys_nodup l)
  unfold Rises knL
  rw [List.pairwise_map]
  refine (h1.and h2).imp ?_
  intro a b ⟨h3, h4⟩
  rw [strOf_data, strOf_data]
  simp only [leB, decide_eq_true_eq] at h3
  rcases List.le_iff_lt_or_eq.1 h3 with h | h
  · exact h
  · exact absurd h h4
theorem right_spec (k : Nat) (hk : 5000 ≤ k) (l : List ByteArray) : chantrylaw04_right.f k l = some (decide (checkL l = 0)) := by
  unfold chantrylaw04_right.f
  rw [ref_check k hk, Option.bind_some]
  by_cases h : checkL l = 0 <;> simp [h]
theorem few_loop (l : List ByteArray) (hl : l.length ≤ maxLen) : ∀ (d k i : Nat) (s : Int), l.length - i = d → i ≤ l.length → d < k → ∃ b, chantrylaw04_Few.l0 k l s l (l.length : Int) (i : Int) = some b ∧ (b = true → l.length ≤ 20) := by
  have hm : maxLen = 9223372036854775807 := rfl
  intro d
  induction d with
  | zero =>
    intro k i s hd hi hk
    obtain ⟨k, rfl⟩ : ∃ m, k = m + 1 := ⟨k - 1, by omega⟩
    simp only [chantrylaw04_Few.l0]
    rw [if_neg (by omega)]
    by_cases h : (l.length : Int) ≤ 20
    · rw [if_pos h]; exact ⟨_, rfl, fun _ => by omega⟩
    · rw [if_neg h]; exact ⟨_, rfl, fun e => by cases e⟩
  | succ d ih =>
    intro k i s hd hi hk
    obtain ⟨k, rfl⟩ : ∃ m, k = m + 1 := ⟨k - 1, by omega⟩
    have E : wrap64 ((i : Int) + 1) = ((i + 1 : Nat) : Int) := by unfold wrap64; omega
    simp only [chantrylaw04_Few.l0]
    rw [if_pos (by omega), if_pos (by omega), if_pos (by omega), E]
    exact ih k (i + 1) _ (by omega) (by omega) (by omega)
theorem few_spec (l : List ByteArray) (hl : l.length ≤ maxLen) : ∃ K b, (∀ k, K ≤ k → chantrylaw04_Few.f k l = some b) ∧ (b = true → l.length ≤ 20) := by
  obtain ⟨b, h1, h2⟩ := few_loop l hl l.length (l.length + 1) 0 0 (by omega) (by omega) (by omega)
  refine ⟨l.length + 1, b, fun k hk => ?_, h2⟩
  have hmono : ∀ n, chantrylaw04_Few.f (l.length + 1 + n) l = some b := by
    intro n
    induction n with
    | zero => exact h1
    | succ n ih => exact chantrylaw04_Few.mono l _ b ih
  have := hmono (k - (l.length + 1))
  rw [show l.length + 1 + (k - (l.length + 1)) = k by omega] at this
  exact this
theorem has_l1 (t : ByteArray) (l q : List ByteArray) (j : Nat) (hj : j < l.length) (hl : l.length ≤ 100000) (hq : q.length ≤ 100000) : ∀ (d i k : Nat), q.length - i = d → i ≤ q.length →
    chantrylaw04_Has.l1 (k + d + 1) t l (l.length : Int) (j : Int) q (q.length : Int) (i : Int) = chantrylaw04_Has.l0 k t l (l.length : Int) ((j + 1 : Nat) : Int) ∧ t ∉ q.drop i ∨ chantrylaw04_Has.l1 (k + d + 1) t l (l.length : Int) (j : Int) q (q.length : Int) (i : Int) = some true ∧ t ∈ q.drop i := by
  intro d
  induction d with
  | zero =>
    intro i k hd hi
    left
    simp only [chantrylaw04_Has.l1]
    rw [if_neg (by omega), List.drop_eq_nil_of_le (by omega), succ_wrap j (by omega)]
    exact ⟨rfl, by simp⟩
  | succ d ih =>
    intro i k hd hi
    have hlt : i < q.length := by omega
    have E := Lib.hid (succ_wrap i (by omega))
    have hr := Lib.hid (rd_at q i hlt)
    have hd2 := Lib.hid (drop_here q i hlt)
    have e : chantrylaw04_Has.l1 (k + (d + 1) + 1) t l (l.length : Int) (j : Int) q (q.length : Int) (i : Int) = if q[i].toList = t.toList then some true else chantrylaw04_Has.l1 (k + d + 1) t l (l.length : Int) (j : Int) q (q.length : Int) ((i + 1 : Nat) : Int) := by
      rw [show k + (d + 1) + 1 = (k + d + 1) + 1 by omega]
      conv => lhs; unfold chantrylaw04_Has.l1
      rw [if_pos (by omega), if_pos (by omega), if_pos (by omega), hr.out, E.out]
    rw [e, hd2.out]
    by_cases h0 : q[i] = t
    · rw [if_pos ((toList_iff _ _).2 h0)]
      exact .inr ⟨rfl, by rw [h0]; simp⟩
    · rw [if_neg (fun e => h0 ((toList_iff _ _).1 e))]
      rcases ih (i + 1) k (by omega) (by omega) with ⟨a1, a2⟩ | ⟨a1, a2⟩
      · exact .inl ⟨a1, fun h => (List.mem_cons.1 h).elim (fun e => h0 e.symm) a2⟩
      · exact .inr ⟨a1, List.mem_cons_of_mem _ a2⟩
theorem has_l0 (t : ByteArray) (l : List ByteArray) (hl : l.length ≤ 1000) (hv : ∀ s ∈ l, check s = 0) : ∀ (d i k : Nat), l.length - i = d → i ≤ l.length → 10000 + 2010 * d < k →
    chantrylaw04_Has.l0 k t l (l.length : Int) (i : Int) = some (decide (∃ s ∈ l.drop i, t ∈ (subsOf s).1)) := by
  intro d
  induction d with
  | zero =>
    intro i k hd hi hk
    obtain ⟨k, rfl⟩ : ∃ m, k = m + 1 := ⟨k - 1, by omega⟩
    simp only [chantrylaw04_Has.l0]
    rw [if_neg (by omega), List.drop_eq_nil_of_le (by omega)]
    simp
  | succ d ih =>
    intro i k hd hi hk
    have hlt : i < l.length := by omega
    have hr := Lib.hid (rd_at l i hlt)
    have hd2 := Lib.hid (drop_here l i hlt)
    have hc := subs_count (hv _ (List.getElem_mem hlt))
    obtain ⟨m, rfl⟩ : ∃ m, k = m + (subsOf l[i]).1.length + 1 + 1 := ⟨k - (subsOf l[i]).1.length - 2, by omega⟩
    have h1 := has_l1 t l (subsOf l[i]).1 i hlt (by omega) (by omega) (subsOf l[i]).1.length 0 m (by omega) (by omega)
    rw [List.drop_zero] at h1
    conv => lhs; unfold chantrylaw04_Has.l0
    rw [if_pos (by omega), if_pos (by omega), if_pos (by omega), hr.out, ref_subs_spec _ (by omega), Option.bind_some, hd2.out]
    rcases h1 with ⟨a1, a2⟩ | ⟨a1, a2⟩
    · refine Eq.trans a1 ?_
      rw [ih (i + 1) m (by omega) (by omega) (by omega)]
      congr 1
      rw [decide_eq_decide]
      constructor
      · rintro ⟨s, h1, h2⟩; exact ⟨s, List.mem_cons_of_mem _ h1, h2⟩
      · rintro ⟨s, h1, h2⟩
        rcases List.mem_cons.1 h1 with rfl | h1
        · exact absurd h2 a2
        · exact ⟨s, h1, h2⟩
    · refine Eq.trans a1 ?_
      congr 1
      exact (decide_eq_true ⟨_, List.mem_cons_self, a2⟩).symm
theorem has_spec (l : List ByteArray) (t : ByteArray) (hl : l.length ≤ 1000) (hv : ∀ s ∈ l, check s = 0) (k : Nat) (hk : 3000000 ≤ k) : chantrylaw04_Has.f k l t = some (decide (∃ s ∈ l, t ∈ (subsOf s).1)) := by
  unfold chantrylaw04_Has.f
  have := has_l0 t l hl hv l.length 0 k (by omega) (by omega) (by omega)
  rw [List.drop_zero] at this
  exact this
theorem alive_spec : chantrylaw04_alive.f = some true := by
  have e1 : term_NewNonce.f 1 = some ⟨#[110, 0, 1]⟩ := by decide +kernel
  have e2 : term_NewNonce.f 2 = some ⟨#[110, 0, 2]⟩ := by decide +kernel
  have d1 : know_Derives.f [((⟨#[115]⟩ : ByteArray) ++ ⟨#[110, 0, 1]⟩) ++ ⟨#[110, 0, 2]⟩, ⟨#[110, 0, 1]⟩] ⟨#[110, 0, 2]⟩ = some (true, 0) := by decide +kernel
  have d2 : know_Derives.f [((⟨#[115]⟩ : ByteArray) ++ ⟨#[110, 0, 1]⟩) ++ ⟨#[110, 0, 2]⟩] ⟨#[110, 0, 2]⟩ = some (false, 0) := by decide +kernel
  have d3 : know_Derives.f [((⟨#[112]⟩ : ByteArray) ++ ⟨#[110, 0, 1]⟩) ++ ⟨#[110, 0, 2]⟩] ((⟨#[104]⟩ : ByteArray) ++ ⟨#[110, 0, 2]⟩) = some (true, 0) := by decide +kernel
  have k1 : know_Known.f [((⟨#[115]⟩ : ByteArray) ++ ⟨#[110, 0, 1]⟩) ++ ⟨#[110, 0, 2]⟩, ⟨#[110, 0, 1]⟩] = some (knL [((⟨#[115]⟩ : ByteArray) ++ ⟨#[110, 0, 1]⟩) ++ ⟨#[110, 0, 2]⟩, ⟨#[110, 0, 1]⟩], 0) := by
    unfold know_Known.f knownOf
    rw [if_neg (by decide), if_pos (by decide +kernel)]
  have k2 : (knL [((⟨#[115]⟩ : ByteArray) ++ ⟨#[110, 0, 1]⟩) ++ ⟨#[110, 0, 2]⟩, ⟨#[110, 0, 1]⟩]).length = 3 := by rw [knL_len]; decide +kernel
  unfold chantrylaw04_alive.f
  rw [e1, Option.bind_some, e2, Option.bind_some, if_pos (by decide +kernel), if_pos (by decide +kernel), d1, Option.bind_some, d2, Option.bind_some, k1, Option.bind_some, if_pos (by decide +kernel), if_pos (by decide +kernel), d3, Option.bind_some, if_pos (by decide +kernel), if_pos rfl, if_pos rfl, if_neg (by decide), if_pos rfl, if_pos rfl, k2]
  rfl
theorem kind_eq (c : UInt8) (n : UInt8) (x : Int) (hx : x = ((n.toNat : Nat) : Int)) : ((c.toNat : Int) = x) ↔ c = n := by
  subst hx
  constructor
  · intro h; exact UInt8.toNat.inj (by omega)
  · rintro rfl; rfl

end Go.Proofs.Ytinkkiglkjihmaa.Ev04
