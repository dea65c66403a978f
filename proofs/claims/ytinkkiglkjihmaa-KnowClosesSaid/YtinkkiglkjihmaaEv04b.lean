/- The reference's fixpoint: it comes to an end, and what it comes to. -/
import Derived.Test.YtinkkiglkjihmaaEv04
import Derived.Test.YtinkkiglkjihmaaPrxD
set_option linter.unusedVariables false
set_option linter.unusedSimpArgs false
namespace Go.Proofs.Ytinkkiglkjihmaa.Ev04
open Go.RowKit Go.Proofs.Ytinkkiglkjihmaa.Pr Go.Proofs.YtinkkiglkjihmaaW.PrintWords Go.Proofs.YtinkkiglkjihmaaW.PrintLast Go.Proofs.YtinkkiglkjihmaaW.PrintMore Go.Proofs.Ytinkkiglkjihmaa.TT Go.Proofs.Ytinkkiglkjihmaa.Ev03 Go.Proofs.Ytinkkiglkjihmaa.Kw

theorem in_loop (l : List ByteArray) (a : ByteArray) (hl : l.length ≤ 1000000) : ∀ (d k i : Nat), l.length - i = d → i ≤ l.length → d < k → chantryref04_in.l0 k l a (i : Int) = some (decide (a ∈ l.drop i)) := by
  intro d
  induction d with
  | zero =>
    intro k i hd hi hk
    obtain ⟨k, rfl⟩ : ∃ m, k = m + 1 := ⟨k - 1, by omega⟩
    simp only [chantryref04_in.l0]
    rw [if_neg (by omega), List.drop_eq_nil_of_le (by omega)]; rfl
  | succ d ih =>
    intro k i hd hi hk
    obtain ⟨k, rfl⟩ : ∃ m, k = m + 1 := ⟨k - 1, by omega⟩
    have hlt : i < l.length := by omega
    have E := Lib.hid (succ_wrap i (by omega))
    have hr := Lib.hid (rd_at l i hlt)
    have hd2 := Lib.hid (drop_here l i hlt)
    simp only [chantryref04_in.l0]
    rw [if_pos (by omega), if_pos (by omega), hr.out, E.out, hd2.out]
    by_cases h0 : l[i] = a
    · rw [if_pos ((toList_iff _ _).2 h0)]
      rw [h0]; simp
    · rw [if_neg (fun e => h0 ((toList_iff _ _).1 e)), ih k (i + 1) (by omega) (by omega) (by omega)]
      congr 1
      rw [decide_eq_decide, List.mem_cons]
      exact ⟨.inr, fun h => h.elim (fun e => absurd e.symm h0) id⟩
theorem ref_in (k : Nat) (l : List ByteArray) (a : ByteArray) (hl : l.length ≤ 1000000) (hk : l.length < k) : chantryref04_in.f k l a = some (decide (a ∈ l)) := by
  unfold chantryref04_in.f
  exact in_loop l a hl l.length k 0 (by omega) (by omega) hk
theorem put_loop (l : List ByteArray) (a : ByteArray) (hl : l.length ≤ 1000000) : ∀ (d k i : Nat) (out : List ByteArray) (dn : Bool), l.length - i = d → i ≤ l.length → d < k → out.length ≤ 2 * i → chantryref04_put.l0 k l a out dn (i : Int) = some (out ++ putL (l.drop i) a dn) := by
  intro d
  induction d with
  | zero =>
    intro k i out dn hd hi hk ho
    obtain ⟨k, rfl⟩ : ∃ m, k = m + 1 := ⟨k - 1, by omega⟩
    simp only [chantryref04_put.l0]
    rw [if_neg (by omega), List.drop_eq_nil_of_le (by omega)]
    unfold putL
    cases dn with
    | true => simp
    | false => simp; omega
  | succ d ih =>
    intro k i out dn hd hi hk ho
    obtain ⟨k, rfl⟩ : ∃ m, k = m + 1 := ⟨k - 1, by omega⟩
    have hlt : i < l.length := by omega
    have E := Lib.hid (succ_wrap i (by omega))
    have hr := Lib.hid (rd_at l i hlt)
    have hd2 := Lib.hid (drop_here l i hlt)
    simp only [chantryref04_put.l0]
    rw [if_pos (by omega), if_pos (by omega), hr.out, E.out, hd2.out]
    unfold putL
    by_cases h0 : l[i] = a
    · rw [if_pos ((toList_iff _ _).2 h0), if_pos h0, if_pos (by omega), ih k (i + 1) _ true (by omega) (by omega) (by omega) (by simp; omega)]
      simp
    · rw [if_neg (fun e => h0 ((toList_iff _ _).1 e)), if_neg h0]
      cases dn with
      | true =>
        rw [if_pos rfl, if_pos rfl, if_pos (by omega), ih k (i + 1) _ true (by omega) (by omega) (by omega) (by simp; omega)]
        simp
      | false =>
        rw [if_neg (show ¬ (false : Bool) = true by simp), less_iff, if_neg (show ¬ (false : Bool) = true by simp)]
        by_cases h1 : a.data.toList < l[i].data.toList
        · rw [if_pos (decide_eq_true h1), if_pos h1, if_pos (by omega), Option.bind_some, if_pos (by simp; omega), ih k (i + 1) _ true (by omega) (by omega) (by omega) (by simp; omega)]
          simp
        · rw [if_neg (by simpa using h1), if_neg h1, if_pos (by omega), ih k (i + 1) _ false (by omega) (by omega) (by omega) (by simp; omega)]
          simp
theorem ref_put (k : Nat) (l : List ByteArray) (a : ByteArray) (hl : l.length ≤ 1000000) (hk : l.length < k) : chantryref04_put.f k l a = some (putL l a false) := by
  unfold chantryref04_put.f
  have := put_loop l a hl l.length k 0 [] false (by omega) (by omega) hk (by simp)
  rw [List.drop_zero, List.nil_append] at this
  exact this
theorem parts_valid {s : ByteArray} (h : check s = 0) : partsOf s = (((b0 s).toNat : Int), ps s, 0) := by
  obtain ⟨t, h1, rfl, h3, h4⟩ := (check_iff s).1 h
  rw [partsOf_str h1 h3 h4, b0_str]
  unfold ps
  rw [PFg_str h1 h3 h4]
theorem built_loop (h : List ByteArray) (hl : h.length ≤ 1000000) (kd : Int) (q : List ByteArray) (hq : q.length ≤ 100) : ∀ (d k i : Nat), q.length - i = d → i ≤ q.length → h.length + 10 + d < k →
    chantryref04_built.l0 k h kd q (i : Int) = some ((q.drop i).all (fun p => decide (p ∈ h)) && (decide (kd = 99) || decide (q.length > 0))) := by
  intro d
  induction d with
  | zero =>
    intro k i hd hi hk
    obtain ⟨k, rfl⟩ : ∃ m, k = m + 1 := ⟨k - 1, by omega⟩
    simp only [chantryref04_built.l0]
    rw [if_neg (by omega), List.drop_eq_nil_of_le (by omega)]
    by_cases h1 : kd = 99
    · rw [if_pos h1]; simp [h1]
    · rw [if_neg h1]
      congr 1
      simp only [List.all_nil, Bool.true_and, h1, decide_false, Bool.false_or, decide_eq_decide]
      omega
  | succ d ih =>
    intro k i hd hi hk
    obtain ⟨k, rfl⟩ : ∃ m, k = m + 1 := ⟨k - 1, by omega⟩
    have hlt : i < q.length := by omega
    have E := Lib.hid (succ_wrap i (by omega))
    have hr := Lib.hid (rd_at q i hlt)
    have hd2 := Lib.hid (drop_here q i hlt)
    simp only [chantryref04_built.l0]
    rw [if_pos (by omega), if_pos (by omega), hr.out, E.out, hd2.out, ref_in k h _ hl (by omega), Option.bind_some]
    by_cases h0 : q[i] ∈ h
    · rw [if_pos (decide_eq_true h0), ih k (i + 1) (by omega) (by omega) (by omega), List.all_cons, decide_eq_true h0, Bool.true_and]
    · rw [if_neg (by simpa using h0), List.all_cons, decide_eq_false h0, Bool.false_and, Bool.false_and]
def builtB (h : List ByteArray) (t : ByteArray) : Bool := (ps t).all (fun p => decide (p ∈ h)) && (decide (b0 t = 99) || decide ((ps t).length > 0))
theorem ps_len {t : ByteArray} (h : check t = 0) : (ps t).length ≤ 2 := parts_count h
theorem ref_built (k : Nat) (h : List ByteArray) (t : ByteArray) (ht : check t = 0) (hl : h.length ≤ 1000000) (hk : 5000 + h.length < k) : chantryref04_built.f k h t = some (builtB h t) := by
  unfold chantryref04_built.f
  rw [ref_parts_spec k (by omega), Option.bind_some, parts_valid ht]
  have := built_loop h hl ((b0 t).toNat : Int) (ps t) (by have := ps_len ht; omega) (ps t).length k 0 (by omega) (by omega) (by have := ps_len ht; omega)
  rw [List.drop_zero] at this
  refine Eq.trans this ?_
  unfold builtB
  congr 2
  have := kind_eq (b0 t) 99 99 rfl
  simp only [this]
def givenAt (h : List ByteArray) (t x : ByteArray) : Bool :=
  match ps x with
  | [p, q] => if b0 x = 112 then decide (p = t) || decide (q = t) else if b0 x = 115 then decide (q = t) && decide (p ∈ h) else false
  | _ => false
theorem given_pair {h : List ByteArray} {t x p q : ByteArray} (hpq : ps x = [p, q]) (k1 : b0 x = 112) : givenAt h t x = (decide (p = t) || decide (q = t)) := by
  unfold givenAt; rw [hpq]; simp only [k1, ↓reduceIte]
theorem given_opn {h : List ByteArray} {t x p q : ByteArray} (hpq : ps x = [p, q]) (k2 : b0 x = 115) : givenAt h t x = (decide (q = t) && decide (p ∈ h)) := by
  unfold givenAt; rw [hpq]; simp only [k2, ↓reduceIte]; rw [if_neg (by decide)]
theorem rd0 (p q : ByteArray) : rdOf ByteArray.empty [p, q] 0 = p := rfl
theorem rd1 (p q : ByteArray) : rdOf ByteArray.empty [p, q] 1 = q := rfl
theorem given_loop (h : List ByteArray) (t : ByteArray) (hv : ∀ x ∈ h, check x = 0) (hl : h.length ≤ 1000000) : ∀ (d k i : Nat), h.length - i = d → i ≤ h.length → 5000 + h.length + 2 * d < k →
    chantryref04_given.l0 k h t (i : Int) = some ((h.drop i).any (givenAt h t)) := by
  intro d
  induction d with
  | zero =>
    intro k i hd hi hk
    obtain ⟨k, rfl⟩ : ∃ m, k = m + 1 := ⟨k - 1, by omega⟩
    simp only [chantryref04_given.l0]
    rw [if_neg (by omega), List.drop_eq_nil_of_le (by omega)]; rfl
  | succ d ih =>
    intro k i hd hi hk
    obtain ⟨k, rfl⟩ : ∃ m, k = m + 2 := ⟨k - 2, by omega⟩
    have hlt : i < h.length := by omega
    have E := Lib.hid (succ_wrap i (by omega))
    have hr := Lib.hid (rd_at h i hlt)
    have hd2 := Lib.hid (drop_here h i hlt)
    have hx : check h[i] = 0 := hv _ (List.getElem_mem hlt)
    have IH := Lib.hid (ih k (i + 1) (by omega) (by omega) (by omega))
    clear ih
    rw [hd2.out, List.any_cons]
    have hpv := Lib.hid (parts_valid hx)
    generalize h[i] = x at hx hr hpv
    have e12 := kind_eq (b0 x) 112 112 rfl
    have e15 := kind_eq (b0 x) 115 115 rfl
    conv => lhs; unfold chantryref04_given.l0
    rw [if_pos (by omega), if_pos (by omega), hr.out, ref_parts_spec (k + 1) (by omega), Option.bind_some, hpv.out]
    dsimp only
    by_cases k1 : b0 x = 112
    · obtain ⟨p, q, hpq⟩ : ∃ p q, ps x = [p, q] := by
        have := parts_two hx (.inl k1)
        unfold ps
        match PFg x.data.toList, this with
        | [p, q], _ => exact ⟨p, q, rfl⟩
      rw [given_pair hpq k1, if_pos (e12.2 k1), hpq, if_pos (by simp), rd0]
      by_cases h1 : p = t
      · rw [if_pos ((toList_iff _ _).2 h1)]
        unfold chantryref04_given.j1
        rw [if_pos rfl]; simp [h1]
      · rw [if_neg (fun e => h1 ((toList_iff _ _).1 e)), if_pos (by simp), rd1]
        by_cases h2 : q = t
        · have : (q.toList == t.toList) = true := by rw [beq_iff_eq]; exact (toList_iff _ _).2 h2
          rw [this]
          unfold chantryref04_given.j1
          rw [if_pos rfl]; simp [h2]
        · have : (q.toList == t.toList) = false := by rw [beq_eq_false_iff_ne]; exact fun e => h2 ((toList_iff _ _).1 e)
          rw [this]
          unfold chantryref04_given.j1
          rw [if_neg (by simp), if_neg (fun e => by rw [k1] at e; exact absurd e (by decide)), E.out, IH.out]
          simp [h1, h2]
    · rw [if_neg (fun e => k1 (e12.1 e))]
      unfold chantryref04_given.j1
      rw [if_neg (by simp)]
      by_cases k2 : b0 x = 115
      · obtain ⟨p, q, hpq⟩ : ∃ p q, ps x = [p, q] := by
          have := parts_two hx (.inr k2)
          unfold ps
          match PFg x.data.toList, this with
          | [p, q], _ => exact ⟨p, q, rfl⟩
        rw [given_opn hpq k2, if_pos (e15.2 k2), hpq, if_pos (by simp), rd1]
        by_cases h1 : q = t
        · rw [if_pos ((toList_iff _ _).2 h1), if_pos (by simp), rd0, ref_in k h p hl (by omega), Option.bind_some]
          by_cases h2 : p ∈ h
          · rw [if_pos (decide_eq_true h2)]; simp [h1, h2]
          · rw [if_neg (by simpa using h2), E.out, IH.out]; simp [h1, h2]
        · rw [if_neg (fun e => h1 ((toList_iff _ _).1 e)), E.out, IH.out]; simp [h1]
      · rw [if_neg (fun e => k2 (e15.1 e)), E.out, IH.out]
        have : givenAt h t x = false := by
          unfold givenAt
          split
          · rw [if_neg k1, if_neg k2]
          · rfl
        rw [this]; simp
theorem ref_given (k : Nat) (h : List ByteArray) (t : ByteArray) (hv : ∀ x ∈ h, check x = 0) (hl : h.length ≤ 1000000) (hk : 5000 + 3 * h.length < k) : chantryref04_given.f k h t = some (h.any (givenAt h t)) := by
  unfold chantryref04_given.f
  have := given_loop h t hv hl h.length k 0 (by omega) (by omega) (by omega)
  rw [List.drop_zero] at this
  exact this

def stepOne (h : List ByteArray) (t : ByteArray) : List ByteArray := if t ∈ h then h else if builtB h t = true then putL h t false else if h.any (givenAt h t) = true then putL h t false else h
/-- What holds of those that are had. -/
structure HInv (l u h : List ByteArray) : Prop where
  rises : Rises h
  sub : ∀ x ∈ h, x ∈ u
  sound : ∀ x ∈ h, Dv l x
  mem : ∀ x ∈ l, x ∈ h
theorem HInv.len {l u h : List ByteArray} (i : HInv l u h) : h.length ≤ u.length := nodup_len _ _ (rises_nodup i.rises) i.sub
theorem HInv.put {l u h : List ByteArray} (i : HInv l u h) {t : ByteArray} (ht : t ∈ u) (hd : Dv l t) : HInv l u (putL h t false) :=
  ⟨(putL_rises t h i.rises), fun x hx => ((mem_putL x t h false).1 hx).elim (i.sub x) (fun e => by rw [e.2]; exact ht), fun x hx => ((mem_putL x t h false).1 hx).elim (i.sound x) (fun e => by rw [e.2]; exact hd), fun x hx => (mem_putL x t h false).2 (.inl (i.mem x hx))⟩
theorem built_sound {l h : List ByteArray} {t : ByteArray} (hc : check t = 0) (hs : ∀ x ∈ h, Dv l x) (hb : builtB h t = true) : Dv l t := by
  unfold builtB at hb
  rw [Bool.and_eq_true, List.all_eq_true, Bool.or_eq_true, decide_eq_true_iff, decide_eq_true_iff] at hb
  obtain ⟨h1, h2⟩ := hb
  by_cases q : ps t = []
  · rcases h2 with h2 | h2
    · exact .const hc h2
    · rw [q] at h2; simp at h2
  · exact .built hc q (fun p hp => hs p (of_decide_eq_true (h1 p hp)))
theorem given_sound {l h : List ByteArray} {t : ByteArray} (hs : ∀ x ∈ h, Dv l x) (hb : h.any (givenAt h t) = true) : Dv l t := by
  rw [List.any_eq_true] at hb
  obtain ⟨x, hx, hg⟩ := hb
  unfold givenAt at hg
  split at hg
  · rename_i p q hpq
    split at hg
    · rename_i k1
      rw [Bool.or_eq_true, decide_eq_true_iff, decide_eq_true_iff] at hg
      rcases hg with rfl | rfl
      · exact (hs x hx).pair k1 (by rw [hpq]; simp)
      · exact (hs x hx).pair k1 (by rw [hpq]; simp)
    · split at hg
      · rename_i k2
        rw [Bool.and_eq_true, decide_eq_true_iff, decide_eq_true_iff] at hg
        obtain ⟨rfl, h2⟩ := hg
        exact (hs x hx).opn k2 hpq (hs p h2)
      · cases hg
  · cases hg
theorem HInv.step {l u h : List ByteArray} (i : HInv l u h) {t : ByteArray} (ht : t ∈ u) (hc : check t = 0) : HInv l u (stepOne h t) := by
  unfold stepOne
  split
  · exact i
  · split
    · rename_i hb; exact i.put ht (built_sound hc i.sound hb)
    · split
      · rename_i hb; exact i.put ht (given_sound i.sound hb)
      · exact i
theorem HInv.steps {l u : List ByteArray} (hu : ∀ x ∈ u, check x = 0) : ∀ (m h : List ByteArray), (∀ x ∈ m, x ∈ u) → HInv l u h → HInv l u (m.foldl stepOne h) := by
  intro m
  induction m with
  | nil => intro h _ i; exact i
  | cons t m ih => intro h hm i; exact ih _ (fun x hx => hm x (List.mem_cons_of_mem _ hx)) (i.step (hm t List.mem_cons_self) (hu t (hm t List.mem_cons_self)))
theorem putL_more {l : List ByteArray} (h : Rises l) {t : ByteArray} (ht : t ∉ l) : l.length < (putL l t false).length := by
  have h1 := nodup_len (t :: l) (putL l t false) (List.nodup_cons.2 ⟨ht, rises_nodup h⟩) (fun x hx => by
    rcases List.mem_cons.1 hx with rfl | hx
    · exact (mem_putL _ _ l false).2 (.inr ⟨rfl, rfl⟩)
    · exact (mem_putL x t l false).2 (.inl hx))
  rw [List.length_cons] at h1; omega
theorem stepOne_len {h : List ByteArray} (hr : Rises h) (t : ByteArray) : h.length ≤ (stepOne h t).length ∧ ((stepOne h t).length = h.length → stepOne h t = h ∧ (t ∈ h ∨ (builtB h t = false ∧ h.any (givenAt h t) = false))) := by
  unfold stepOne
  by_cases h1 : t ∈ h
  · rw [if_pos h1]; exact ⟨Nat.le_refl _, fun _ => ⟨rfl, .inl h1⟩⟩
  · rw [if_neg h1]
    have hm := putL_more hr h1
    by_cases h2 : builtB h t = true
    · rw [if_pos h2]; exact ⟨by omega, fun e => by omega⟩
    · rw [if_neg h2]
      by_cases h3 : h.any (givenAt h t) = true
      · rw [if_pos h3]; exact ⟨by omega, fun e => by omega⟩
      · rw [if_neg h3]
        exact ⟨Nat.le_refl _, fun _ => ⟨rfl, .inr ⟨by simpa using h2, by simpa using h3⟩⟩⟩
theorem steps_len {l u : List ByteArray} (hu : ∀ x ∈ u, check x = 0) : ∀ (m h : List ByteArray), (∀ x ∈ m, x ∈ u) → HInv l u h → h.length ≤ (m.foldl stepOne h).length ∧
    ((m.foldl stepOne h).length = h.length → m.foldl stepOne h = h ∧ ∀ t ∈ m, t ∈ h ∨ (builtB h t = false ∧ h.any (givenAt h t) = false)) := by
  intro m
  induction m with
  | nil => intro h _ _; exact ⟨Nat.le_refl _, fun _ => ⟨rfl, fun t ht => by cases ht⟩⟩
  | cons t m ih =>
    intro h hm i
    obtain ⟨a1, a2⟩ := stepOne_len i.rises t
    obtain ⟨b1, b2⟩ := ih (stepOne h t) (fun x hx => hm x (List.mem_cons_of_mem _ hx)) (i.step (hm t List.mem_cons_self) (hu t (hm t List.mem_cons_self)))
    rw [List.foldl_cons]
    refine ⟨by omega, fun e => ?_⟩
    obtain ⟨c1, c2⟩ := a2 (by omega)
    obtain ⟨d1, d2⟩ := b2 (by omega)
    rw [c1] at d1 d2 ⊢
    exact ⟨d1, fun x hx => (List.mem_cons.1 hx).elim (fun e => by rw [e]; exact c2) (d2 x)⟩
theorem close_l2 {l u : List ByteArray} (hu : ∀ x ∈ u, check x = 0) (hul : u.length ≤ 1000000) (n : Nat) : ∀ (d i k : Nat) (h : List ByteArray), u.length - i = d → i ≤ u.length → 6000 + 3 * u.length < k → HInv l u h →
    chantryref04_close.l2 (k + d + 1) u h (n : Int) (i : Int) = if ((u.drop i).foldl stepOne h).length = n then some ((u.drop i).foldl stepOne h) else chantryref04_close.l1 k u ((u.drop i).foldl stepOne h) := by
  intro d
  induction d with
  | zero =>
    intro i k h hd hi hk hh
    simp only [chantryref04_close.l2]
    rw [if_neg (by omega), List.drop_eq_nil_of_le (by omega), List.foldl_nil]
    by_cases e : h.length = n
    · rw [if_pos (by omega), if_pos e]
    · rw [if_neg (by omega), if_neg e]
  | succ d ih =>
    intro i k h hd hi hk hh
    have hlt : i < u.length := by omega
    have E := Lib.hid (succ_wrap i (by omega))
    have hr := Lib.hid (rd_at u i hlt)
    have hd2 := Lib.hid (drop_here u i hlt)
    have hm : u[i] ∈ u := List.getElem_mem hlt
    have hlen := hh.len
    have hst := hh.step hm (hu _ hm)
    have IH := Lib.hid (ih (i + 1) k (stepOne h u[i]) (by omega) (by omega) hk hst)
    clear ih
    rw [show k + (d + 1) + 1 = (k + d + 1) + 1 by omega]
    conv => lhs; unfold chantryref04_close.l2
    rw [if_pos (by omega), if_pos (by omega), hr.out, hd2.out, List.foldl_cons, ref_in _ h _ (by omega) (by omega), Option.bind_some, E.out, ← IH.out]
    have hv : ∀ x ∈ h, check x = 0 := fun x hx => hu x (hh.sub x hx)
    unfold stepOne
    by_cases h1 : u[i] ∈ h
    · rw [if_pos (decide_eq_true h1), if_pos h1]
    · rw [if_neg (by simpa using h1), if_neg h1, ref_built _ h _ (hu _ hm) (by omega) (by omega), Option.bind_some]
      by_cases h2 : builtB h u[i] = true
      · rw [if_pos h2, if_pos h2, ref_put _ h _ (by omega) (by omega), Option.bind_some]
      · rw [if_neg h2, if_neg h2, ref_given _ h _ hv (by omega) (by omega), Option.bind_some]
        by_cases h3 : h.any (givenAt h u[i]) = true
        · rw [if_pos h3, if_pos h3, ref_put _ h _ (by omega) (by omega), Option.bind_some]
        · rw [if_neg h3, if_neg h3]
/-- A universe: with all parts, each of them a term's text. -/
structure Uni (u : List ByteArray) : Prop where
  parts : ∀ s ∈ u, ∀ p ∈ ps s, p ∈ u
  ck : ∀ s ∈ u, check s = 0
theorem shut_of {l u h : List ByteArray} (hu : Uni u) (i : HInv l u h) (hc : ∀ t ∈ u, t ∈ h ∨ (builtB h t = false ∧ h.any (givenAt h t) = false)) : Kw.Shut l u h := by
  have hb : ∀ t ∈ u, builtB h t = true → t ∈ h := fun t ht hq => (hc t ht).elim id (fun e => by rw [e.1] at hq; cases hq)
  have hg : ∀ t ∈ u, h.any (givenAt h t) = true → t ∈ h := fun t ht hq => (hc t ht).elim id (fun e => by rw [e.2] at hq; cases hq)
  refine ⟨hu.parts, hu.ck, i.sub, i.mem, fun s hs hk => hb s hs ?_, fun s hs hne hp => hb s hs ?_, fun s hs hk p hp => hg p (hu.parts s (i.sub s hs) p hp) ?_, fun s hs hk k p hp hk2 => hg p (hu.parts s (i.sub s hs) p (by rw [hp]; simp)) ?_⟩
  · unfold builtB
    rw [const_ps (hu.ck s hs) hk, hk]; rfl
  · unfold builtB
    rw [Bool.and_eq_true, List.all_eq_true]
    refine ⟨fun p hq => decide_eq_true (hp p hq), ?_⟩
    rw [Bool.or_eq_true, decide_eq_true_iff, decide_eq_true_iff]
    right
    exact List.length_pos_iff.2 hne
  · rw [List.any_eq_true]
    refine ⟨s, hs, ?_⟩
    have h2 := parts_two (hu.ck s (i.sub s hs)) (.inl hk)
    unfold givenAt
    match hps : ps s, h2 with
    | [x, y], _ =>
      rw [hps] at hp
      simp only [hk, ↓reduceIte]
      rw [Bool.or_eq_true, decide_eq_true_iff, decide_eq_true_iff]
      rcases List.mem_cons.1 hp with e | e
      · exact .inl e.symm
      · exact .inr (List.mem_singleton.1 e).symm
    | [], h2 => exact absurd (show (ps s).length = 2 from h2) (by rw [hps]; simp)
    | [x], h2 => exact absurd (show (ps s).length = 2 from h2) (by rw [hps]; simp)
    | x :: y :: z :: r, h2 => exact absurd (show (ps s).length = 2 from h2) (by rw [hps]; simp)
  · rw [List.any_eq_true]
    refine ⟨s, hs, ?_⟩
    unfold givenAt
    rw [hp]
    simp only [hk]
    rw [if_neg (by decide), if_pos trivial, Bool.and_eq_true, decide_eq_true_iff, decide_eq_true_iff]
    exact ⟨by first | trivial | rfl, hk2⟩
theorem close_l1 {l u : List ByteArray} (hu : Uni u) (hul : u.length ≤ 1000000) : ∀ (m : Nat) (h : List ByteArray), u.length - h.length = m → HInv l u h → ∃ K C, (∀ k, K ≤ k → chantryref04_close.l1 k u h = some C) ∧ HInv l u C ∧ Kw.Shut l u C := by
  intro m
  induction m using Nat.strongRecOn with
  | ind m ih =>
    intro h hm hh
    have hi := HInv.steps hu.ck u h (fun x hx => hx) hh
    obtain ⟨s1, s2⟩ := steps_len hu.ck u h (fun x hx => hx) hh
    have step : ∀ k, 6000 + 3 * u.length < k → chantryref04_close.l1 (k + u.length + 1 + 1) u h = if (u.foldl stepOne h).length = h.length then some (u.foldl stepOne h) else chantryref04_close.l1 k u (u.foldl stepOne h) := by
      intro k hk
      conv => lhs; unfold chantryref04_close.l1
      have := close_l2 hu.ck hul h.length u.length 0 k h (by omega) (by omega) hk hh
      rw [List.drop_zero] at this
      exact this
    by_cases e : (u.foldl stepOne h).length = h.length
    · obtain ⟨e1, e2⟩ := s2 e
      refine ⟨6000 + 3 * u.length + 1 + u.length + 2, u.foldl stepOne h, fun k hk => ?_, hi, ?_⟩
      · have := step (k - u.length - 2) (by omega)
        rw [show k - u.length - 2 + u.length + 1 + 1 = k by omega, if_pos e] at this
        exact this
      · rw [e1]; exact shut_of hu hh e2
    · have hlen := hi.len
      obtain ⟨K, C, c1, c2, c3⟩ := ih (u.length - (u.foldl stepOne h).length) (by omega) (u.foldl stepOne h) rfl hi
      refine ⟨K + 6000 + 3 * u.length + 1 + u.length + 2, C, fun k hk => ?_, c2, c3⟩
      have := step (k - u.length - 2) (by omega)
      rw [show k - u.length - 2 + u.length + 1 + 1 = k by omega, if_neg e] at this
      rw [this]
      exact c1 _ (by omega)
theorem close_l0 (l u : List ByteArray) (hl : l.length ≤ 1000) : ∀ (d i k : Nat) (h : List ByteArray), l.length - i = d → i ≤ l.length → h.length ≤ i → 2000 < k → chantryref04_close.l0 (k + d + 1) l u h (i : Int) = chantryref04_close.l1 k u (putsL (l.drop i) h) := by
  intro d
  induction d with
  | zero =>
    intro i k h hd hi hh hk
    simp only [chantryref04_close.l0]
    rw [if_neg (by omega), List.drop_eq_nil_of_le (by omega)]; rfl
  | succ d ih =>
    intro i k h hd hi hh hk
    have hlt : i < l.length := by omega
    have E := Lib.hid (succ_wrap i (by omega))
    have hr := Lib.hid (rd_at l i hlt)
    have hd2 := Lib.hid (drop_here l i hlt)
    have h2 := (putL_len l[i] h false).2.1
    rw [show k + (d + 1) + 1 = (k + d + 1) + 1 by omega]
    conv => lhs; unfold chantryref04_close.l0
    rw [if_pos (by omega), if_pos (by omega), hr.out, hd2.out, ref_put _ h _ (by omega) (by omega), Option.bind_some, E.out, ih (i + 1) k _ (by omega) (by omega) (by omega) hk]
    rfl
theorem ref_close {l u : List ByteArray} (hl : l.length ≤ 1000) (hu : Uni u) (hul : u.length ≤ 1000000) (hs : ∀ x ∈ l, x ∈ u) : ∃ K C, (∀ k, K ≤ k → chantryref04_close.f k l u = some C) ∧ Rises C ∧ (∀ x ∈ C, x ∈ u) ∧ ∀ x ∈ u, x ∈ C ↔ Dv l x := by
  have h0 : HInv l u (putsL l []) := ⟨puts_rises l [] List.Pairwise.nil, fun x hx => ((puts_mem x l []).1 hx).elim (fun h => by cases h) (hs x), fun x hx => ((puts_mem x l []).1 hx).elim (fun h => by cases h) Dv.mem, fun x hx => (puts_mem x l []).2 (.inr hx)⟩
  obtain ⟨K, C, c1, c2, c3⟩ := close_l1 hu hul _ _ rfl h0
  refine ⟨K + 2001 + l.length + 1, C, fun k hk => ?_, c2.rises, c2.sub, fun x hx => c3.iff c2.sound hx⟩
  have := close_l0 l u hl l.length 0 (k - l.length - 1) [] (by omega) (by omega) (Nat.le_refl _) (by omega)
  rw [show k - l.length - 1 + l.length + 1 = k by omega, List.drop_zero] at this
  unfold chantryref04_close.f
  refine Eq.trans this (c1 _ (by omega))
end Go.Proofs.Ytinkkiglkjihmaa.Ev04
